import Derived.Test.YtidojhgkpgomcaaVmU
import Derived.Test.YtidojhgkpgomcaaProg
namespace Go.Proofs.Ytidojhgkpgomcaa.Run
open Go Go.RowKit Go.Proofs.YtidojhgkpgomcaaW.PrintWords Go.Proofs.Ytidojhgkpgomcaa.Vm
set_option linter.unusedVariables false
set_option maxRecDepth 100000
set_option maxHeartbeats 4000000

noncomputable abbrev sh1 : Sh := (.pair (.int .i64) (.pair (.int .i64) (.pair (.int .i64) (.pair (.int .i64) (.pair (.int .i64) (.pair (.int .i64) (.pair (.int .i64) (.pair (.int .i64) (.pair (.sl 3 (.int .i64)) .bool)))))))))
noncomputable abbrev sh2 : Sh := (.pair (.int .i64) (.pair (.int .i64) (.int .i64)))
noncomputable abbrev sh3 : Sh := (.pair (.int .i64) (.pair (.int .i64) (.pair (.int .i64) (.pair (.int .i64) (.pair (.int .i64) (.pair (.int .i64) (.pair (.int .i64) (.pair (.int .i64) (.pair (.hr 3 (.int .i64)) .bool)))))))))
noncomputable abbrev ty4 : Type := Int × Int × Int × Int × Int × Int × Int × Int × (HD × List Int) × Bool
noncomputable abbrev ty6 : Type := Int × Int × Int × Int × Int × Int × Int × Int × List Int × Bool
noncomputable abbrev df1 : Int × Int × Int × Int × Int × Int × Int × Int × List Int × Bool := ((0 : Int), ((0 : Int), ((0 : Int), ((0 : Int), ((0 : Int), ((0 : Int), ((0 : Int), ((0 : Int), ([], false)))))))))
noncomputable abbrev df2 : Int × Int × Int := ((0 : Int), ((0 : Int), (0 : Int)))
noncomputable abbrev df3 : Int × Int × Int × Int × Int × Int × Int × Int × (HD × List Int) × Bool := ((0 : Int), ((0 : Int), ((0 : Int), ((0 : Int), ((0 : Int), ((0 : Int), ((0 : Int), ((0 : Int), ((((none, 0, 0) : HD), []), false)))))))))
noncomputable def G60 : Env := envNil
noncomputable def c60 : Code := bodyOf Try.f60
noncomputable def L.szIntS (a1 : Int) (a2 : List Int) : Option Int :=
(let v4 : Int := (IntKind.wrap .i64 (a1 - (a2.length : Int)))
(bif (decide (v4 < 0)) then
(some (-1))
else
(some v4)))
noncomputable def sg60 : Sg := ⟨⟨[.one (.sl 0), hh], [], [(3, (.int .i64), .ro)]⟩, [.int .i64, .row (.int .i64)], ⟨[hh], [], []⟩, [.int .i64]⟩
noncomputable def E60 : Fun2 := eOf sg60 L.szIntS
theorem ev60 (a : Args sg60.ks) : evS Try.prog G60 loopNil (0, 0) [] Try.f60 c60 (kOf sg60) (sg60.sk.fl (encP sg60.ks a)) = unc sg60.ks L.szIntS a := by kernel_rfl
theorem good60 : Vm.Good Try.prog 60 E60 := good_gen (G := G60) (L := loopNil) (c := c60) (rn := []) (N := (0, 0)) envNil_good (no_loops (c := c60) (by kernel_rfl)) Try.func60 (by kernel_rfl) (by kernel_rfl) (fun _ => by kernel_rfl) ev60
noncomputable def G34 : Env := (envCons 60 [] E60 envNil)
noncomputable def c34 : Code := bodyOf Try.f34
noncomputable def L.szPane (a1 a2 a3 a4 a5 a6 : Int) (a7 : Bool) (a8 : Int) (a9 : List Int) : Option Int :=
(Option.bind (L.szIntS a8 a9) fun r10 =>
(bif (decide (r10 < 0)) then
(some (-1))
else
(some r10)))
noncomputable def sg34 : Sg := ⟨⟨[.agg (ho 6 [.sl 0, .hole]), hh], [], [(3, (.int .i64), .ro)]⟩, (ki 6 [.bool, .int .i64, .row (.int .i64)]), ⟨[hh], [], []⟩, [.int .i64]⟩
noncomputable def E34 : Fun2 := eOf sg34 L.szPane
theorem ev34 (a : Args sg34.ks) : evS Try.prog G34 loopNil (0, 0) [] Try.f34 c34 (kOf sg34) (sg34.sk.fl (encP sg34.ks a)) = unc sg34.ks L.szPane a := by kernel_rfl
theorem good34 : Vm.Good Try.prog 34 E34 := good_gen (G := G34) (L := loopNil) (c := c34) (rn := []) (N := (0, 0)) (envCons_good good60 envNil_good) (no_loops (c := c34) (by kernel_rfl)) Try.func34 (by kernel_rfl) (by kernel_rfl) (fun _ => by kernel_rfl) ev34
noncomputable def G82 : Env := (envCons 34 [] E34 envNil)
noncomputable def c82 : Code := bodyOf Try.f82
noncomputable def L.szItem (a1 a2 a3 a4 a5 a6 a7 a8 : Int) (a9 : Bool) (a10 : Int) (a11 : List Int) : Option Int :=
(Option.bind (L.szPane a3 a4 a5 a6 a7 a8 a9 a10 a11) fun r12 =>
(bif (decide (r12 < 0)) then
(some (-1))
else
(some r12)))
noncomputable def sg82 : Sg := ⟨⟨[.agg (ho 8 [.sl 0, .hole]), hh], [], [(3, (.int .i64), .ro)]⟩, (ki 8 [.bool, .int .i64, .row (.int .i64)]), ⟨[hh], [], []⟩, [.int .i64]⟩
noncomputable def E82 : Fun2 := eOf sg82 L.szItem
theorem ev82 (a : Args sg82.ks) : evS Try.prog G82 loopNil (0, 0) [] Try.f82 c82 (kOf sg82) (sg82.sk.fl (encP sg82.ks a)) = unc sg82.ks L.szItem a := by kernel_rfl
theorem good82 : Vm.Good Try.prog 82 E82 := good_gen (G := G82) (L := loopNil) (c := c82) (rn := []) (N := (0, 0)) (envCons_good good34 envNil_good) (no_loops (c := c82) (by kernel_rfl)) Try.func82 (by kernel_rfl) (by kernel_rfl) (fun _ => by kernel_rfl) ev82
noncomputable def G43 : Env := (envCons 82 [] E82 envNil)
noncomputable def c43 : Code := bodyOf Try.f43
noncomputable def c43_5 : Code := (loopsOf c43).getD 0 .skip
noncomputable def L.szItemS_l0 : Nat → (Int → Int → Option Int) → (Int → Option Int) → Int → Int → (List ty6) → Option Int
  | 0, _, _, _, _, _ => none
  | m + 1, e5_0, e5_1, a6, a7, a8 =>
    (bif (decide (a7 < (a8.length : Int))) then
    (bif decide ((0 : Int) ≤ a7 ∧ a7 < (a8.length : Int)) then
    (Option.bind (L.szItem ((nthI a8 a7 df1).1) ((nthI a8 a7 df1).2.1) ((nthI a8 a7 df1).2.2.1) ((nthI a8 a7 df1).2.2.2.1) ((nthI a8 a7 df1).2.2.2.2.1) ((nthI a8 a7 df1).2.2.2.2.2.1) ((nthI a8 a7 df1).2.2.2.2.2.2.1) ((nthI a8 a7 df1).2.2.2.2.2.2.2.1) ((nthI a8 a7 df1).2.2.2.2.2.2.2.2.2) a6 ((nthI a8 a7 df1).2.2.2.2.2.2.2.2.1)) fun r11 =>
    (bif (decide (r11 < 0)) then
    (e5_0 r11 (-1))
    else
    (L.szItemS_l0 m e5_0 e5_1 r11 (IntKind.wrap .i64 (a7 + 1)) a8)))
    else
    none)
    else
    (e5_1 a6))
noncomputable def L.szItemS (a1 : Int) (a2 : List ty6) : Option Int :=
(let v4 : Int := (IntKind.wrap .i64 (a1 - (a2.length : Int)))
(bif (decide (v4 < 0)) then
(some (-1))
else
(L.szItemS_l0 fu (fun y14 y15 =>
(some y15)) (fun y16 =>
(some y16)) v4 0 a2)))
noncomputable def H43_5 : LoopH := ⟨⟨((.one (.sl 0)) :: hh :: (hu 3 (hh :: (hu 21 [])))), [], [(126, sh1, .ro)]⟩, ([2, 3, 4] ++ rg 6 21), [], ([0, 2, 3] ++ rg 5 22), [], []⟩
noncomputable def k43_5 : List PK := (ki 2 [.row sh1])
noncomputable def W43_5 (m : Nat) (k : Kont Int) : Cur k43_5 (Option Int) := L.szItemS_l0 m (exF k .ret ⟨((.one (.unk)) :: hh :: (hu 2 (hh :: (hu 22 [])))), [], []⟩ (ki 2 [])) (exF k (.exit 0) ⟨((.one (.unk)) :: hh :: (hu 25 [])), [], []⟩ [.int .i64])
noncomputable def E43_5 (m : Nat) : List Prm → Kont Int → Option Int := eL k43_5 (W43_5 m)
theorem ev43_5 (m : Nat) (k : Kont Int) (a : Args k43_5) : evL Try.prog G43 loopNil c43_5 (turn Try.prog (0, 0) H43_5 (E43_5 m) k) (H43_5.sk.fl (encP k43_5 a)) = unc k43_5 (W43_5 (m + 1) k) a := by kernel_rfl
theorem ok43_5 (m : Nat) : LoopOk Try.prog (0, 0) c43_5 (enter Try.prog (0, 0) H43_5 (E43_5 m)) := loop_gen (Fl := W43_5) (G := G43) (L := loopNil) (envCons_good good82 envNil_good) (no_loops (c := c43_5) (by kernel_rfl)) (fun _ _ => by kernel_rfl) ev43_5 m
noncomputable def L43 : LEnv Int := (loopCons 5 (enter Try.prog (0, 0) H43_5 (E43_5 fu)) loopNil)
theorem lq43 : loopsOf c43 = [c43_5] := by kernel_rfl
theorem fr43_5 : firstReg c43_5 = some 5 := by kernel_rfl
theorem le43_5 : L43 5 = enter Try.prog (0, 0) H43_5 (E43_5 fu) := by kernel_rfl
theorem lm43 : ∀ x ∈ [c43_5], ∀ id, firstReg x = some id → LoopOk Try.prog (0, 0) x (L43 id) := (loops_cons fr43_5 le43_5 (ok43_5 fu) loops_nil)
theorem lp43 : ∀ x ∈ loopsOf c43, ∀ id, firstReg x = some id → LoopOk Try.prog (0, 0) x (L43 id) := loops_eq lq43 lm43
noncomputable def sg43 : Sg := ⟨⟨[.one (.sl 0), hh], [], [(126, sh1, .ro)]⟩, [.int .i64, .row sh1], ⟨[hh], [], []⟩, [.int .i64]⟩
noncomputable def E43 : Fun2 := eOf sg43 L.szItemS
theorem ev43 (a : Args sg43.ks) : evS Try.prog G43 L43 (0, 0) [] Try.f43 c43 (kOf sg43) (sg43.sk.fl (encP sg43.ks a)) = unc sg43.ks L.szItemS a := by kernel_rfl
theorem good43 : Vm.Good Try.prog 43 E43 := good_gen (G := G43) (L := L43) (c := c43) (rn := []) (N := (0, 0)) (envCons_good good82 envNil_good) lp43 Try.func43 (by kernel_rfl) (by kernel_rfl) (fun _ => by kernel_rfl) ev43
noncomputable def G44 : Env := envNil
noncomputable def c44 : Code := bodyOf Try.f44
noncomputable def L.szRecS (a1 : Int) (a2 : List (Int × Int × Int)) : Option Int :=
(let v4 : Int := (IntKind.wrap .i64 (a1 - (a2.length : Int)))
(bif (decide (v4 < 0)) then
(some (-1))
else
(some v4)))
noncomputable def sg44 : Sg := ⟨⟨[.one (.sl 0), hh], [], [(132, sh2, .ro)]⟩, [.int .i64, .row sh2], ⟨[hh], [], []⟩, [.int .i64]⟩
noncomputable def E44 : Fun2 := eOf sg44 L.szRecS
theorem ev44 (a : Args sg44.ks) : evS Try.prog G44 loopNil (0, 0) [] Try.f44 c44 (kOf sg44) (sg44.sk.fl (encP sg44.ks a)) = unc sg44.ks L.szRecS a := by kernel_rfl
theorem good44 : Vm.Good Try.prog 44 E44 := good_gen (G := G44) (L := loopNil) (c := c44) (rn := []) (N := (0, 0)) envNil_good (no_loops (c := c44) (by kernel_rfl)) Try.func44 (by kernel_rfl) (by kernel_rfl) (fun _ => by kernel_rfl) ev44
noncomputable def G13 : Env := (envCons 43 [] E43 (envCons 44 [] E44 envNil))
noncomputable def c13 : Code := bodyOf Try.f13
noncomputable def L.szBox (a1 a2 a3 a4 a5 : Int) (a6 : List ty6) (a7 : List (Int × Int × Int)) : Option Int :=
(Option.bind (L.szItemS a5 a6) fun r8 =>
(bif (decide (r8 < 0)) then
(some (-1))
else
(Option.bind (L.szRecS r8 a7) fun r10 =>
(bif (decide (r10 < 0)) then
(some (-1))
else
(some r10)))))
noncomputable def sg13 : Sg := ⟨⟨[.agg (ho 4 [.sl 0, .sl 1]), hh], [], [(126, sh1, .ro), (132, sh2, .ro)]⟩, (ki 5 [.row sh1, .row sh2]), ⟨[hh], [], []⟩, [.int .i64]⟩
noncomputable def E13 : Fun2 := eOf sg13 L.szBox
theorem ev13 (a : Args sg13.ks) : evS Try.prog G13 loopNil (0, 0) [] Try.f13 c13 (kOf sg13) (sg13.sk.fl (encP sg13.ks a)) = unc sg13.ks L.szBox a := by kernel_rfl
theorem good13 : Vm.Good Try.prog 13 E13 := good_gen (G := G13) (L := loopNil) (c := c13) (rn := []) (N := (0, 0)) (envCons_good good43 (envCons_good good44 envNil_good)) (no_loops (c := c13) (by kernel_rfl)) Try.func13 (by kernel_rfl) (by kernel_rfl) (fun _ => by kernel_rfl) ev13
noncomputable def G68 : Env := envNil
noncomputable def c68 : Code := bodyOf Try.f68
noncomputable def c68_3 : Code := (loopsOf c68).getD 0 .skip
noncomputable def L.toIntS_l0 : Nat → (List Int → Option (List Int)) → Int → List Int → List Int → Option (List Int)
  | 0, _, _, _, _ => none
  | m + 1, e3_0, a4, a5, a6 =>
    (bif (decide (a4 < (a5.length : Int))) then
    (bif decide ((0 : Int) ≤ a4 ∧ a4 < (a5.length : Int)) then
    (bif decide ((0 : Int) ≤ a4 ∧ a4 < (a6.length : Int)) then
    (L.toIntS_l0 m e3_0 (IntKind.wrap .i64 (a4 + 1)) a5 (a6.set (Int.toNat a4) (nthI a5 a4 (0 : Int))))
    else
    none)
    else
    none)
    else
    (e3_0 a6))
noncomputable def L.toIntS (a1 : List Int) : Option (List Int) :=
(let v2 : Int := (a1.length : Int)
(bif decide ((0 : Int) ≤ v2 ∧ v2 ≤ v2 ∧ (8 : Int) * v2 ≤ 281474976710656 ∧ v2 ≤ 9223372036854775807) then
(L.toIntS_l0 fu (fun y11 =>
(some y11)) 0 a1 (List.replicate (Int.toNat v2) (0 : Int)))
else
none))
noncomputable def H68_3 : LoopH := ⟨⟨((.one (.sl 0)) :: (hu 2 ((.one (.sl 1)) :: hh :: (hu 17 [])))), [], [(3, (.int .i64), .ro), (3, (.int .i64), .own)]⟩, ([1, 2] ++ rg 5 17), [], ([0, 1] ++ rg 4 18), [], []⟩
noncomputable def k68_3 : List PK := [.int .i64, .row (.int .i64), .row (.int .i64)]
noncomputable def W68_3 (m : Nat) (k : Kont (List Int)) : Cur k68_3 (Option (List Int)) := L.toIntS_l0 m (exF k (.exit 0) ⟨(hu 3 ((.one (.sl 0)) :: (hu 18 []))), [], [(3, (.int .i64), .own)]⟩ [.row (.int .i64)])
noncomputable def E68_3 (m : Nat) : List Prm → Kont (List Int) → Option (List Int) := eL k68_3 (W68_3 m)
theorem ev68_3 (m : Nat) (k : Kont (List Int)) (a : Args k68_3) : evL Try.prog G68 loopNil c68_3 (turn Try.prog (0, 0) H68_3 (E68_3 m) k) (H68_3.sk.fl (encP k68_3 a)) = unc k68_3 (W68_3 (m + 1) k) a := by kernel_rfl
theorem ok68_3 (m : Nat) : LoopOk Try.prog (0, 0) c68_3 (enter Try.prog (0, 0) H68_3 (E68_3 m)) := loop_gen (Fl := W68_3) (G := G68) (L := loopNil) envNil_good (no_loops (c := c68_3) (by kernel_rfl)) (fun _ _ => by kernel_rfl) ev68_3 m
noncomputable def L68 : LEnv (List Int) := (loopCons 3 (enter Try.prog (0, 0) H68_3 (E68_3 fu)) loopNil)
theorem lq68 : loopsOf c68 = [c68_3] := by kernel_rfl
theorem fr68_3 : firstReg c68_3 = some 3 := by kernel_rfl
theorem le68_3 : L68 3 = enter Try.prog (0, 0) H68_3 (E68_3 fu) := by kernel_rfl
theorem lm68 : ∀ x ∈ [c68_3], ∀ id, firstReg x = some id → LoopOk Try.prog (0, 0) x (L68 id) := (loops_cons fr68_3 le68_3 (ok68_3 fu) loops_nil)
theorem lp68 : ∀ x ∈ loopsOf c68, ∀ id, firstReg x = some id → LoopOk Try.prog (0, 0) x (L68 id) := loops_eq lq68 lm68
noncomputable def sg68 : Sg := ⟨⟨[.one (.sl 0)], [], [(3, (.int .i64), .ro)]⟩, [.row (.int .i64)], ⟨[.one (.sl 0)], [], [(3, (.int .i64), .own)]⟩, [.row (.int .i64)]⟩
noncomputable def E68 : Fun2 := eOf sg68 L.toIntS
theorem ev68 (a : Args sg68.ks) : evS Try.prog G68 L68 (0, 0) [] Try.f68 c68 (kOf sg68) (sg68.sk.fl (encP sg68.ks a)) = unc sg68.ks L.toIntS a := by kernel_rfl
theorem good68 : Vm.Good Try.prog 68 E68 := good_gen (G := G68) (L := L68) (c := c68) (rn := []) (N := (0, 0)) envNil_good lp68 Try.func68 (by kernel_rfl) (by kernel_rfl) (fun _ => by kernel_rfl) ev68
noncomputable def G37 : Env := (envCons 68 [] E68 envNil)
noncomputable def c37 : Code := bodyOf Try.f37
noncomputable def L.toPane (a1 a2 a3 a4 a5 a6 : Int) (a7 : Bool) (a8 : List Int) : Option (Int × Int × Int × Int × Int × Int × Bool × List Int) :=
(Option.bind (L.toIntS a8) fun r9 =>
(some (a1, a2, a3, a4, a5, a6, a7, r9)))
noncomputable def sg37 : Sg := ⟨⟨[.agg (ho 6 [.sl 0, .hole])], [], [(3, (.int .i64), .ro)]⟩, (ki 6 [.bool, .row (.int .i64)]), ⟨[.agg (ho 6 [.sl 0, .hole])], [], [(3, (.int .i64), .own)]⟩, (ki 6 [.bool, .row (.int .i64)])⟩
noncomputable def E37 : Fun2 := eOf sg37 L.toPane
theorem ev37 (a : Args sg37.ks) : evS Try.prog G37 loopNil (0, 0) [] Try.f37 c37 (kOf sg37) (sg37.sk.fl (encP sg37.ks a)) = unc sg37.ks L.toPane a := by kernel_rfl
theorem good37 : Vm.Good Try.prog 37 E37 := good_gen (G := G37) (L := loopNil) (c := c37) (rn := []) (N := (0, 0)) (envCons_good good68 envNil_good) (no_loops (c := c37) (by kernel_rfl)) Try.func37 (by kernel_rfl) (by kernel_rfl) (fun _ => by kernel_rfl) ev37
noncomputable def G86 : Env := (envCons 37 [] E37 envNil)
noncomputable def c86 : Code := bodyOf Try.f86
noncomputable def L.toItem (a1 a2 a3 a4 a5 a6 a7 a8 : Int) (a9 : Bool) (a10 : List Int) : Option (Int × Int × Int × Int × Int × Int × Int × Int × Bool × List Int) :=
(Option.bind (L.toPane a3 a4 a5 a6 a7 a8 a9 a10) fun r11 =>
(some (a1, a2, r11.1, r11.2.1, r11.2.2.1, r11.2.2.2.1, r11.2.2.2.2.1, r11.2.2.2.2.2.1, r11.2.2.2.2.2.2.1, r11.2.2.2.2.2.2.2)))
noncomputable def sg86 : Sg := ⟨⟨[.agg (ho 8 [.sl 0, .hole])], [], [(3, (.int .i64), .ro)]⟩, (ki 8 [.bool, .row (.int .i64)]), ⟨[.agg (ho 8 [.sl 0, .hole])], [], [(3, (.int .i64), .own)]⟩, (ki 8 [.bool, .row (.int .i64)])⟩
noncomputable def E86 : Fun2 := eOf sg86 L.toItem
theorem ev86 (a : Args sg86.ks) : evS Try.prog G86 loopNil (0, 0) [] Try.f86 c86 (kOf sg86) (sg86.sk.fl (encP sg86.ks a)) = unc sg86.ks L.toItem a := by kernel_rfl
theorem good86 : Vm.Good Try.prog 86 E86 := good_gen (G := G86) (L := loopNil) (c := c86) (rn := []) (N := (0, 0)) (envCons_good good37 envNil_good) (no_loops (c := c86) (by kernel_rfl)) Try.func86 (by kernel_rfl) (by kernel_rfl) (fun _ => by kernel_rfl) ev86
noncomputable def G48 : Env := (envCons 86 [] E86 envNil)
noncomputable def c48 : Code := bodyOf Try.f48
noncomputable def c48_3 : Code := (loopsOf c48).getD 0 .skip
noncomputable def L.toItemS_l0 : Nat → ((List ty6) → Option ((List ty6))) → Int → (List ty6) → (List ty6) → Option ((List ty6))
  | 0, _, _, _, _ => none
  | m + 1, e3_0, a4, a5, a6 =>
    (bif (decide (a4 < (a5.length : Int))) then
    (bif decide ((0 : Int) ≤ a4 ∧ a4 < (a5.length : Int)) then
    (Option.bind (L.toItem ((nthI a5 a4 df1).1) ((nthI a5 a4 df1).2.1) ((nthI a5 a4 df1).2.2.1) ((nthI a5 a4 df1).2.2.2.1) ((nthI a5 a4 df1).2.2.2.2.1) ((nthI a5 a4 df1).2.2.2.2.2.1) ((nthI a5 a4 df1).2.2.2.2.2.2.1) ((nthI a5 a4 df1).2.2.2.2.2.2.2.1) ((nthI a5 a4 df1).2.2.2.2.2.2.2.2.2) ((nthI a5 a4 df1).2.2.2.2.2.2.2.2.1)) fun r9 =>
    (bif decide ((0 : Int) ≤ a4 ∧ a4 < (a6.length : Int)) then
    (let v10 : List ty6 := (a6.set (Int.toNat a4) (r9.1, (r9.2.1, (r9.2.2.1, (r9.2.2.2.1, (r9.2.2.2.2.1, (r9.2.2.2.2.2.1, (r9.2.2.2.2.2.2.1, (r9.2.2.2.2.2.2.2.1, (r9.2.2.2.2.2.2.2.2.2, r9.2.2.2.2.2.2.2.2.1))))))))))
    (L.toItemS_l0 m e3_0 (IntKind.wrap .i64 (a4 + 1)) a5 v10))
    else
    none))
    else
    none)
    else
    (e3_0 a6))
noncomputable def L.toItemS (a1 : List ty6) : Option ((List ty6)) :=
(let v2 : Int := (a1.length : Int)
(bif decide ((0 : Int) ≤ v2 ∧ v2 ≤ v2 ∧ (96 : Int) * v2 ≤ 281474976710656 ∧ v2 ≤ 9223372036854775807) then
(let v3 : List ty6 := (List.replicate (Int.toNat v2) (0, (0, (0, (0, (0, (0, (0, (0, ([], false))))))))))
(L.toItemS_l0 fu (fun y12 =>
(some y12)) 0 a1 v3))
else
none))
noncomputable def H48_3 : LoopH := ⟨⟨((.one (.sl 0)) :: (hu 2 ((.one (.sl 1)) :: hh :: (hu 18 [])))), [], [(126, sh1, .ro), (95, sh1, .own)]⟩, ([1, 2] ++ rg 5 18), [], ([0, 1] ++ rg 4 19), [], []⟩
noncomputable def k48_3 : List PK := [.int .i64, .row sh1, .row sh1]
noncomputable def W48_3 (m : Nat) (k : Kont ((List ty6))) : Cur k48_3 (Option ((List ty6))) := L.toItemS_l0 m (exF k (.exit 0) ⟨(hu 3 ((.one (.sl 0)) :: (hu 19 []))), [], [(95, sh1, .own)]⟩ [.row sh1])
noncomputable def E48_3 (m : Nat) : List Prm → Kont ((List ty6)) → Option ((List ty6)) := eL k48_3 (W48_3 m)
theorem ev48_3 (m : Nat) (k : Kont ((List ty6))) (a : Args k48_3) : evL Try.prog G48 loopNil c48_3 (turn Try.prog (0, 0) H48_3 (E48_3 m) k) (H48_3.sk.fl (encP k48_3 a)) = unc k48_3 (W48_3 (m + 1) k) a := by kernel_rfl
theorem ok48_3 (m : Nat) : LoopOk Try.prog (0, 0) c48_3 (enter Try.prog (0, 0) H48_3 (E48_3 m)) := loop_gen (Fl := W48_3) (G := G48) (L := loopNil) (envCons_good good86 envNil_good) (no_loops (c := c48_3) (by kernel_rfl)) (fun _ _ => by kernel_rfl) ev48_3 m
noncomputable def L48 : LEnv ((List ty6)) := (loopCons 3 (enter Try.prog (0, 0) H48_3 (E48_3 fu)) loopNil)
theorem lq48 : loopsOf c48 = [c48_3] := by kernel_rfl
theorem fr48_3 : firstReg c48_3 = some 3 := by kernel_rfl
theorem le48_3 : L48 3 = enter Try.prog (0, 0) H48_3 (E48_3 fu) := by kernel_rfl
theorem lm48 : ∀ x ∈ [c48_3], ∀ id, firstReg x = some id → LoopOk Try.prog (0, 0) x (L48 id) := (loops_cons fr48_3 le48_3 (ok48_3 fu) loops_nil)
theorem lp48 : ∀ x ∈ loopsOf c48, ∀ id, firstReg x = some id → LoopOk Try.prog (0, 0) x (L48 id) := loops_eq lq48 lm48
noncomputable def sg48 : Sg := ⟨⟨[.one (.sl 0)], [], [(126, sh1, .ro)]⟩, [.row sh1], ⟨[.one (.sl 0)], [], [(95, sh1, .own)]⟩, [.row sh1]⟩
noncomputable def E48 : Fun2 := eOf sg48 L.toItemS
theorem ev48 (a : Args sg48.ks) : evS Try.prog G48 L48 (0, 0) [] Try.f48 c48 (kOf sg48) (sg48.sk.fl (encP sg48.ks a)) = unc sg48.ks L.toItemS a := by kernel_rfl
theorem good48 : Vm.Good Try.prog 48 E48 := good_gen (G := G48) (L := L48) (c := c48) (rn := []) (N := (0, 0)) (envCons_good good86 envNil_good) lp48 Try.func48 (by kernel_rfl) (by kernel_rfl) (fun _ => by kernel_rfl) ev48
noncomputable def G87 : Env := envNil
noncomputable def c87 : Code := bodyOf Try.f87
noncomputable def L.toRec (a1 a2 a3 : Int) : Option (Int × Int × Int) :=
(some (a1, a2, a3))
noncomputable def sg87 : Sg := ⟨⟨[.agg (ho 3 [])], [], []⟩, (ki 3 []), ⟨[.agg (ho 3 [])], [], []⟩, (ki 3 [])⟩
noncomputable def E87 : Fun2 := eOf sg87 L.toRec
theorem ev87 (a : Args sg87.ks) : evS Try.prog G87 loopNil (0, 0) [] Try.f87 c87 (kOf sg87) (sg87.sk.fl (encP sg87.ks a)) = unc sg87.ks L.toRec a := by kernel_rfl
theorem good87 : Vm.Good Try.prog 87 E87 := good_gen (G := G87) (L := loopNil) (c := c87) (rn := []) (N := (0, 0)) envNil_good (no_loops (c := c87) (by kernel_rfl)) Try.func87 (by kernel_rfl) (by kernel_rfl) (fun _ => by kernel_rfl) ev87
noncomputable def G49 : Env := (envCons 87 [] E87 envNil)
noncomputable def c49 : Code := bodyOf Try.f49
noncomputable def c49_3 : Code := (loopsOf c49).getD 0 .skip
noncomputable def L.toRecS_l0 : Nat → ((List (Int × Int × Int)) → Option ((List (Int × Int × Int)))) → Int → (List (Int × Int × Int)) → (List (Int × Int × Int)) → Option ((List (Int × Int × Int)))
  | 0, _, _, _, _ => none
  | m + 1, e3_0, a4, a5, a6 =>
    (bif (decide (a4 < (a5.length : Int))) then
    (bif decide ((0 : Int) ≤ a4 ∧ a4 < (a5.length : Int)) then
    (Option.bind (L.toRec ((nthI a5 a4 df2).1) ((nthI a5 a4 df2).2.1) ((nthI a5 a4 df2).2.2)) fun r9 =>
    (bif decide ((0 : Int) ≤ a4 ∧ a4 < (a6.length : Int)) then
    (L.toRecS_l0 m e3_0 (IntKind.wrap .i64 (a4 + 1)) a5 (a6.set (Int.toNat a4) (r9.1, (r9.2.1, r9.2.2))))
    else
    none))
    else
    none)
    else
    (e3_0 a6))
noncomputable def L.toRecS (a1 : List (Int × Int × Int)) : Option ((List (Int × Int × Int))) :=
(let v2 : Int := (a1.length : Int)
(bif decide ((0 : Int) ≤ v2 ∧ v2 ≤ v2 ∧ (24 : Int) * v2 ≤ 281474976710656 ∧ v2 ≤ 9223372036854775807) then
(L.toRecS_l0 fu (fun y12 =>
(some y12)) 0 a1 (List.replicate (Int.toNat v2) (0, (0, 0))))
else
none))
noncomputable def H49_3 : LoopH := ⟨⟨((.one (.sl 0)) :: (hu 2 ((.one (.sl 1)) :: hh :: (hu 18 [])))), [], [(132, sh2, .ro), (129, sh2, .own)]⟩, ([1, 2] ++ rg 5 18), [], ([0, 1] ++ rg 4 19), [], []⟩
noncomputable def k49_3 : List PK := [.int .i64, .row sh2, .row sh2]
noncomputable def W49_3 (m : Nat) (k : Kont ((List (Int × Int × Int)))) : Cur k49_3 (Option ((List (Int × Int × Int)))) := L.toRecS_l0 m (exF k (.exit 0) ⟨(hu 3 ((.one (.sl 0)) :: (hu 19 []))), [], [(129, sh2, .own)]⟩ [.row sh2])
noncomputable def E49_3 (m : Nat) : List Prm → Kont ((List (Int × Int × Int))) → Option ((List (Int × Int × Int))) := eL k49_3 (W49_3 m)
theorem ev49_3 (m : Nat) (k : Kont ((List (Int × Int × Int)))) (a : Args k49_3) : evL Try.prog G49 loopNil c49_3 (turn Try.prog (0, 0) H49_3 (E49_3 m) k) (H49_3.sk.fl (encP k49_3 a)) = unc k49_3 (W49_3 (m + 1) k) a := by kernel_rfl
theorem ok49_3 (m : Nat) : LoopOk Try.prog (0, 0) c49_3 (enter Try.prog (0, 0) H49_3 (E49_3 m)) := loop_gen (Fl := W49_3) (G := G49) (L := loopNil) (envCons_good good87 envNil_good) (no_loops (c := c49_3) (by kernel_rfl)) (fun _ _ => by kernel_rfl) ev49_3 m
noncomputable def L49 : LEnv ((List (Int × Int × Int))) := (loopCons 3 (enter Try.prog (0, 0) H49_3 (E49_3 fu)) loopNil)
theorem lq49 : loopsOf c49 = [c49_3] := by kernel_rfl
theorem fr49_3 : firstReg c49_3 = some 3 := by kernel_rfl
theorem le49_3 : L49 3 = enter Try.prog (0, 0) H49_3 (E49_3 fu) := by kernel_rfl
theorem lm49 : ∀ x ∈ [c49_3], ∀ id, firstReg x = some id → LoopOk Try.prog (0, 0) x (L49 id) := (loops_cons fr49_3 le49_3 (ok49_3 fu) loops_nil)
theorem lp49 : ∀ x ∈ loopsOf c49, ∀ id, firstReg x = some id → LoopOk Try.prog (0, 0) x (L49 id) := loops_eq lq49 lm49
noncomputable def sg49 : Sg := ⟨⟨[.one (.sl 0)], [], [(132, sh2, .ro)]⟩, [.row sh2], ⟨[.one (.sl 0)], [], [(129, sh2, .own)]⟩, [.row sh2]⟩
noncomputable def E49 : Fun2 := eOf sg49 L.toRecS
theorem ev49 (a : Args sg49.ks) : evS Try.prog G49 L49 (0, 0) [] Try.f49 c49 (kOf sg49) (sg49.sk.fl (encP sg49.ks a)) = unc sg49.ks L.toRecS a := by kernel_rfl
theorem good49 : Vm.Good Try.prog 49 E49 := good_gen (G := G49) (L := L49) (c := c49) (rn := []) (N := (0, 0)) (envCons_good good87 envNil_good) lp49 Try.func49 (by kernel_rfl) (by kernel_rfl) (fun _ => by kernel_rfl) ev49
noncomputable def G15 : Env := (envCons 48 [] E48 (envCons 49 [] E49 envNil))
noncomputable def c15 : Code := bodyOf Try.f15
noncomputable def L.toBox (a1 a2 a3 a4 : Int) (a5 : List ty6) (a6 : List (Int × Int × Int)) : Option (Int × Int × Int × Int × (List ty6) × (List (Int × Int × Int))) :=
(Option.bind (L.toItemS a5) fun r7 =>
(Option.bind (L.toRecS a6) fun r8 =>
(some (a1, a2, a3, a4, r7, r8))))
noncomputable def sg15 : Sg := ⟨⟨[.agg (ho 4 [.sl 0, .sl 1])], [], [(126, sh1, .ro), (132, sh2, .ro)]⟩, (ki 4 [.row sh1, .row sh2]), ⟨[.agg (ho 4 [.sl 0, .sl 1])], [], [(95, sh1, .own), (129, sh2, .own)]⟩, (ki 4 [.row sh1, .row sh2])⟩
noncomputable def E15 : Fun2 := eOf sg15 L.toBox
theorem ev15 (a : Args sg15.ks) : evS Try.prog G15 loopNil (0, 0) [] Try.f15 c15 (kOf sg15) (sg15.sk.fl (encP sg15.ks a)) = unc sg15.ks L.toBox a := by kernel_rfl
theorem good15 : Vm.Good Try.prog 15 E15 := good_gen (G := G15) (L := loopNil) (c := c15) (rn := []) (N := (0, 0)) (envCons_good good48 (envCons_good good49 envNil_good)) (no_loops (c := c15) (by kernel_rfl)) Try.func15 (by kernel_rfl) (by kernel_rfl) (fun _ => by kernel_rfl) ev15
noncomputable def G83 : Env := envNil
noncomputable def c83 : Code := bodyOf Try.f83
noncomputable def S.l10Cap (a1 : Int) : Option Bool :=
(bif (decide (1 ≤ a1)) then
(some (decide (a1 ≤ 50)))
else
(some false))
noncomputable def sg83 : Sg := ⟨⟨[hh], [], []⟩, [.int .i64], ⟨[hh], [], []⟩, [.bool]⟩
noncomputable def E83 : Fun2 := eOf sg83 S.l10Cap
theorem ev83 (a : Args sg83.ks) : evS Try.prog G83 loopNil (0, 0) [] Try.f83 c83 (kOf sg83) (sg83.sk.fl (encP sg83.ks a)) = unc sg83.ks S.l10Cap a := by kernel_rfl
theorem good83 : Vm.Good Try.prog 83 E83 := good_gen (G := G83) (L := loopNil) (c := c83) (rn := []) (N := (0, 0)) envNil_good (no_loops (c := c83) (by kernel_rfl)) Try.func83 (by kernel_rfl) (by kernel_rfl) (fun _ => by kernel_rfl) ev83
noncomputable def G84 : Env := envNil
noncomputable def c84 : Code := bodyOf Try.f84
noncomputable def S.l10Count (a1 : Int) : Option Bool :=
(bif (decide (0 ≤ a1)) then
(some (decide (a1 ≤ 1000000)))
else
(some false))
noncomputable def sg84 : Sg := ⟨⟨[hh], [], []⟩, [.int .i64], ⟨[hh], [], []⟩, [.bool]⟩
noncomputable def E84 : Fun2 := eOf sg84 S.l10Count
theorem ev84 (a : Args sg84.ks) : evS Try.prog G84 loopNil (0, 0) [] Try.f84 c84 (kOf sg84) (sg84.sk.fl (encP sg84.ks a)) = unc sg84.ks S.l10Count a := by kernel_rfl
theorem good84 : Vm.Good Try.prog 84 E84 := good_gen (G := G84) (L := loopNil) (c := c84) (rn := []) (N := (0, 0)) envNil_good (no_loops (c := c84) (by kernel_rfl)) Try.func84 (by kernel_rfl) (by kernel_rfl) (fun _ => by kernel_rfl) ev84
noncomputable def G85 : Env := envNil
noncomputable def c85 : Code := bodyOf Try.f85
noncomputable def S.l10Rule (a1 : Int) : Option Bool :=
(bif (decide ((-1) ≤ a1)) then
(some (decide (a1 ≤ 15)))
else
(some false))
noncomputable def sg85 : Sg := ⟨⟨[hh], [], []⟩, [.int .i64], ⟨[hh], [], []⟩, [.bool]⟩
noncomputable def E85 : Fun2 := eOf sg85 S.l10Rule
theorem ev85 (a : Args sg85.ks) : evS Try.prog G85 loopNil (0, 0) [] Try.f85 c85 (kOf sg85) (sg85.sk.fl (encP sg85.ks a)) = unc sg85.ks S.l10Rule a := by kernel_rfl
theorem good85 : Vm.Good Try.prog 85 E85 := good_gen (G := G85) (L := loopNil) (c := c85) (rn := []) (N := (0, 0)) envNil_good (no_loops (c := c85) (by kernel_rfl)) Try.func85 (by kernel_rfl) (by kernel_rfl) (fun _ => by kernel_rfl) ev85
noncomputable def G108 : Env := envNil
noncomputable def c108 : Code := bodyOf Try.f108
noncomputable def S.l04Key (a1 : Int) : Option Bool :=
(bif (decide (0 ≤ a1)) then
(some (decide (a1 ≤ 15)))
else
(some false))
noncomputable def sg108 : Sg := ⟨⟨[hh], [], []⟩, [.int .i64], ⟨[hh], [], []⟩, [.bool]⟩
noncomputable def E108 : Fun2 := eOf sg108 S.l04Key
theorem ev108 (a : Args sg108.ks) : evS Try.prog G108 loopNil (0, 0) [] Try.f108 c108 (kOf sg108) (sg108.sk.fl (encP sg108.ks a)) = unc sg108.ks S.l04Key a := by kernel_rfl
theorem good108 : Vm.Good Try.prog 108 E108 := good_gen (G := G108) (L := loopNil) (c := c108) (rn := []) (N := (0, 0)) envNil_good (no_loops (c := c108) (by kernel_rfl)) Try.func108 (by kernel_rfl) (by kernel_rfl) (fun _ => by kernel_rfl) ev108
noncomputable def G109 : Env := envNil
noncomputable def c109 : Code := bodyOf Try.f109
noncomputable def S.l06Win (a1 a2 : Int) : Option Bool :=
(bif (decide (0 ≤ a1)) then
(bif (decide (a1 < a2)) then
(some (decide (a2 ≤ 1100)))
else
(some false))
else
(some false))
noncomputable def sg109 : Sg := ⟨⟨[.agg (ho 2 [])], [], []⟩, (ki 2 []), ⟨[hh], [], []⟩, [.bool]⟩
noncomputable def E109 : Fun2 := eOf sg109 S.l06Win
theorem ev109 (a : Args sg109.ks) : evS Try.prog G109 loopNil (0, 0) [] Try.f109 c109 (kOf sg109) (sg109.sk.fl (encP sg109.ks a)) = unc sg109.ks S.l06Win a := by kernel_rfl
theorem good109 : Vm.Good Try.prog 109 E109 := good_gen (G := G109) (L := loopNil) (c := c109) (rn := []) (N := (0, 0)) envNil_good (no_loops (c := c109) (by kernel_rfl)) Try.func109 (by kernel_rfl) (by kernel_rfl) (fun _ => by kernel_rfl) ev109
noncomputable def G64 : Env := (envCons 108 [] E108 (envCons 109 [] E109 envNil))
noncomputable def c64 : Code := bodyOf Try.f64
noncomputable def S.PaneOk (a1 a2 a3 a4 a5 a6 : Int) (a7 : Bool) (a8 : List Int) : Option Bool :=
(bif (decide (a1 < 0)) then
(some false)
else
(bif (decide (4 ≤ a1)) then
(some false)
else
(Option.bind (S.l04Key a2) fun r11 =>
(bif (!r11) then
(some false)
else
(Option.bind (S.l06Win a3 a4) fun r12 =>
(bif (!r12) then
(some false)
else
(bif (decide (a5 < 0)) then
(some false)
else
(bif (decide (16 ≤ a5)) then
(some false)
else
(bif (decide (a6 < 1)) then
(some false)
else
(bif (decide (1000000 < a6)) then
(some false)
else
(bif (decide (4 < (a8.length : Int))) then
(some false)
else
(some (((a8.length : Int) == 0) == a7)))))))))))))
noncomputable def sg64 : Sg := ⟨⟨[.agg (ho 6 [.sl 0, .hole])], [], [(3, (.int .i64), .ro)]⟩, (ki 6 [.bool, .row (.int .i64)]), ⟨[hh], [], []⟩, [.bool]⟩
noncomputable def E64 : Fun2 := eOf sg64 S.PaneOk
theorem ev64 (a : Args sg64.ks) : evS Try.prog G64 loopNil (0, 0) [] Try.f64 c64 (kOf sg64) (sg64.sk.fl (encP sg64.ks a)) = unc sg64.ks S.PaneOk a := by kernel_rfl
theorem good64 : Vm.Good Try.prog 64 E64 := good_gen (G := G64) (L := loopNil) (c := c64) (rn := []) (N := (0, 0)) (envCons_good good108 (envCons_good good109 envNil_good)) (no_loops (c := c64) (by kernel_rfl)) Try.func64 (by kernel_rfl) (by kernel_rfl) (fun _ => by kernel_rfl) ev64
noncomputable def G45 : Env := (envCons 83 [] E83 (envCons 84 [] E84 (envCons 85 [] E85 (envCons 64 [] E64 envNil))))
noncomputable def c45 : Code := bodyOf Try.f45
noncomputable def c45_4 : Code := (loopsOf c45).getD 0 .skip
noncomputable def c45_9 : Code := (loopsOf c45).getD 1 .skip
noncomputable def c45_15 : Code := (loopsOf c45_9).getD 0 .skip
noncomputable def S.BoxOk_l0 : Nat → (Bool → Int → Int → Int → Int → (List ty6) → (List (Int × Int × Int)) → Option Bool) → (Int → Int → Int → Int → (List ty6) → (List (Int × Int × Int)) → Option Bool) → Int → Int → Int → Int → Int → (List ty6) → (List (Int × Int × Int)) → Option Bool
  | 0, _, _, _, _, _, _, _, _, _ => none
  | m + 1, e4_0, e4_1, a15, a16, a17, a18, a19, a20, a21 =>
    (bif (decide (a15 < (a20.length : Int))) then
    (bif decide ((0 : Int) ≤ a15 ∧ a15 < (a20.length : Int)) then
    (let v27 : Bool := ((nthI a20 a15 df1).1 != (IntKind.wrap .i64 ((IntKind.wrap .i64 (a18 - (a20.length : Int))) + a15)))
    (bif v27 then
    (e4_0 false a16 a17 a18 a19 a20 a21)
    else
    (bif decide ((0 : Int) ≤ a15 ∧ a15 < (a20.length : Int)) then
    (let v28 : Bool := (decide ((nthI a20 a15 df1).1 < 0))
    (bif v28 then
    (e4_0 false a16 a17 a18 a19 a20 a21)
    else
    (bif decide ((0 : Int) ≤ a15 ∧ a15 < (a20.length : Int)) then
    (Option.bind (S.l10Rule ((nthI a20 a15 df1).2.1)) fun r29 =>
    (bif (!r29) then
    (e4_0 false a16 a17 a18 a19 a20 a21)
    else
    (bif decide ((0 : Int) ≤ a15 ∧ a15 < (a20.length : Int)) then
    (Option.bind (S.PaneOk ((nthI a20 a15 df1).2.2.1) ((nthI a20 a15 df1).2.2.2.1) ((nthI a20 a15 df1).2.2.2.2.1) ((nthI a20 a15 df1).2.2.2.2.2.1) ((nthI a20 a15 df1).2.2.2.2.2.2.1) ((nthI a20 a15 df1).2.2.2.2.2.2.2.1) ((nthI a20 a15 df1).2.2.2.2.2.2.2.2.2) ((nthI a20 a15 df1).2.2.2.2.2.2.2.2.1)) fun r30 =>
    (bif (!r30) then
    (e4_0 false a16 a17 a18 a19 a20 a21)
    else
    (S.BoxOk_l0 m e4_0 e4_1 (IntKind.wrap .i64 (a15 + 1)) a16 a17 a18 a19 a20 a21)))
    else
    none)))
    else
    none)))
    else
    none)))
    else
    none)
    else
    (e4_1 a16 a17 a18 a19 a20 a21))
noncomputable def S.BoxOk_l2 : Nat → (Bool → Int → Int → Int → Int → Int → (List ty6) → (List (Int × Int × Int)) → Option Bool) → (Int → Int → Int → Int → Int → (List ty6) → (List (Int × Int × Int)) → Option Bool) → Int → Int → Int → Int → Int → Int → Int → Int → Int → (List ty6) → (List (Int × Int × Int)) → Option Bool
  | 0, _, _, _, _, _, _, _, _, _, _, _, _, _ => none
  | m + 1, e15_0, e15_1, a62, a63, a64, a65, a66, a67, a68, a69, a70, a71, a72 =>
    (bif (decide (a63 < (a71.length : Int))) then
    (bif decide ((0 : Int) ≤ a63 ∧ a63 < (a71.length : Int)) then
    (let v75 : Bool := ((nthI a71 a63 df1).1 == a68)
    (bif v75 then
    (bif decide ((0 : Int) ≤ a63 ∧ a63 < (a71.length : Int)) then
    (let v76 : Bool := ((nthI a71 a63 df1).2.1 != a69)
    (bif v76 then
    (e15_0 false a62 a64 a65 a66 a67 a71 a72)
    else
    (bif decide ((0 : Int) ≤ a63 ∧ a63 < (a71.length : Int)) then
    (let v77 : Bool := ((nthI a71 a63 df1).2.2.2.2.2.2.1 != a70)
    (bif v77 then
    (e15_0 false a62 a64 a65 a66 a67 a71 a72)
    else
    (S.BoxOk_l2 m e15_0 e15_1 a62 (IntKind.wrap .i64 (a63 + 1)) a64 a65 a66 a67 a68 a69 a70 a71 a72)))
    else
    none)))
    else
    none)
    else
    (S.BoxOk_l2 m e15_0 e15_1 a62 (IntKind.wrap .i64 (a63 + 1)) a64 a65 a66 a67 a68 a69 a70 a71 a72)))
    else
    none)
    else
    (e15_1 a62 a64 a65 a66 a67 a71 a72))
noncomputable def S.BoxOk_l1 : Nat → (Bool → Option Bool) → (Option Bool) → Int → Int → Int → Int → Int → (List ty6) → (List (Int × Int × Int)) → Option Bool
  | 0, _, _, _, _, _, _, _, _, _ => none
  | m + 1, e9_0, e9_1, a45, a46, a47, a48, a49, a50, a51 =>
    (bif (decide (a45 < (a51.length : Int))) then
    (bif decide ((0 : Int) ≤ a45 ∧ a45 < (a51.length : Int)) then
    (let v57 : Bool := ((nthI a51 a45 df2).1 != (IntKind.wrap .i64 ((IntKind.wrap .i64 (a48 - (a51.length : Int))) + a45)))
    (bif v57 then
    (e9_0 false)
    else
    (let v58 : Bool := (decide ((nthI a51 a45 df2).1 < 0))
    (bif v58 then
    (e9_0 false)
    else
    (Option.bind (S.l10Rule ((nthI a51 a45 df2).2.1)) fun r59 =>
    (bif (!r59) then
    (e9_0 false)
    else
    (let v60 : Bool := (decide ((nthI a51 a45 df2).2.2 < 0))
    (bif v60 then
    (e9_0 false)
    else
    (let v61 : Bool := (decide (16 ≤ (nthI a51 a45 df2).2.2))
    (bif v61 then
    (e9_0 false)
    else
    (S.BoxOk_l2 fu (fun y80 y81 y82 y83 y84 y85 y86 y87 =>
    (e9_0 y80)) (fun y88 y89 y90 y91 y92 y93 y94 =>
    (S.BoxOk_l1 m e9_0 e9_1 (IntKind.wrap .i64 (y88 + 1)) y89 y90 y91 y92 y93 y94)) a45 0 a46 a47 a48 a49 ((nthI a51 a45 df2).1) ((nthI a51 a45 df2).2.1) ((nthI a51 a45 df2).2.2) a50 a51)))))))))))
    else
    none)
    else
    e9_1)
noncomputable def S.BoxOk (a1 a2 a3 a4 : Int) (a5 : List ty6) (a6 : List (Int × Int × Int)) : Option Bool :=
(Option.bind (S.l10Cap a1) fun r7 =>
(bif (!r7) then
(some false)
else
(Option.bind (S.l10Cap a2) fun r8 =>
(bif (!r8) then
(some false)
else
(Option.bind (S.l10Count a3) fun r9 =>
(bif (!r9) then
(some false)
else
(Option.bind (S.l10Count a4) fun r10 =>
(bif (!r10) then
(some false)
else
(bif (decide (a1 < (a5.length : Int))) then
(some false)
else
(bif (decide (a2 < (a6.length : Int))) then
(some false)
else
(S.BoxOk_l0 fu (fun y32 y33 y34 y35 y36 y37 y38 =>
(some y32)) (fun y39 y40 y41 y42 y43 y44 =>
(S.BoxOk_l1 fu (fun y96 =>
(some y96)) (some true) 0 y39 y40 y41 y42 y43 y44)) 0 a1 a2 a3 a4 a5 a6)))))))))))
noncomputable def H45_4 : LoopH := ⟨⟨((.one (.unk)) :: (.one (.ptr 0 0)) :: (.one (.unk)) :: hh :: (hu 175 [])), [(38, (ho 4 [.sl 0, .sl 1]))], [(95, sh1, .ro), (129, sh2, .ro)]⟩, ([0, 2] ++ rg 4 175), [], ([0] ++ rg 3 176), [], []⟩
noncomputable def k45_4 : List PK := (ki 5 [.row sh1, .row sh2])
noncomputable def W45_4 (m : Nat) (k : Kont Bool) : Cur k45_4 (Option Bool) := S.BoxOk_l0 m (exF k .ret ⟨((.one (.unk)) :: (.one (.ptr 0 0)) :: hh :: (hu 176 [])), [(38, (ho 4 [.sl 0, .sl 1]))], [(95, sh1, .ro), (129, sh2, .ro)]⟩ ((.bool) :: (ki 4 [.row sh1, .row sh2]))) (exF k (.exit 0) ⟨((.one (.unk)) :: (.one (.ptr 0 0)) :: (hu 177 [])), [(38, (ho 4 [.sl 0, .sl 1]))], [(95, sh1, .ro), (129, sh2, .ro)]⟩ (ki 4 [.row sh1, .row sh2]))
noncomputable def E45_4 (m : Nat) : List Prm → Kont Bool → Option Bool := eL k45_4 (W45_4 m)
theorem ev45_4 (m : Nat) (k : Kont Bool) (a : Args k45_4) : evL Try.prog G45 loopNil c45_4 (turn Try.prog (0, 0) H45_4 (E45_4 m) k) (H45_4.sk.fl (encP k45_4 a)) = unc k45_4 (W45_4 (m + 1) k) a := by kernel_rfl
theorem ok45_4 (m : Nat) : LoopOk Try.prog (0, 0) c45_4 (enter Try.prog (0, 0) H45_4 (E45_4 m)) := loop_gen (Fl := W45_4) (G := G45) (L := loopNil) (envCons_good good83 (envCons_good good84 (envCons_good good85 (envCons_good good64 envNil_good)))) (no_loops (c := c45_4) (by kernel_rfl)) (fun _ _ => by kernel_rfl) ev45_4 m
noncomputable def H45_15 : LoopH := ⟨⟨((.one (.unk)) :: (.one (.ptr 0 0)) :: (hu 2 (hh :: (.one (.ptr 1 0)) :: hh :: (hu 172 [])))), [(38, (ho 4 [.sl 0, .sl 1])), (129, (ho 3 []))], [(95, sh1, .ro), (129, sh2, .ro)]⟩, ([0, 2, 3] ++ rg 7 172), [], ([0, 3] ++ rg 5 174), [], []⟩
noncomputable def k45_15 : List PK := (ki 9 [.row sh1, .row sh2])
noncomputable def W45_15 (m : Nat) (k : Kont Bool) : Cur k45_15 (Option Bool) := S.BoxOk_l2 m (exF k .ret ⟨((.one (.unk)) :: (.one (.ptr 0 0)) :: hh :: (.one (.unk)) :: hh :: (hu 174 [])), [(38, (ho 4 [.sl 0, .sl 1]))], [(95, sh1, .ro), (129, sh2, .ro)]⟩ ((.bool) :: (ki 5 [.row sh1, .row sh2]))) (exF k (.exit 4) ⟨((.one (.unk)) :: (.one (.ptr 0 0)) :: (hu 2 (hh :: (hu 174 [])))), [(38, (ho 4 [.sl 0, .sl 1]))], [(95, sh1, .ro), (129, sh2, .ro)]⟩ (ki 5 [.row sh1, .row sh2]))
noncomputable def E45_15 (m : Nat) : List Prm → Kont Bool → Option Bool := eL k45_15 (W45_15 m)
theorem ev45_15 (m : Nat) (k : Kont Bool) (a : Args k45_15) : evL Try.prog G45 loopNil c45_15 (turn Try.prog (0, 0) H45_15 (E45_15 m) k) (H45_15.sk.fl (encP k45_15 a)) = unc k45_15 (W45_15 (m + 1) k) a := by kernel_rfl
theorem ok45_15 (m : Nat) : LoopOk Try.prog (0, 0) c45_15 (enter Try.prog (0, 0) H45_15 (E45_15 m)) := loop_gen (Fl := W45_15) (G := G45) (L := loopNil) (envCons_good good83 (envCons_good good84 (envCons_good good85 (envCons_good good64 envNil_good)))) (no_loops (c := c45_15) (by kernel_rfl)) (fun _ _ => by kernel_rfl) ev45_15 m
noncomputable def L45_9 : LEnv Bool := (loopCons 15 (enter Try.prog (0, 0) H45_15 (E45_15 fu)) loopNil)
theorem lq45_9 : loopsOf c45_9 = [c45_15] := by kernel_rfl
theorem fr45_15 : firstReg c45_15 = some 15 := by kernel_rfl
theorem le45_15 : L45_9 15 = enter Try.prog (0, 0) H45_15 (E45_15 fu) := by kernel_rfl
theorem lm45_9 : ∀ x ∈ [c45_15], ∀ id, firstReg x = some id → LoopOk Try.prog (0, 0) x (L45_9 id) := (loops_cons fr45_15 le45_15 (ok45_15 fu) loops_nil)
theorem lp45_9 : ∀ x ∈ loopsOf c45_9, ∀ id, firstReg x = some id → LoopOk Try.prog (0, 0) x (L45_9 id) := loops_eq lq45_9 lm45_9
noncomputable def H45_9 : LoopH := ⟨⟨((.one (.unk)) :: (.one (.ptr 0 0)) :: (hu 2 (hh :: (hu 174 [])))), [(38, (ho 4 [.sl 0, .sl 1]))], [(95, sh1, .ro), (129, sh2, .ro)]⟩, ([0, 2, 3] ++ rg 5 174), [], ([0, 1] ++ rg 3 176), [], []⟩
noncomputable def k45_9 : List PK := (ki 5 [.row sh1, .row sh2])
noncomputable def W45_9 (m : Nat) (k : Kont Bool) : Cur k45_9 (Option Bool) := S.BoxOk_l1 m (exF k .ret ⟨(hu 2 (hh :: (hu 176 []))), [], []⟩ [.bool]) (exF k (.exit 2) ⟨(hu 179 []), [], []⟩ [])
noncomputable def E45_9 (m : Nat) : List Prm → Kont Bool → Option Bool := eL k45_9 (W45_9 m)
theorem ev45_9 (m : Nat) (k : Kont Bool) (a : Args k45_9) : evL Try.prog G45 L45_9 c45_9 (turn Try.prog (0, 0) H45_9 (E45_9 m) k) (H45_9.sk.fl (encP k45_9 a)) = unc k45_9 (W45_9 (m + 1) k) a := by kernel_rfl
theorem ok45_9 (m : Nat) : LoopOk Try.prog (0, 0) c45_9 (enter Try.prog (0, 0) H45_9 (E45_9 m)) := loop_gen (Fl := W45_9) (G := G45) (L := L45_9) (envCons_good good83 (envCons_good good84 (envCons_good good85 (envCons_good good64 envNil_good)))) lp45_9 (fun _ _ => by kernel_rfl) ev45_9 m
noncomputable def L45 : LEnv Bool := (loopCons 4 (enter Try.prog (0, 0) H45_4 (E45_4 fu)) (loopCons 9 (enter Try.prog (0, 0) H45_9 (E45_9 fu)) loopNil))
theorem lq45 : loopsOf c45 = [c45_4, c45_9] := by kernel_rfl
theorem fr45_4 : firstReg c45_4 = some 4 := by kernel_rfl
theorem le45_4 : L45 4 = enter Try.prog (0, 0) H45_4 (E45_4 fu) := by kernel_rfl
theorem fr45_9 : firstReg c45_9 = some 9 := by kernel_rfl
theorem le45_9 : L45 9 = enter Try.prog (0, 0) H45_9 (E45_9 fu) := by kernel_rfl
theorem lm45 : ∀ x ∈ [c45_4, c45_9], ∀ id, firstReg x = some id → LoopOk Try.prog (0, 0) x (L45 id) := (loops_cons fr45_4 le45_4 (ok45_4 fu) (loops_cons fr45_9 le45_9 (ok45_9 fu) loops_nil))
theorem lp45 : ∀ x ∈ loopsOf c45, ∀ id, firstReg x = some id → LoopOk Try.prog (0, 0) x (L45 id) := loops_eq lq45 lm45
noncomputable def sg45 : Sg := ⟨⟨[.agg (ho 4 [.sl 0, .sl 1])], [], [(95, sh1, .ro), (129, sh2, .ro)]⟩, (ki 4 [.row sh1, .row sh2]), ⟨[hh], [], []⟩, [.bool]⟩
noncomputable def E45 : Fun2 := eOf sg45 S.BoxOk
theorem ev45 (a : Args sg45.ks) : evS Try.prog G45 L45 (0, 0) [] Try.f45 c45 (kOf sg45) (sg45.sk.fl (encP sg45.ks a)) = unc sg45.ks S.BoxOk a := by kernel_rfl
theorem good45 : Vm.Good Try.prog 45 E45 := good_gen (G := G45) (L := L45) (c := c45) (rn := []) (N := (0, 0)) (envCons_good good83 (envCons_good good84 (envCons_good good85 (envCons_good good64 envNil_good)))) lp45 Try.func45 (by kernel_rfl) (by kernel_rfl) (fun _ => by kernel_rfl) ev45
noncomputable def G36 : Env := envNil
noncomputable def c36 : Code := bodyOf Try.f36
noncomputable def S.l08Copy (a1 a2 a3 a4 a5 a6 : Int) (a7 : Bool) (a8 : List Int) : Option (Int × Int × Int × Int × Int × Int × Bool × List Int) :=
(bif decide ((([] : List (Int)).length + a8.length) * 8 ≤ 140737488355328) then
(some (a1, a2, a3, a4, a5, a6, a7, (([] : List (Int)) ++ a8)))
else
none)
noncomputable def sg36 : Sg := ⟨⟨[.agg (ho 6 [.sl 0, .hole])], [], [(3, (.int .i64), .ro)]⟩, (ki 6 [.bool, .row (.int .i64)]), ⟨[.agg (ho 6 [.sl 0, .hole])], [], [(3, (.int .i64), .own)]⟩, (ki 6 [.bool, .row (.int .i64)])⟩
noncomputable def E36 : Fun2 := eOf sg36 S.l08Copy
theorem ev36 (a : Args sg36.ks) : evS Try.prog G36 loopNil (0, 0) [] Try.f36 c36 (kOf sg36) (sg36.sk.fl (encP sg36.ks a)) = unc sg36.ks S.l08Copy a := by kernel_rfl
theorem good36 : Vm.Good Try.prog 36 E36 := good_gen (G := G36) (L := loopNil) (c := c36) (rn := []) (N := (0, 0)) envNil_good (no_loops (c := c36) (by kernel_rfl)) Try.func36 (by kernel_rfl) (by kernel_rfl) (fun _ => by kernel_rfl) ev36
noncomputable def G47 : Env := (envCons 36 [] E36 envNil)
noncomputable def c47 : Code := bodyOf Try.f47
noncomputable def c47_3 : Code := (loopsOf c47).getD 0 .skip
noncomputable def S.l10Items_l0 : Nat → ((List ty6) → Option ((List ty6))) → Int → (List ty6) → (List ty6) → Option ((List ty6))
  | 0, _, _, _, _ => none
  | m + 1, e3_0, a2, a3, a4 =>
    (bif (decide (a2 < (a3.length : Int))) then
    (bif decide ((0 : Int) ≤ a2 ∧ a2 < (a3.length : Int)) then
    (bif decide ((0 : Int) ≤ a2 ∧ a2 < (a3.length : Int)) then
    (bif decide ((0 : Int) ≤ a2 ∧ a2 < (a3.length : Int)) then
    (Option.bind (S.l08Copy ((nthI a3 a2 df1).2.2.1) ((nthI a3 a2 df1).2.2.2.1) ((nthI a3 a2 df1).2.2.2.2.1) ((nthI a3 a2 df1).2.2.2.2.2.1) ((nthI a3 a2 df1).2.2.2.2.2.2.1) ((nthI a3 a2 df1).2.2.2.2.2.2.2.1) ((nthI a3 a2 df1).2.2.2.2.2.2.2.2.2) ((nthI a3 a2 df1).2.2.2.2.2.2.2.2.1)) fun r7 =>
    (let v8 : List ty6 := [((nthI a3 a2 df1).1, ((nthI a3 a2 df1).2.1, (r7.1, (r7.2.1, (r7.2.2.1, (r7.2.2.2.1, (r7.2.2.2.2.1, (r7.2.2.2.2.2.1, (r7.2.2.2.2.2.2.2, r7.2.2.2.2.2.2.1)))))))))]
    (bif decide ((a4.length + v8.length) * 96 ≤ 140737488355328) then
    (S.l10Items_l0 m e3_0 (IntKind.wrap .i64 (a2 + 1)) a3 (a4 ++ v8))
    else
    none)))
    else
    none)
    else
    none)
    else
    none)
    else
    (e3_0 a4))
noncomputable def S.l10Items (a1 : List ty6) : Option ((List ty6)) :=
(S.l10Items_l0 fu (fun y10 =>
(some y10)) 0 a1 [])
noncomputable def H47_3 : LoopH := ⟨⟨((.one (.sl 0)) :: (hu 2 ((.one (.sl 1)) :: hh :: (hu 28 [])))), [], [(95, sh1, .ro), (95, sh1, .own)]⟩, ([1, 2] ++ rg 5 28), [], ([0, 1] ++ rg 4 29), [], []⟩
noncomputable def k47_3 : List PK := [.int .i64, .row sh1, .row sh1]
noncomputable def W47_3 (m : Nat) (k : Kont ((List ty6))) : Cur k47_3 (Option ((List ty6))) := S.l10Items_l0 m (exF k (.exit 0) ⟨(hu 3 ((.one (.sl 0)) :: (hu 29 []))), [], [(95, sh1, .own)]⟩ [.row sh1])
noncomputable def E47_3 (m : Nat) : List Prm → Kont ((List ty6)) → Option ((List ty6)) := eL k47_3 (W47_3 m)
theorem ev47_3 (m : Nat) (k : Kont ((List ty6))) (a : Args k47_3) : evL Try.prog G47 loopNil c47_3 (turn Try.prog (0, 0) H47_3 (E47_3 m) k) (H47_3.sk.fl (encP k47_3 a)) = unc k47_3 (W47_3 (m + 1) k) a := by kernel_rfl
theorem ok47_3 (m : Nat) : LoopOk Try.prog (0, 0) c47_3 (enter Try.prog (0, 0) H47_3 (E47_3 m)) := loop_gen (Fl := W47_3) (G := G47) (L := loopNil) (envCons_good good36 envNil_good) (no_loops (c := c47_3) (by kernel_rfl)) (fun _ _ => by kernel_rfl) ev47_3 m
noncomputable def L47 : LEnv ((List ty6)) := (loopCons 3 (enter Try.prog (0, 0) H47_3 (E47_3 fu)) loopNil)
theorem lq47 : loopsOf c47 = [c47_3] := by kernel_rfl
theorem fr47_3 : firstReg c47_3 = some 3 := by kernel_rfl
theorem le47_3 : L47 3 = enter Try.prog (0, 0) H47_3 (E47_3 fu) := by kernel_rfl
theorem lm47 : ∀ x ∈ [c47_3], ∀ id, firstReg x = some id → LoopOk Try.prog (0, 0) x (L47 id) := (loops_cons fr47_3 le47_3 (ok47_3 fu) loops_nil)
theorem lp47 : ∀ x ∈ loopsOf c47, ∀ id, firstReg x = some id → LoopOk Try.prog (0, 0) x (L47 id) := loops_eq lq47 lm47
noncomputable def sg47 : Sg := ⟨⟨[.one (.sl 0)], [], [(95, sh1, .ro)]⟩, [.row sh1], ⟨[.one (.sl 0)], [], [(95, sh1, .own)]⟩, [.row sh1]⟩
noncomputable def E47 : Fun2 := eOf sg47 S.l10Items
theorem ev47 (a : Args sg47.ks) : evS Try.prog G47 L47 (0, 0) [] Try.f47 c47 (kOf sg47) (sg47.sk.fl (encP sg47.ks a)) = unc sg47.ks S.l10Items a := by kernel_rfl
theorem good47 : Vm.Good Try.prog 47 E47 := good_gen (G := G47) (L := L47) (c := c47) (rn := []) (N := (0, 0)) (envCons_good good36 envNil_good) lp47 Try.func47 (by kernel_rfl) (by kernel_rfl) (fun _ => by kernel_rfl) ev47
noncomputable def G46 : Env := (envCons 47 [] E47 envNil)
noncomputable def c46 : Code := bodyOf Try.f46
noncomputable def S.l10Copy (a1 a2 a3 a4 : Int) (a5 : List ty6) (a6 : List (Int × Int × Int)) : Option (Int × Int × Int × Int × (List ty6) × (List (Int × Int × Int))) :=
(Option.bind (S.l10Items a5) fun r7 =>
(bif decide ((([] : List (Int × Int × Int)).length + a6.length) * 24 ≤ 140737488355328) then
(some (a1, a2, a3, a4, r7, (([] : List (Int × Int × Int)) ++ a6)))
else
none))
noncomputable def sg46 : Sg := ⟨⟨[.agg (ho 4 [.sl 0, .sl 1])], [], [(95, sh1, .ro), (129, sh2, .ro)]⟩, (ki 4 [.row sh1, .row sh2]), ⟨[.agg (ho 4 [.sl 0, .sl 1])], [], [(95, sh1, .own), (129, sh2, .own)]⟩, (ki 4 [.row sh1, .row sh2])⟩
noncomputable def E46 : Fun2 := eOf sg46 S.l10Copy
theorem ev46 (a : Args sg46.ks) : evS Try.prog G46 loopNil (0, 0) [] Try.f46 c46 (kOf sg46) (sg46.sk.fl (encP sg46.ks a)) = unc sg46.ks S.l10Copy a := by kernel_rfl
theorem good46 : Vm.Good Try.prog 46 E46 := good_gen (G := G46) (L := loopNil) (c := c46) (rn := []) (N := (0, 0)) (envCons_good good47 envNil_good) (no_loops (c := c46) (by kernel_rfl)) Try.func46 (by kernel_rfl) (by kernel_rfl) (fun _ => by kernel_rfl) ev46
noncomputable def G14 : Env := (envCons 45 [] E45 (envCons 46 [] E46 (envCons 47 [] E47 envNil)))
noncomputable def c14 : Code := bodyOf Try.f14
noncomputable def c14_6 : Code := (loopsOf c14).getD 0 .skip
noncomputable def S.BoxAck_l0 : Nat → (Int → Int → Int → Int → Int → Int → Int → Int → (List ty6) → (List (Int × Int × Int)) → Option (Int × Int × Int × Int × Bool × (List ty6) × (List (Int × Int × Int)))) → Int → Int → Int → Int → Int → Int → Int → Int → Int → Int → Int → Int → Int → Int → (List ty6) → (List (Int × Int × Int)) → (List ty6) → (List (Int × Int × Int)) → Option (Int × Int × Int × Int × Bool × (List ty6) × (List (Int × Int × Int)))
  | 0, _, _, _, _, _, _, _, _, _, _, _, _, _, _, _, _, _, _, _ => none
  | m + 1, e6_0, a10, a11, a12, a13, a14, a15, a16, a17, a18, a19, a20, a21, a22, a23, a24, a25, a26, a27 =>
    (bif (decide (a11 < (a24.length : Int))) then
    (bif decide ((0 : Int) ≤ a11 ∧ a11 < (a24.length : Int)) then
    (let v30 : Bool := (decide (a10 < (nthI a24 a11 df1).1))
    (bif v30 then
    (let v31 : Int := (IntKind.wrap .i64 (a11 + 1))
    (bif decide ((0 : Int) ≤ a11 ∧ a11 ≤ v31 ∧ v31 ≤ (a24.length : Int)) then
    (Option.bind (S.l10Items ((a24.take (Int.toNat v31)).drop (Int.toNat a11))) fun r32 =>
    (bif decide ((0 : Int) ≤ 0 ∧ 0 < (r32.length : Int)) then
    (let v33 : List ty6 := [((nthI r32 0 df1).1, ((nthI r32 0 df1).2.1, ((nthI r32 0 df1).2.2.1, ((nthI r32 0 df1).2.2.2.1, ((nthI r32 0 df1).2.2.2.2.1, ((nthI r32 0 df1).2.2.2.2.2.1, ((nthI r32 0 df1).2.2.2.2.2.2.1, ((nthI r32 0 df1).2.2.2.2.2.2.2.1, ((nthI r32 0 df1).2.2.2.2.2.2.2.2.1, (nthI r32 0 df1).2.2.2.2.2.2.2.2.2)))))))))]
    (bif decide ((a26.length + v33.length) * 96 ≤ 140737488355328) then
    (S.BoxAck_l0 m e6_0 a10 (IntKind.wrap .i64 (a11 + 1)) a12 a13 a14 a15 a16 a17 a18 a19 a20 a21 a22 a23 a24 a25 (a26 ++ v33) a27)
    else
    none))
    else
    none))
    else
    none))
    else
    (S.BoxAck_l0 m e6_0 a10 (IntKind.wrap .i64 (a11 + 1)) a12 a13 a14 a15 a16 a17 a18 a19 a20 a21 a22 a23 a24 a25 a26 a27)))
    else
    none)
    else
    (e6_0 a16 a17 a18 a19 a20 a21 a22 a23 a26 a27))
noncomputable def S.BoxAck (a1 a2 a3 a4 a5 : Int) (a6 : List ty6) (a7 : List (Int × Int × Int)) : Option (Int × Int × Int × Int × Bool × (List ty6) × (List (Int × Int × Int))) :=
(Option.bind (S.BoxOk a1 a2 a3 a4 a6 a7) fun r8 =>
(bif (!r8) then
(some (0, 0, 0, 0, false, [], []))
else
(Option.bind (S.l10Copy a1 a2 a3 a4 a6 a7) fun r9 =>
(S.BoxAck_l0 fu (fun y36 y37 y38 y39 y40 y41 y42 y43 y44 y45 =>
(some (y40, y41, y42, y43, true, y44, y45))) a5 0 a1 a2 a3 a4 0 0 0 0 r9.1 r9.2.1 r9.2.2.1 r9.2.2.2.1 a6 a7 [] r9.2.2.2.2.2))))
noncomputable def H14_6 : LoopH := ⟨⟨((.one (.unk)) :: hh :: (.one (.ptr 0 0)) :: (.one (.unk)) :: (.one (.ptr 1 0)) :: (.one (.unk)) :: (.one (.ptr 2 0)) :: hh :: (hu 38 [])), [(38, (ho 4 [.sl 0, .sl 1])), (38, (ho 6 [])), (38, (ho 4 [.sl 2, .sl 3]))], [(95, sh1, .ro), (129, sh2, .ro), (95, sh1, .own), (129, sh2, .own)]⟩, ([0, 3, 5] ++ rg 8 38), [], (rg 0 4 ++ rg 7 39), [], []⟩
noncomputable def k14_6 : List PK := (ki 10 ((.nil) :: (.nil) :: (ki 4 [.row sh1, .row sh2, .row sh1, .row sh2])))
noncomputable def W14_6 (m : Nat) (k : Kont (Int × Int × Int × Int × Bool × (List ty6) × (List (Int × Int × Int)))) : Cur k14_6 (Option (Int × Int × Int × Int × Bool × (List ty6) × (List (Int × Int × Int)))) := S.BoxAck_l0 m (exF k (.exit 0) ⟨(hu 4 ((.one (.ptr 0 0)) :: (.one (.unk)) :: (.one (.ptr 1 0)) :: (hu 39 []))), [(38, (ho 6 [])), (38, (ho 4 [.sl 0, .sl 1]))], [(95, sh1, .own), (129, sh2, .own)]⟩ (ki 4 ((.nil) :: (.nil) :: (ki 4 [.row sh1, .row sh2]))))
noncomputable def E14_6 (m : Nat) : List Prm → Kont (Int × Int × Int × Int × Bool × (List ty6) × (List (Int × Int × Int))) → Option (Int × Int × Int × Int × Bool × (List ty6) × (List (Int × Int × Int))) := eL k14_6 (W14_6 m)
theorem ev14_6 (m : Nat) (k : Kont (Int × Int × Int × Int × Bool × (List ty6) × (List (Int × Int × Int)))) (a : Args k14_6) : evL Try.prog G14 loopNil c14_6 (turn Try.prog (0, 0) H14_6 (E14_6 m) k) (H14_6.sk.fl (encP k14_6 a)) = unc k14_6 (W14_6 (m + 1) k) a := by kernel_rfl
theorem ok14_6 (m : Nat) : LoopOk Try.prog (0, 0) c14_6 (enter Try.prog (0, 0) H14_6 (E14_6 m)) := loop_gen (Fl := W14_6) (G := G14) (L := loopNil) (envCons_good good45 (envCons_good good46 (envCons_good good47 envNil_good))) (no_loops (c := c14_6) (by kernel_rfl)) (fun _ _ => by kernel_rfl) ev14_6 m
noncomputable def L14 : LEnv (Int × Int × Int × Int × Bool × (List ty6) × (List (Int × Int × Int))) := (loopCons 6 (enter Try.prog (0, 0) H14_6 (E14_6 fu)) loopNil)
theorem lq14 : loopsOf c14 = [c14_6] := by kernel_rfl
theorem fr14_6 : firstReg c14_6 = some 6 := by kernel_rfl
theorem le14_6 : L14 6 = enter Try.prog (0, 0) H14_6 (E14_6 fu) := by kernel_rfl
theorem lm14 : ∀ x ∈ [c14_6], ∀ id, firstReg x = some id → LoopOk Try.prog (0, 0) x (L14 id) := (loops_cons fr14_6 le14_6 (ok14_6 fu) loops_nil)
theorem lp14 : ∀ x ∈ loopsOf c14, ∀ id, firstReg x = some id → LoopOk Try.prog (0, 0) x (L14 id) := loops_eq lq14 lm14
noncomputable def sg14 : Sg := ⟨⟨[.agg (ho 4 [.sl 0, .sl 1]), hh], [], [(95, sh1, .ro), (129, sh2, .ro)]⟩, (ki 5 [.row sh1, .row sh2]), ⟨[.agg (ho 4 [.sl 0, .sl 1]), hh], [], [(95, sh1, .own), (129, sh2, .own)]⟩, (ki 4 [.bool, .row sh1, .row sh2])⟩
noncomputable def E14 : Fun2 := eOf sg14 S.BoxAck
theorem ev14 (a : Args sg14.ks) : evS Try.prog G14 L14 (0, 0) [] Try.f14 c14 (kOf sg14) (sg14.sk.fl (encP sg14.ks a)) = unc sg14.ks S.BoxAck a := by kernel_rfl
theorem good14 : Vm.Good Try.prog 14 E14 := good_gen (G := G14) (L := L14) (c := c14) (rn := []) (N := (0, 0)) (envCons_good good45 (envCons_good good46 (envCons_good good47 envNil_good))) lp14 Try.func14 (by kernel_rfl) (by kernel_rfl) (fun _ => by kernel_rfl) ev14
noncomputable def G89 : Env := envNil
noncomputable def c89 : Code := bodyOf Try.f89
noncomputable def I.in (a1 a2 a3 : Int) : Option Bool :=
(bif (decide (a2 ≤ a1)) then
(some (decide (a1 ≤ a3)))
else
(some false))
noncomputable def sg89 : Sg := ⟨⟨[hh, hh, hh], [], []⟩, (ki 3 []), ⟨[hh], [], []⟩, [.bool]⟩
noncomputable def E89 : Fun2 := eOf sg89 I.in
theorem ev89 (a : Args sg89.ks) : evS Try.prog G89 loopNil (0, 0) [] Try.f89 c89 (kOf sg89) (sg89.sk.fl (encP sg89.ks a)) = unc sg89.ks I.in a := by kernel_rfl
theorem good89 : Vm.Good Try.prog 89 E89 := good_gen (G := G89) (L := loopNil) (c := c89) (rn := []) (N := (0, 0)) envNil_good (no_loops (c := c89) (by kernel_rfl)) Try.func89 (by kernel_rfl) (by kernel_rfl) (fun _ => by kernel_rfl) ev89
noncomputable def G88 : Env := (envCons 89 [] E89 envNil)
noncomputable def c88 : Code := bodyOf Try.f88
noncomputable def I.isCap (a1 : Int) : Option Bool :=
(Option.bind (I.in a1 1 50) fun r2 =>
(some r2))
noncomputable def sg88 : Sg := ⟨⟨[hh], [], []⟩, [.int .i64], ⟨[hh], [], []⟩, [.bool]⟩
noncomputable def E88 : Fun2 := eOf sg88 I.isCap
theorem ev88 (a : Args sg88.ks) : evS Try.prog G88 loopNil (0, 0) [] Try.f88 c88 (kOf sg88) (sg88.sk.fl (encP sg88.ks a)) = unc sg88.ks I.isCap a := by kernel_rfl
theorem good88 : Vm.Good Try.prog 88 E88 := good_gen (G := G88) (L := loopNil) (c := c88) (rn := []) (N := (0, 0)) (envCons_good good89 envNil_good) (no_loops (c := c88) (by kernel_rfl)) Try.func88 (by kernel_rfl) (by kernel_rfl) (fun _ => by kernel_rfl) ev88
noncomputable def G90 : Env := (envCons 89 [] E89 envNil)
noncomputable def c90 : Code := bodyOf Try.f90
noncomputable def I.isRuleNumber (a1 : Int) : Option Bool :=
(Option.bind (I.in a1 (-1) 15) fun r2 =>
(some r2))
noncomputable def sg90 : Sg := ⟨⟨[hh], [], []⟩, [.int .i64], ⟨[hh], [], []⟩, [.bool]⟩
noncomputable def E90 : Fun2 := eOf sg90 I.isRuleNumber
theorem ev90 (a : Args sg90.ks) : evS Try.prog G90 loopNil (0, 0) [] Try.f90 c90 (kOf sg90) (sg90.sk.fl (encP sg90.ks a)) = unc sg90.ks I.isRuleNumber a := by kernel_rfl
theorem good90 : Vm.Good Try.prog 90 E90 := good_gen (G := G90) (L := loopNil) (c := c90) (rn := []) (N := (0, 0)) (envCons_good good89 envNil_good) (no_loops (c := c90) (by kernel_rfl)) Try.func90 (by kernel_rfl) (by kernel_rfl) (fun _ => by kernel_rfl) ev90
noncomputable def G120 : Env := (envCons 89 [] E89 envNil)
noncomputable def c120 : Code := bodyOf Try.f120
noncomputable def I.isId (a1 : Int) : Option Bool :=
(Option.bind (I.in a1 0 3) fun r2 =>
(some r2))
noncomputable def sg120 : Sg := ⟨⟨[hh], [], []⟩, [.int .i64], ⟨[hh], [], []⟩, [.bool]⟩
noncomputable def E120 : Fun2 := eOf sg120 I.isId
theorem ev120 (a : Args sg120.ks) : evS Try.prog G120 loopNil (0, 0) [] Try.f120 c120 (kOf sg120) (sg120.sk.fl (encP sg120.ks a)) = unc sg120.ks I.isId a := by kernel_rfl
theorem good120 : Vm.Good Try.prog 120 E120 := good_gen (G := G120) (L := loopNil) (c := c120) (rn := []) (N := (0, 0)) (envCons_good good89 envNil_good) (no_loops (c := c120) (by kernel_rfl)) Try.func120 (by kernel_rfl) (by kernel_rfl) (fun _ => by kernel_rfl) ev120
noncomputable def G121 : Env := (envCons 89 [] E89 envNil)
noncomputable def c121 : Code := bodyOf Try.f121
noncomputable def I.isKey (a1 : Int) : Option Bool :=
(Option.bind (I.in a1 0 15) fun r2 =>
(some r2))
noncomputable def sg121 : Sg := ⟨⟨[hh], [], []⟩, [.int .i64], ⟨[hh], [], []⟩, [.bool]⟩
noncomputable def E121 : Fun2 := eOf sg121 I.isKey
theorem ev121 (a : Args sg121.ks) : evS Try.prog G121 loopNil (0, 0) [] Try.f121 c121 (kOf sg121) (sg121.sk.fl (encP sg121.ks a)) = unc sg121.ks I.isKey a := by kernel_rfl
theorem good121 : Vm.Good Try.prog 121 E121 := good_gen (G := G121) (L := loopNil) (c := c121) (rn := []) (N := (0, 0)) (envCons_good good89 envNil_good) (no_loops (c := c121) (by kernel_rfl)) Try.func121 (by kernel_rfl) (by kernel_rfl) (fun _ => by kernel_rfl) ev121
noncomputable def G122 : Env := envNil
noncomputable def c122 : Code := bodyOf Try.f122
noncomputable def I.isWin (a1 a2 : Int) : Option Bool :=
(bif (decide (0 ≤ a1)) then
(bif (decide (a1 < a2)) then
(some (decide (a2 ≤ 1100)))
else
(some false))
else
(some false))
noncomputable def sg122 : Sg := ⟨⟨[.agg (ho 2 [])], [], []⟩, (ki 2 []), ⟨[hh], [], []⟩, [.bool]⟩
noncomputable def E122 : Fun2 := eOf sg122 I.isWin
theorem ev122 (a : Args sg122.ks) : evS Try.prog G122 loopNil (0, 0) [] Try.f122 c122 (kOf sg122) (sg122.sk.fl (encP sg122.ks a)) = unc sg122.ks I.isWin a := by kernel_rfl
theorem good122 : Vm.Good Try.prog 122 E122 := good_gen (G := G122) (L := loopNil) (c := c122) (rn := []) (N := (0, 0)) envNil_good (no_loops (c := c122) (by kernel_rfl)) Try.func122 (by kernel_rfl) (by kernel_rfl) (fun _ => by kernel_rfl) ev122
noncomputable def G72 : Env := (envCons 120 [] E120 (envCons 121 [] E121 (envCons 122 [] E122 (envCons 89 [] E89 envNil))))
noncomputable def c72 : Code := bodyOf Try.f72
noncomputable def I.isPane (a1 a2 a3 a4 a5 a6 : Int) (a7 : Bool) (a8 : List Int) : Option Bool :=
(Option.bind (I.isId a1) fun r9 =>
(bif r9 then
(Option.bind (I.isKey a2) fun r10 =>
(bif r10 then
(Option.bind (I.isWin a3 a4) fun r11 =>
(bif r11 then
(Option.bind (I.in a5 0 15) fun r12 =>
(bif r12 then
(Option.bind (I.in a6 1 1000000) fun r13 =>
(bif r13 then
(bif (decide ((a8.length : Int) ≤ 4)) then
(some (((a8.length : Int) == 0) == a7))
else
(some false))
else
(some false)))
else
(some false)))
else
(some false)))
else
(some false)))
else
(some false)))
noncomputable def sg72 : Sg := ⟨⟨[.agg (ho 6 [.sl 0, .hole])], [], [(3, (.int .i64), .ro)]⟩, (ki 6 [.bool, .row (.int .i64)]), ⟨[hh], [], []⟩, [.bool]⟩
noncomputable def E72 : Fun2 := eOf sg72 I.isPane
theorem ev72 (a : Args sg72.ks) : evS Try.prog G72 loopNil (0, 0) [] Try.f72 c72 (kOf sg72) (sg72.sk.fl (encP sg72.ks a)) = unc sg72.ks I.isPane a := by kernel_rfl
theorem good72 : Vm.Good Try.prog 72 E72 := good_gen (G := G72) (L := loopNil) (c := c72) (rn := []) (N := (0, 0)) (envCons_good good120 (envCons_good good121 (envCons_good good122 (envCons_good good89 envNil_good)))) (no_loops (c := c72) (by kernel_rfl)) Try.func72 (by kernel_rfl) (by kernel_rfl) (fun _ => by kernel_rfl) ev72
noncomputable def G50 : Env := (envCons 88 [] E88 (envCons 89 [] E89 (envCons 90 [] E90 (envCons 72 [] E72 envNil))))
noncomputable def c50 : Code := bodyOf Try.f50
noncomputable def c50_6 : Code := (loopsOf c50).getD 0 .skip
noncomputable def c50_12 : Code := (loopsOf c50).getD 1 .skip
noncomputable def c50_18 : Code := (loopsOf c50).getD 2 .skip
noncomputable def I.isBox_l0 : Nat → (Bool → Int → Int → Int → Int → (List ty6) → (List (Int × Int × Int)) → Option Bool) → (Int → Int → Int → Int → (List ty6) → (List (Int × Int × Int)) → Option Bool) → Int → Int → Int → Int → Int → Int → (List ty6) → (List (Int × Int × Int)) → Option Bool
  | 0, _, _, _, _, _, _, _, _, _, _ => none
  | m + 1, e6_0, e6_1, a20, a21, a22, a23, a24, a25, a26, a27 =>
    (bif (decide (a21 < a20)) then
    (bif decide ((0 : Int) ≤ a21 ∧ a21 < (a26.length : Int)) then
    (let v32 : Bool := ((nthI a26 a21 df1).1 != (IntKind.wrap .i64 ((IntKind.wrap .i64 (a24 - (a26.length : Int))) + a21)))
    (bif v32 then
    (e6_0 false a22 a23 a24 a25 a26 a27)
    else
    (Option.bind (I.isRuleNumber ((nthI a26 a21 df1).2.1)) fun r33 =>
    (bif (!r33) then
    (e6_0 false a22 a23 a24 a25 a26 a27)
    else
    (Option.bind (I.isPane ((nthI a26 a21 df1).2.2.1) ((nthI a26 a21 df1).2.2.2.1) ((nthI a26 a21 df1).2.2.2.2.1) ((nthI a26 a21 df1).2.2.2.2.2.1) ((nthI a26 a21 df1).2.2.2.2.2.2.1) ((nthI a26 a21 df1).2.2.2.2.2.2.2.1) ((nthI a26 a21 df1).2.2.2.2.2.2.2.2.2) ((nthI a26 a21 df1).2.2.2.2.2.2.2.2.1)) fun r34 =>
    (bif (!r34) then
    (e6_0 false a22 a23 a24 a25 a26 a27)
    else
    (I.isBox_l0 m e6_0 e6_1 a20 (IntKind.wrap .i64 (a21 + 1)) a22 a23 a24 a25 a26 a27)))))))
    else
    none)
    else
    (e6_1 a22 a23 a24 a25 a26 a27))
noncomputable def I.isBox_l1 : Nat → (Bool → Int → Int → Int → Int → (List ty6) → (List (Int × Int × Int)) → Option Bool) → (Int → Int → Int → Int → (List ty6) → (List (Int × Int × Int)) → Option Bool) → Int → Int → Int → Int → Int → Int → (List (Int × Int × Int)) → (List ty6) → Option Bool
  | 0, _, _, _, _, _, _, _, _, _, _ => none
  | m + 1, e12_0, e12_1, a50, a51, a52, a53, a54, a55, a56, a57 =>
    (bif (decide (a51 < a50)) then
    (bif decide ((0 : Int) ≤ a51 ∧ a51 < (a56.length : Int)) then
    (let v62 : Bool := ((nthI a56 a51 df2).1 != (IntKind.wrap .i64 ((IntKind.wrap .i64 (a54 - (a56.length : Int))) + a51)))
    (bif v62 then
    (e12_0 false a52 a53 a54 a55 a57 a56)
    else
    (Option.bind (I.isRuleNumber ((nthI a56 a51 df2).2.1)) fun r63 =>
    (bif (!r63) then
    (e12_0 false a52 a53 a54 a55 a57 a56)
    else
    (Option.bind (I.in ((nthI a56 a51 df2).2.2) 0 15) fun r64 =>
    (bif (!r64) then
    (e12_0 false a52 a53 a54 a55 a57 a56)
    else
    (I.isBox_l1 m e12_0 e12_1 a50 (IntKind.wrap .i64 (a51 + 1)) a52 a53 a54 a55 a56 a57)))))))
    else
    none)
    else
    (e12_1 a52 a53 a54 a55 a57 a56))
noncomputable def I.isBox_l2 : Nat → (Bool → Option Bool) → (Option Bool) → Int → Int → Int → Int → Int → Int → (List ty6) → (List (Int × Int × Int)) → Option Bool
  | 0, _, _, _, _, _, _, _, _, _, _ => none
  | m + 1, e18_0, e18_1, a82, a83, a84, a85, a86, a87, a88, a89 =>
    (bif (decide (a83 < a82)) then
    (let v93 : Int := (IntKind.wrap .i64 ((IntKind.wrap .i64 ((a88.length : Int) - 1)) - a83))
    (bif decide ((0 : Int) ≤ v93 ∧ v93 < (a88.length : Int)) then
    (let v96 : Int := (IntKind.wrap .i64 ((IntKind.wrap .i64 ((a89.length : Int) - 1)) - a83))
    (bif decide ((0 : Int) ≤ v96 ∧ v96 < (a89.length : Int)) then
    (dup (let v97 : Bool := ((nthI a88 v93 df1).2.1 != (nthI a89 v96 df2).2.1)
    (bif v97 then
    (e18_0 false)
    else
    (let v98 : Bool := ((nthI a88 v93 df1).2.2.2.2.2.2.1 != (nthI a89 v96 df2).2.2)
    (bif v98 then
    (e18_0 false)
    else
    (I.isBox_l2 m e18_0 e18_1 a82 (IntKind.wrap .i64 (a83 + 1)) a84 a85 a86 a87 a88 a89))))))
    else
    none))
    else
    none))
    else
    e18_1)
noncomputable def I.isBox (a1 a2 a3 a4 : Int) (a5 : List ty6) (a6 : List (Int × Int × Int)) : Option Bool :=
(Option.bind (I.isCap a1) fun r7 =>
(bif (!r7) then
(some false)
else
(Option.bind (I.isCap a2) fun r8 =>
(bif (!r8) then
(some false)
else
(Option.bind (I.in a3 0 1000000) fun r9 =>
(bif (!r9) then
(some false)
else
(Option.bind (I.in a4 0 1000000) fun r10 =>
(bif (!r10) then
(some false)
else
(bif (decide (a1 < (a5.length : Int))) then
(some false)
else
(bif (decide (a2 < (a6.length : Int))) then
(some false)
else
(bif (decide (a3 < (a5.length : Int))) then
(some false)
else
(bif (decide (a3 < (a6.length : Int))) then
(some false)
else
(I.isBox_l0 fu (fun y36 y37 y38 y39 y40 y41 y42 =>
(some y36)) (fun y43 y44 y45 y46 y47 y48 =>
(I.isBox_l1 fu (fun y66 y67 y68 y69 y70 y71 y72 =>
(some y66)) (fun y73 y74 y75 y76 y77 y78 =>
(let v79 : Int := (y77.length : Int)
(let v80 : Int := (y78.length : Int)
(I.isBox_l2 fu (fun y100 =>
(some y100)) (some true) (if v80 < v79 then v80 else v79) 0 y73 y74 y75 y76 y77 y78)))) (y48.length : Int) 0 y43 y44 y45 y46 y48 y47)) (a5.length : Int) 0 a1 a2 a3 a4 a5 a6)))))))))))))
noncomputable def H50_6 : LoopH := ⟨⟨((.one (.unk)) :: (.one (.ptr 0 0)) :: (hu 61 ((.one (.sl 0)) :: hh :: hh :: (hu 104 [])))), [(38, (ho 4 [.sl 0, .sl 1]))], [(95, sh1, .ro), (129, sh2, .ro)]⟩, ([0] ++ rg 2 61 ++ rg 66 104), [], ([0] ++ rg 3 167), [], []⟩
noncomputable def k50_6 : List PK := (ki 6 [.row sh1, .row sh2])
noncomputable def W50_6 (m : Nat) (k : Kont Bool) : Cur k50_6 (Option Bool) := I.isBox_l0 m (exF k .ret ⟨((.one (.unk)) :: (.one (.ptr 0 0)) :: hh :: (hu 167 [])), [(38, (ho 4 [.sl 0, .sl 1]))], [(95, sh1, .ro), (129, sh2, .ro)]⟩ ((.bool) :: (ki 4 [.row sh1, .row sh2]))) (exF k (.exit 0) ⟨((.one (.unk)) :: (.one (.ptr 0 0)) :: (hu 168 [])), [(38, (ho 4 [.sl 0, .sl 1]))], [(95, sh1, .ro), (129, sh2, .ro)]⟩ (ki 4 [.row sh1, .row sh2]))
noncomputable def E50_6 (m : Nat) : List Prm → Kont Bool → Option Bool := eL k50_6 (W50_6 m)
theorem ev50_6 (m : Nat) (k : Kont Bool) (a : Args k50_6) : evL Try.prog G50 loopNil c50_6 (turn Try.prog (0, 0) H50_6 (E50_6 m) k) (H50_6.sk.fl (encP k50_6 a)) = unc k50_6 (W50_6 (m + 1) k) a := by kernel_rfl
theorem ok50_6 (m : Nat) : LoopOk Try.prog (0, 0) c50_6 (enter Try.prog (0, 0) H50_6 (E50_6 m)) := loop_gen (Fl := W50_6) (G := G50) (L := loopNil) (envCons_good good88 (envCons_good good89 (envCons_good good90 (envCons_good good72 envNil_good)))) (no_loops (c := c50_6) (by kernel_rfl)) (fun _ _ => by kernel_rfl) ev50_6 m
noncomputable def H50_12 : LoopH := ⟨⟨((.one (.unk)) :: (.one (.ptr 0 0)) :: (hu 93 ((.one (.sl 0)) :: hh :: hh :: (hu 72 [])))), [(38, (ho 4 [.sl 1, .sl 0]))], [(129, sh2, .ro), (95, sh1, .ro)]⟩, ([0] ++ rg 2 93 ++ rg 98 72), [], ([0] ++ rg 3 167), [], []⟩
noncomputable def k50_12 : List PK := (ki 6 [.row sh2, .row sh1])
noncomputable def W50_12 (m : Nat) (k : Kont Bool) : Cur k50_12 (Option Bool) := I.isBox_l1 m (exF k .ret ⟨((.one (.unk)) :: (.one (.ptr 0 0)) :: hh :: (hu 167 [])), [(38, (ho 4 [.sl 0, .sl 1]))], [(95, sh1, .ro), (129, sh2, .ro)]⟩ ((.bool) :: (ki 4 [.row sh1, .row sh2]))) (exF k (.exit 2) ⟨((.one (.unk)) :: (.one (.ptr 0 0)) :: (hu 168 [])), [(38, (ho 4 [.sl 0, .sl 1]))], [(95, sh1, .ro), (129, sh2, .ro)]⟩ (ki 4 [.row sh1, .row sh2]))
noncomputable def E50_12 (m : Nat) : List Prm → Kont Bool → Option Bool := eL k50_12 (W50_12 m)
theorem ev50_12 (m : Nat) (k : Kont Bool) (a : Args k50_12) : evL Try.prog G50 loopNil c50_12 (turn Try.prog (0, 0) H50_12 (E50_12 m) k) (H50_12.sk.fl (encP k50_12 a)) = unc k50_12 (W50_12 (m + 1) k) a := by kernel_rfl
theorem ok50_12 (m : Nat) : LoopOk Try.prog (0, 0) c50_12 (enter Try.prog (0, 0) H50_12 (E50_12 m)) := loop_gen (Fl := W50_12) (G := G50) (L := loopNil) (envCons_good good88 (envCons_good good89 (envCons_good good90 (envCons_good good72 envNil_good)))) (no_loops (c := c50_12) (by kernel_rfl)) (fun _ _ => by kernel_rfl) ev50_12 m
noncomputable def H50_18 : LoopH := ⟨⟨((.one (.unk)) :: (.one (.ptr 0 0)) :: (hu 130 (hh :: hh :: (hu 36 [])))), [(38, (ho 4 [.sl 0, .sl 1]))], [(95, sh1, .ro), (129, sh2, .ro)]⟩, ([0] ++ rg 2 130 ++ rg 134 36), [], ([0, 1] ++ rg 3 167), [], []⟩
noncomputable def k50_18 : List PK := (ki 6 [.row sh1, .row sh2])
noncomputable def W50_18 (m : Nat) (k : Kont Bool) : Cur k50_18 (Option Bool) := I.isBox_l2 m (exF k .ret ⟨(hu 2 (hh :: (hu 167 []))), [], []⟩ [.bool]) (exF k (.exit 4) ⟨(hu 170 []), [], []⟩ [])
noncomputable def E50_18 (m : Nat) : List Prm → Kont Bool → Option Bool := eL k50_18 (W50_18 m)
theorem ev50_18 (m : Nat) (k : Kont Bool) (a : Args k50_18) : evL Try.prog G50 loopNil c50_18 (turn Try.prog (0, 0) H50_18 (E50_18 m) k) (H50_18.sk.fl (encP k50_18 a)) = unc k50_18 (W50_18 (m + 1) k) a := by kernel_rfl
theorem ok50_18 (m : Nat) : LoopOk Try.prog (0, 0) c50_18 (enter Try.prog (0, 0) H50_18 (E50_18 m)) := loop_gen (Fl := W50_18) (G := G50) (L := loopNil) (envCons_good good88 (envCons_good good89 (envCons_good good90 (envCons_good good72 envNil_good)))) (no_loops (c := c50_18) (by kernel_rfl)) (fun _ _ => by kernel_rfl) ev50_18 m
noncomputable def L50 : LEnv Bool := (loopCons 6 (enter Try.prog (0, 0) H50_6 (E50_6 fu)) (loopCons 12 (enter Try.prog (0, 0) H50_12 (E50_12 fu)) (loopCons 18 (enter Try.prog (0, 0) H50_18 (E50_18 fu)) loopNil)))
theorem lq50 : loopsOf c50 = [c50_6, c50_12, c50_18] := by kernel_rfl
theorem fr50_6 : firstReg c50_6 = some 6 := by kernel_rfl
theorem le50_6 : L50 6 = enter Try.prog (0, 0) H50_6 (E50_6 fu) := by kernel_rfl
theorem fr50_12 : firstReg c50_12 = some 12 := by kernel_rfl
theorem le50_12 : L50 12 = enter Try.prog (0, 0) H50_12 (E50_12 fu) := by kernel_rfl
theorem fr50_18 : firstReg c50_18 = some 18 := by kernel_rfl
theorem le50_18 : L50 18 = enter Try.prog (0, 0) H50_18 (E50_18 fu) := by kernel_rfl
theorem lm50 : ∀ x ∈ [c50_6, c50_12, c50_18], ∀ id, firstReg x = some id → LoopOk Try.prog (0, 0) x (L50 id) := (loops_cons fr50_6 le50_6 (ok50_6 fu) (loops_cons fr50_12 le50_12 (ok50_12 fu) (loops_cons fr50_18 le50_18 (ok50_18 fu) loops_nil)))
theorem lp50 : ∀ x ∈ loopsOf c50, ∀ id, firstReg x = some id → LoopOk Try.prog (0, 0) x (L50 id) := loops_eq lq50 lm50
noncomputable def sg50 : Sg := ⟨⟨[.agg (ho 4 [.sl 0, .sl 1])], [], [(95, sh1, .ro), (129, sh2, .ro)]⟩, (ki 4 [.row sh1, .row sh2]), ⟨[hh], [], []⟩, [.bool]⟩
noncomputable def E50 : Fun2 := eOf sg50 I.isBox
theorem ev50 (a : Args sg50.ks) : evS Try.prog G50 L50 (0, 0) [] Try.f50 c50 (kOf sg50) (sg50.sk.fl (encP sg50.ks a)) = unc sg50.ks I.isBox a := by kernel_rfl
theorem good50 : Vm.Good Try.prog 50 E50 := good_gen (G := G50) (L := L50) (c := c50) (rn := []) (N := (0, 0)) (envCons_good good88 (envCons_good good89 (envCons_good good90 (envCons_good good72 envNil_good)))) lp50 Try.func50 (by kernel_rfl) (by kernel_rfl) (fun _ => by kernel_rfl) ev50
noncomputable def G78 : Env := envNil
noncomputable def c78 : Code := bodyOf Try.f78
noncomputable def G.slices.Clone_int (a1 : List Int) : Option (List Int) :=
(bif decide (a1.length = 0) then
(same (some [])
(bif decide ((([] : List (Int)).length + a1.length) * 8 ≤ 140737488355328) then
(some (([] : List (Int)) ++ a1))
else
none))
else
(bif decide ((([] : List (Int)).length + a1.length) * 8 ≤ 140737488355328) then
(some (([] : List (Int)) ++ a1))
else
none))
noncomputable def sg78 : Sg := ⟨⟨[.one (.sl 0)], [], [(3, (.int .i64), .ro)]⟩, [.row (.int .i64)], ⟨[.one (.sl 0)], [], [(3, (.int .i64), .own)]⟩, [.row (.int .i64)]⟩
noncomputable def E78 : Fun2 := eOf sg78 G.slices.Clone_int
theorem ev78 (a : Args sg78.ks) : evS Try.prog G78 loopNil (0, 0) [] Try.f78 c78 (kOf sg78) (sg78.sk.fl (encP sg78.ks a)) = unc sg78.ks G.slices.Clone_int a := by kernel_rfl
theorem good78 : Vm.Good Try.prog 78 E78 := good_gen (G := G78) (L := loopNil) (c := c78) (rn := []) (N := (0, 0)) envNil_good (no_loops (c := c78) (by kernel_rfl)) Try.func78 (by kernel_rfl) (by kernel_rfl) (fun _ => by kernel_rfl) ev78
noncomputable def G38 : Env := (envCons 78 [] E78 envNil)
noncomputable def c38 : Code := bodyOf Try.f38
noncomputable def I.Pane_copied (a1 a2 a3 a4 a5 a6 : Int) (a7 : Bool) (a8 : List Int) : Option (Int × Int × Int × Int × Int × Int × Bool × List Int) :=
(Option.bind (G.slices.Clone_int a8) fun r9 =>
(some (a1, a2, a3, a4, a5, a6, a7, r9)))
noncomputable def sg38 : Sg := ⟨⟨[.agg (ho 6 [.sl 0, .hole])], [], [(3, (.int .i64), .ro)]⟩, (ki 6 [.bool, .row (.int .i64)]), ⟨[.agg (ho 6 [.sl 0, .hole])], [], [(3, (.int .i64), .own)]⟩, (ki 6 [.bool, .row (.int .i64)])⟩
noncomputable def E38 : Fun2 := eOf sg38 I.Pane_copied
theorem ev38 (a : Args sg38.ks) : evS Try.prog G38 loopNil (0, 0) [] Try.f38 c38 (kOf sg38) (sg38.sk.fl (encP sg38.ks a)) = unc sg38.ks I.Pane_copied a := by kernel_rfl
theorem good38 : Vm.Good Try.prog 38 E38 := good_gen (G := G38) (L := loopNil) (c := c38) (rn := []) (N := (0, 0)) (envCons_good good78 envNil_good) (no_loops (c := c38) (by kernel_rfl)) Try.func38 (by kernel_rfl) (by kernel_rfl) (fun _ => by kernel_rfl) ev38
noncomputable def G91 : Env := (envCons 38 [] E38 envNil)
noncomputable def c91 : Code := bodyOf Try.f91
noncomputable def c91_3 : Code := (loopsOf c91).getD 0 .skip
noncomputable def I.items_l0 : Nat → ((List ty6) → Option ((List ty6))) → Int → Int → (List ty6) → (List ty6) → Option ((List ty6))
  | 0, _, _, _, _, _ => none
  | m + 1, e3_0, a3, a4, a5, a6 =>
    (bif (decide (a4 < a3)) then
    (bif decide ((0 : Int) ≤ a4 ∧ a4 < (a6.length : Int)) then
    (Option.bind (I.Pane_copied ((nthI a6 a4 df1).2.2.1) ((nthI a6 a4 df1).2.2.2.1) ((nthI a6 a4 df1).2.2.2.2.1) ((nthI a6 a4 df1).2.2.2.2.2.1) ((nthI a6 a4 df1).2.2.2.2.2.2.1) ((nthI a6 a4 df1).2.2.2.2.2.2.2.1) ((nthI a6 a4 df1).2.2.2.2.2.2.2.2.2) ((nthI a6 a4 df1).2.2.2.2.2.2.2.2.1)) fun r8 =>
    (let v9 : List ty6 := [((nthI a6 a4 df1).1, ((nthI a6 a4 df1).2.1, (r8.1, (r8.2.1, (r8.2.2.1, (r8.2.2.2.1, (r8.2.2.2.2.1, (r8.2.2.2.2.2.1, (r8.2.2.2.2.2.2.2, r8.2.2.2.2.2.2.1)))))))))]
    (bif decide ((a5.length + v9.length) * 96 ≤ 140737488355328) then
    (I.items_l0 m e3_0 a3 (IntKind.wrap .i64 (a4 + 1)) (a5 ++ v9) a6)
    else
    none)))
    else
    none)
    else
    (e3_0 a5))
noncomputable def I.items (a1 : List ty6) : Option ((List ty6)) :=
(I.items_l0 fu (fun y11 =>
(some y11)) (a1.length : Int) 0 [] a1)
noncomputable def H91_3 : LoopH := ⟨⟨(hu 3 ((.one (.sl 0)) :: (hu 3 ((.one (.sl 1)) :: hh :: hh :: (hu 16 []))))), [], [(95, sh1, .own), (95, sh1, .ro)]⟩, ([0, 1, 2, 4, 5, 6] ++ rg 10 16), [], ([0, 1] ++ rg 4 22), [], []⟩
noncomputable def k91_3 : List PK := (ki 2 [.row sh1, .row sh1])
noncomputable def W91_3 (m : Nat) (k : Kont ((List ty6))) : Cur k91_3 (Option ((List ty6))) := I.items_l0 m (exF k (.exit 0) ⟨(hu 3 ((.one (.sl 0)) :: (hu 22 []))), [], [(95, sh1, .own)]⟩ [.row sh1])
noncomputable def E91_3 (m : Nat) : List Prm → Kont ((List ty6)) → Option ((List ty6)) := eL k91_3 (W91_3 m)
theorem ev91_3 (m : Nat) (k : Kont ((List ty6))) (a : Args k91_3) : evL Try.prog G91 loopNil c91_3 (turn Try.prog (0, 0) H91_3 (E91_3 m) k) (H91_3.sk.fl (encP k91_3 a)) = unc k91_3 (W91_3 (m + 1) k) a := by kernel_rfl
theorem ok91_3 (m : Nat) : LoopOk Try.prog (0, 0) c91_3 (enter Try.prog (0, 0) H91_3 (E91_3 m)) := loop_gen (Fl := W91_3) (G := G91) (L := loopNil) (envCons_good good38 envNil_good) (no_loops (c := c91_3) (by kernel_rfl)) (fun _ _ => by kernel_rfl) ev91_3 m
noncomputable def L91 : LEnv ((List ty6)) := (loopCons 3 (enter Try.prog (0, 0) H91_3 (E91_3 fu)) loopNil)
theorem lq91 : loopsOf c91 = [c91_3] := by kernel_rfl
theorem fr91_3 : firstReg c91_3 = some 3 := by kernel_rfl
theorem le91_3 : L91 3 = enter Try.prog (0, 0) H91_3 (E91_3 fu) := by kernel_rfl
theorem lm91 : ∀ x ∈ [c91_3], ∀ id, firstReg x = some id → LoopOk Try.prog (0, 0) x (L91 id) := (loops_cons fr91_3 le91_3 (ok91_3 fu) loops_nil)
theorem lp91 : ∀ x ∈ loopsOf c91, ∀ id, firstReg x = some id → LoopOk Try.prog (0, 0) x (L91 id) := loops_eq lq91 lm91
noncomputable def sg91 : Sg := ⟨⟨[.one (.sl 0)], [], [(95, sh1, .ro)]⟩, [.row sh1], ⟨[.one (.sl 0)], [], [(95, sh1, .own)]⟩, [.row sh1]⟩
noncomputable def E91 : Fun2 := eOf sg91 I.items
theorem ev91 (a : Args sg91.ks) : evS Try.prog G91 L91 (0, 0) [] Try.f91 c91 (kOf sg91) (sg91.sk.fl (encP sg91.ks a)) = unc sg91.ks I.items a := by kernel_rfl
theorem good91 : Vm.Good Try.prog 91 E91 := good_gen (G := G91) (L := L91) (c := c91) (rn := []) (N := (0, 0)) (envCons_good good38 envNil_good) lp91 Try.func91 (by kernel_rfl) (by kernel_rfl) (fun _ => by kernel_rfl) ev91
noncomputable def G92 : Env := envNil
noncomputable def c92 : Code := bodyOf Try.f92
noncomputable def G.slices.Clone_Rec (a1 : List (Int × Int × Int)) : Option ((List (Int × Int × Int))) :=
(bif decide (a1.length = 0) then
(same (some [])
(bif decide ((([] : List (Int × Int × Int)).length + a1.length) * 24 ≤ 140737488355328) then
(some (([] : List (Int × Int × Int)) ++ a1))
else
none))
else
(bif decide ((([] : List (Int × Int × Int)).length + a1.length) * 24 ≤ 140737488355328) then
(some (([] : List (Int × Int × Int)) ++ a1))
else
none))
noncomputable def sg92 : Sg := ⟨⟨[.one (.sl 0)], [], [(129, sh2, .ro)]⟩, [.row sh2], ⟨[.one (.sl 0)], [], [(129, sh2, .own)]⟩, [.row sh2]⟩
noncomputable def E92 : Fun2 := eOf sg92 G.slices.Clone_Rec
theorem ev92 (a : Args sg92.ks) : evS Try.prog G92 loopNil (0, 0) [] Try.f92 c92 (kOf sg92) (sg92.sk.fl (encP sg92.ks a)) = unc sg92.ks G.slices.Clone_Rec a := by kernel_rfl
theorem good92 : Vm.Good Try.prog 92 E92 := good_gen (G := G92) (L := loopNil) (c := c92) (rn := []) (N := (0, 0)) envNil_good (no_loops (c := c92) (by kernel_rfl)) Try.func92 (by kernel_rfl) (by kernel_rfl) (fun _ => by kernel_rfl) ev92
noncomputable def G51 : Env := (envCons 91 [] E91 (envCons 92 [] E92 envNil))
noncomputable def c51 : Code := bodyOf Try.f51
noncomputable def I.Box_copied (a1 a2 a3 a4 : Int) (a5 : List ty6) (a6 : List (Int × Int × Int)) : Option (Int × Int × Int × Int × (List ty6) × (List (Int × Int × Int))) :=
(Option.bind (I.items a5) fun r7 =>
(Option.bind (G.slices.Clone_Rec a6) fun r8 =>
(some (a1, a2, a3, a4, r7, r8))))
noncomputable def sg51 : Sg := ⟨⟨[.agg (ho 4 [.sl 0, .sl 1])], [], [(95, sh1, .ro), (129, sh2, .ro)]⟩, (ki 4 [.row sh1, .row sh2]), ⟨[.agg (ho 4 [.sl 0, .sl 1])], [], [(95, sh1, .own), (129, sh2, .own)]⟩, (ki 4 [.row sh1, .row sh2])⟩
noncomputable def E51 : Fun2 := eOf sg51 I.Box_copied
theorem ev51 (a : Args sg51.ks) : evS Try.prog G51 loopNil (0, 0) [] Try.f51 c51 (kOf sg51) (sg51.sk.fl (encP sg51.ks a)) = unc sg51.ks I.Box_copied a := by kernel_rfl
theorem good51 : Vm.Good Try.prog 51 E51 := good_gen (G := G51) (L := loopNil) (c := c51) (rn := []) (N := (0, 0)) (envCons_good good91 (envCons_good good92 envNil_good)) (no_loops (c := c51) (by kernel_rfl)) Try.func51 (by kernel_rfl) (by kernel_rfl) (fun _ => by kernel_rfl) ev51
noncomputable def G94 : Env := envNil
noncomputable def c94 : Code := bodyOf Try.f94
noncomputable def I.Box_ack_1 (a1 a2 a3 a4 a5 a6 a7 a8 : Int) (a9 : Bool) (a10 : Int) (a11 : List Int) : Option (Bool × Int) :=
(some ((decide (a1 ≤ a10)), a10))
noncomputable def sg94 : Sg := ⟨⟨[.agg (ho 8 [.sl 0, .hole]), .one (.ptr 0 0)], [(3, [.hole])], [(3, (.int .i64), .ro)]⟩, (ki 8 [.bool, .int .i64, .row (.int .i64)]), ⟨[hh], [(3, [.hole])], []⟩, [.bool, .int .i64]⟩
noncomputable def E94 : Fun2 := eOf sg94 I.Box_ack_1
theorem ev94 (a : Args sg94.ks) : evS Try.prog G94 loopNil (1, 0) [] Try.f94 c94 (kOf sg94) (sg94.sk.fl (encP sg94.ks a)) = unc sg94.ks I.Box_ack_1 a := by kernel_rfl
theorem good94 : Vm.Good Try.prog 94 E94 := good_gen (G := G94) (L := loopNil) (c := c94) (rn := []) (N := (1, 0)) envNil_good (no_loops (c := c94) (by kernel_rfl)) Try.func94 (by kernel_rfl) (by kernel_rfl) (fun _ => by kernel_rfl) ev94
noncomputable def G127 : Env := (envCons 94 [] E94 envNil)
noncomputable def c127 : Code := bodyOf Try.f127
noncomputable def c127_2 : Code := (loopsOf c127).getD 0 .skip
noncomputable def G.slices.IndexFunc_Item_l0 : Nat → (Int → Int → Option (Int × Int)) → (Int → Option (Int × Int)) → Int → Int → Int → (List ty6) → Option (Int × Int)
  | 0, _, _, _, _, _, _ => none
  | m + 1, e2_0, e2_1, a4, a5, a6, a7 =>
    (bif (decide (a5 < a4)) then
    (bif decide ((0 : Int) ≤ a5 ∧ a5 < (a7.length : Int)) then
    (Option.bind (I.Box_ack_1 ((nthI a7 a5 df1).1) ((nthI a7 a5 df1).2.1) ((nthI a7 a5 df1).2.2.1) ((nthI a7 a5 df1).2.2.2.1) ((nthI a7 a5 df1).2.2.2.2.1) ((nthI a7 a5 df1).2.2.2.2.2.1) ((nthI a7 a5 df1).2.2.2.2.2.2.1) ((nthI a7 a5 df1).2.2.2.2.2.2.2.1) ((nthI a7 a5 df1).2.2.2.2.2.2.2.2.2) a6 ((nthI a7 a5 df1).2.2.2.2.2.2.2.2.1)) fun r9 =>
    (bif r9.1 then
    (e2_0 a5 r9.2)
    else
    (G.slices.IndexFunc_Item_l0 m e2_0 e2_1 a4 (IntKind.wrap .i64 (a5 + 1)) r9.2 a7)))
    else
    none)
    else
    (e2_1 a6))
noncomputable def G.slices.IndexFunc_Item (a1 : Int) (a2 : List ty6) : Option (Int × Int) :=
(G.slices.IndexFunc_Item_l0 fu (fun y11 y12 =>
(some (y11, y12))) (fun y13 =>
(some ((-1), y13))) (a2.length : Int) 0 a1 a2)
noncomputable def H127_2 : LoopH := ⟨⟨((.one (.sl 0)) :: (.one (.fn 94 [(0, 0)])) :: (hu 5 (hh :: hh :: (hu 10 [])))), [(3, [.hole])], [(95, sh1, .ro)]⟩, (rg 2 5 ++ rg 9 10), [], (rg 0 4 ++ rg 5 14), [], []⟩
noncomputable def k127_2 : List PK := (ki 3 [.row sh1])
noncomputable def W127_2 (m : Nat) (k : Kont (Int × Int)) : Cur k127_2 (Option (Int × Int)) := G.slices.IndexFunc_Item_l0 m (exF k .ret ⟨(hu 4 (hh :: (hu 14 []))), [(3, [.hole])], []⟩ (ki 2 [])) (exF k (.exit 0) ⟨(hu 19 []), [(3, [.hole])], []⟩ [.int .i64])
noncomputable def E127_2 (m : Nat) : List Prm → Kont (Int × Int) → Option (Int × Int) := eL k127_2 (W127_2 m)
theorem ev127_2 (m : Nat) (k : Kont (Int × Int)) (a : Args k127_2) : evL Try.prog G127 loopNil c127_2 (turn Try.prog (1, 0) H127_2 (E127_2 m) k) (H127_2.sk.fl (encP k127_2 a)) = unc k127_2 (W127_2 (m + 1) k) a := by kernel_rfl
theorem ok127_2 (m : Nat) : LoopOk Try.prog (1, 0) c127_2 (enter Try.prog (1, 0) H127_2 (E127_2 m)) := loop_gen (Fl := W127_2) (G := G127) (L := loopNil) (envCons_good good94 envNil_good) (no_loops (c := c127_2) (by kernel_rfl)) (fun _ _ => by kernel_rfl) ev127_2 m
noncomputable def L127 : LEnv (Int × Int) := (loopCons 2 (enter Try.prog (1, 0) H127_2 (E127_2 fu)) loopNil)
theorem lq127 : loopsOf c127 = [c127_2] := by kernel_rfl
theorem fr127_2 : firstReg c127_2 = some 2 := by kernel_rfl
theorem le127_2 : L127 2 = enter Try.prog (1, 0) H127_2 (E127_2 fu) := by kernel_rfl
theorem lm127 : ∀ x ∈ [c127_2], ∀ id, firstReg x = some id → LoopOk Try.prog (1, 0) x (L127 id) := (loops_cons fr127_2 le127_2 (ok127_2 fu) loops_nil)
theorem lp127 : ∀ x ∈ loopsOf c127, ∀ id, firstReg x = some id → LoopOk Try.prog (1, 0) x (L127 id) := loops_eq lq127 lm127
noncomputable def sg127 : Sg := ⟨⟨[.one (.sl 0), .one (.fn 94 [(0, 0)])], [(3, [.hole])], [(95, sh1, .ro)]⟩, [.int .i64, .row sh1], ⟨[hh], [(3, [.hole])], []⟩, (ki 2 [])⟩
noncomputable def E127 : Fun2 := eOf sg127 G.slices.IndexFunc_Item
theorem ev127 (a : Args sg127.ks) : evS Try.prog G127 L127 (1, 0) [] Try.f127 c127 (kOf sg127) (sg127.sk.fl (encP sg127.ks a)) = unc sg127.ks G.slices.IndexFunc_Item a := by kernel_rfl
theorem good127 : Vm.Good Try.prog 127 E127 := good_gen (G := G127) (L := L127) (c := c127) (rn := []) (N := (1, 0)) (envCons_good good94 envNil_good) lp127 Try.func127 (by kernel_rfl) (by kernel_rfl) (fun _ => by kernel_rfl) ev127
noncomputable def G93 : Env := (envCons 127 [] E127 (envCons 94 [] E94 envNil))
noncomputable def c93 : Code := bodyOf Try.f93
noncomputable def c93_5 : Code := (loopsOf c93).getD 0 .skip
noncomputable def G.slices.DeleteFunc_Item_l0 : Nat → (Int → Int → (List ty4) → Option (Int × (List ty4))) → Int → Int → Int → (List ty4) → Option (Int × (List ty4))
  | 0, _, _, _, _, _ => none
  | m + 1, e5_0, a5, a6, a7, a8 =>
    (bif (decide (a6 < (a8.length : Int))) then
    (bif decide ((0 : Int) ≤ a6 ∧ a6 < (a8.length : Int)) then
    (Option.bind (I.Box_ack_1 ((nthI a8 a6 df3).1) ((nthI a8 a6 df3).2.1) ((nthI a8 a6 df3).2.2.1) ((nthI a8 a6 df3).2.2.2.1) ((nthI a8 a6 df3).2.2.2.2.1) ((nthI a8 a6 df3).2.2.2.2.2.1) ((nthI a8 a6 df3).2.2.2.2.2.2.1) ((nthI a8 a6 df3).2.2.2.2.2.2.2.1) ((nthI a8 a6 df3).2.2.2.2.2.2.2.2.2) a7 ((nthI a8 a6 df3).2.2.2.2.2.2.2.2.1.2)) fun r11 =>
    (bif (!r11.1) then
    (bif decide ((0 : Int) ≤ a5 ∧ a5 < (a8.length : Int)) then
    (let v12 : List ty4 := (a8.set (Int.toNat a5) (nthI a8 a6 df3))
    (G.slices.DeleteFunc_Item_l0 m e5_0 (IntKind.wrap .i64 (a5 + 1)) (IntKind.wrap .i64 (a6 + 1)) r11.2 v12))
    else
    none)
    else
    (G.slices.DeleteFunc_Item_l0 m e5_0 a5 (IntKind.wrap .i64 (a6 + 1)) r11.2 a8)))
    else
    none)
    else
    (e5_0 a5 a7 a8))
noncomputable def G.slices.DeleteFunc_Item (a1 : Int) (a2 : List ty4) : Option (Int × (List ty4)) :=
(Option.bind (G.slices.IndexFunc_Item a1 (List.map (Sh.nm sh3) a2)) fun r3 =>
(bif (r3.1 == (-1)) then
(some (r3.2, a2))
else
(G.slices.DeleteFunc_Item_l0 fu (fun y16 y17 y18 =>
(bif decide ((0 : Int) ≤ y16 ∧ y16 ≤ (y18.length : Int) ∧ (y18.length : Int) ≤ (y18.length : Int)) then
(let v19 : List ty4 := (clr y18 (Int.toNat y16) (Int.toNat (y18.length : Int) - Int.toNat y16) (0, (0, (0, (0, (0, (0, (0, (0, ((((none, 0, 0) : HD), []), false))))))))))
(bif decide ((0 : Int) ≤ 0 ∧ 0 ≤ y16 ∧ y16 ≤ (v19.length : Int)) then
(some (y17, (List.take (Int.toNat y16) v19)))
else
none))
else
none)) r3.1 (IntKind.wrap .i64 (r3.1 + 1)) r3.2 a2)))
noncomputable def H93_5 : LoopH := ⟨⟨((.one (.sl 0)) :: (.one (.fn 94 [(0, 0)])) :: (hu 3 (hh :: hh :: (hu 35 [])))), [(3, [.hole])], [(95, sh3, .own)]⟩, ([2, 3, 4] ++ rg 7 35), [], ([1, 2, 3] ++ rg 6 36), [], []⟩
noncomputable def k93_5 : List PK := (ki 3 [.row sh3])
noncomputable def W93_5 (m : Nat) (k : Kont (Int × (List ty4))) : Cur k93_5 (Option (Int × (List ty4))) := G.slices.DeleteFunc_Item_l0 m (exF k (.exit 0) ⟨((.one (.sl 0)) :: (hu 4 (hh :: (hu 36 [])))), [(3, [.hole])], [(95, sh3, .own)]⟩ (ki 2 [.row sh3]))
noncomputable def E93_5 (m : Nat) : List Prm → Kont (Int × (List ty4)) → Option (Int × (List ty4)) := eL k93_5 (W93_5 m)
theorem ev93_5 (m : Nat) (k : Kont (Int × (List ty4))) (a : Args k93_5) : evL Try.prog G93 loopNil c93_5 (turn Try.prog (1, 1) H93_5 (E93_5 m) k) (H93_5.sk.fl (encP k93_5 a)) = unc k93_5 (W93_5 (m + 1) k) a := by kernel_rfl
theorem ok93_5 (m : Nat) : LoopOk Try.prog (1, 1) c93_5 (enter Try.prog (1, 1) H93_5 (E93_5 m)) := loop_gen (Fl := W93_5) (G := G93) (L := loopNil) (envCons_good good127 (envCons_good good94 envNil_good)) (no_loops (c := c93_5) (by kernel_rfl)) (fun _ _ => by kernel_rfl) ev93_5 m
noncomputable def L93 : LEnv (Int × (List ty4)) := (loopCons 5 (enter Try.prog (1, 1) H93_5 (E93_5 fu)) loopNil)
theorem lq93 : loopsOf c93 = [c93_5] := by kernel_rfl
theorem fr93_5 : firstReg c93_5 = some 5 := by kernel_rfl
theorem le93_5 : L93 5 = enter Try.prog (1, 1) H93_5 (E93_5 fu) := by kernel_rfl
theorem lm93 : ∀ x ∈ [c93_5], ∀ id, firstReg x = some id → LoopOk Try.prog (1, 1) x (L93 id) := (loops_cons fr93_5 le93_5 (ok93_5 fu) loops_nil)
theorem lp93 : ∀ x ∈ loopsOf c93, ∀ id, firstReg x = some id → LoopOk Try.prog (1, 1) x (L93 id) := loops_eq lq93 lm93
noncomputable def sg93 : Sg := ⟨⟨[.one (.sl 0), .one (.fn 94 [(0, 0)])], [(3, [.hole])], [(95, sh3, .own)]⟩, [.int .i64, .row sh3], ⟨[.one (.sl 1)], [(3, [.hole])], [(95, sh3, .dead), (95, sh3, .own)]⟩, [.int .i64, .rowd sh3, .row sh3]⟩
noncomputable def E93 : Fun2 := eOf sg93 G.slices.DeleteFunc_Item
theorem ev93 (a : Args sg93.ks) : evS Try.prog G93 L93 (1, 1) [0] Try.f93 c93 (kOf sg93) (sg93.sk.fl (encP sg93.ks a)) = unc sg93.ks G.slices.DeleteFunc_Item a := by kernel_rfl
theorem good93 : Vm.Good Try.prog 93 E93 := good_gen (G := G93) (L := L93) (c := c93) (rn := [0]) (N := (1, 1)) (envCons_good good127 (envCons_good good94 envNil_good)) lp93 Try.func93 (by kernel_rfl) (by kernel_rfl) (fun _ => by kernel_rfl) ev93
noncomputable def G52 : Env := (envConsH 93 [0] E93 envNil)
noncomputable def c52 : Code := bodyOf Try.f52
noncomputable def I.Box_ack (a1 a2 a3 a4 a5 : Int) (a6 : List ty6) (a7 : List (Int × Int × Int)) : Option (Int × Int × Int × Int × (List (Int × Int × Int)) × (List ty6)) :=
(anyH sh1 a6 fun z8 =>
(Option.bind (G.slices.DeleteFunc_Item a1 z8) fun r9 =>
(thaw sh1 z8 r9.2
(some (a2, a3, a4, a5, a7, (List.map (Sh.bare sh1) r9.2))))))
noncomputable def sg52 : Sg := ⟨⟨[.one (.ptr 0 0), hh], [(38, (ho 4 [.sl 0, .sl 1]))], [(95, sh1, .own), (129, sh2, .own)]⟩, (ki 5 [.row sh1, .row sh2]), ⟨[], [(38, (ho 4 [.sl 2, .sl 1]))], [(95, sh3, .dead), (129, sh2, .own), (95, sh1, .own)]⟩, (ki 4 [.rowd sh3, .row sh2, .row sh1])⟩
noncomputable def E52 : Fun2 := eOf sg52 I.Box_ack
theorem ev52 (a : Args sg52.ks) : evS Try.prog G52 loopNil (1, 2) [] Try.f52 c52 (kOf sg52) (sg52.sk.fl (encP sg52.ks a)) = unc sg52.ks I.Box_ack a := by kernel_rfl
theorem good52 : Vm.Good Try.prog 52 E52 := good_gen (G := G52) (L := loopNil) (c := c52) (rn := []) (N := (1, 2)) (envConsH_good good93 envNil_good) (no_loops (c := c52) (by kernel_rfl)) Try.func52 (by kernel_rfl) (by kernel_rfl) (fun _ => by kernel_rfl) ev52
noncomputable def G16 : Env := (envCons 50 [] E50 (envCons 51 [] E51 (envCons 52 [] E52 envNil)))
noncomputable def c16 : Code := bodyOf Try.f16
noncomputable def I.BoxAck (a1 a2 a3 a4 a5 : Int) (a6 : List ty6) (a7 : List (Int × Int × Int)) : Option (Int × Int × Int × Int × Bool × (List ty6) × (List (Int × Int × Int))) :=
(Option.bind (I.isBox a1 a2 a3 a4 a6 a7) fun r8 =>
(bif (!r8) then
(some (0, 0, 0, 0, false, [], []))
else
(Option.bind (I.Box_copied a1 a2 a3 a4 a6 a7) fun r9 =>
(Option.bind (I.Box_ack a5 r9.1 r9.2.1 r9.2.2.1 r9.2.2.2.1 r9.2.2.2.2.1 r9.2.2.2.2.2) fun r10 =>
(some (r10.1, r10.2.1, r10.2.2.1, r10.2.2.2.1, true, r10.2.2.2.2.2, r10.2.2.2.2.1))))))
noncomputable def sg16 : Sg := ⟨⟨[.agg (ho 4 [.sl 0, .sl 1]), hh], [], [(95, sh1, .ro), (129, sh2, .ro)]⟩, (ki 5 [.row sh1, .row sh2]), ⟨[.agg (ho 4 [.sl 0, .sl 1]), hh], [], [(95, sh1, .own), (129, sh2, .own)]⟩, (ki 4 [.bool, .row sh1, .row sh2])⟩
noncomputable def E16 : Fun2 := eOf sg16 I.BoxAck
theorem ev16 (a : Args sg16.ks) : evS Try.prog G16 loopNil (0, 0) [] Try.f16 c16 (kOf sg16) (sg16.sk.fl (encP sg16.ks a)) = unc sg16.ks I.BoxAck a := by kernel_rfl
theorem good16 : Vm.Good Try.prog 16 E16 := good_gen (G := G16) (L := loopNil) (c := c16) (rn := []) (N := (0, 0)) (envCons_good good50 (envCons_good good51 (envCons_good good52 envNil_good))) (no_loops (c := c16) (by kernel_rfl)) Try.func16 (by kernel_rfl) (by kernel_rfl) (fun _ => by kernel_rfl) ev16
noncomputable def G73 : Env := envNil
noncomputable def c73 : Code := bodyOf Try.f73
noncomputable def c73_4 : Code := (loopsOf c73).getD 0 .skip
noncomputable def L.eqIntS_l0 : Nat → (Bool → Option Bool) → (Option Bool) → Int → List Int → List Int → Option Bool
  | 0, _, _, _, _, _ => none
  | m + 1, e4_0, e4_1, a5, a6, a7 =>
    (bif (decide (a5 < (a6.length : Int))) then
    (bif decide ((0 : Int) ≤ a5 ∧ a5 < (a6.length : Int)) then
    (bif decide ((0 : Int) ≤ a5 ∧ a5 < (a7.length : Int)) then
    (bif ((nthI a6 a5 (0 : Int)) != (nthI a7 a5 (0 : Int))) then
    (e4_0 false)
    else
    (L.eqIntS_l0 m e4_0 e4_1 (IntKind.wrap .i64 (a5 + 1)) a6 a7))
    else
    none)
    else
    none)
    else
    e4_1)
noncomputable def L.eqIntS (a1 a2 : List Int) : Option Bool :=
(bif ((a1.length : Int) != (a2.length : Int)) then
(some false)
else
(L.eqIntS_l0 fu (fun y12 =>
(some y12)) (some true) 0 a1 a2))
noncomputable def H73_4 : LoopH := ⟨⟨((.one (.sl 0)) :: (.one (.sl 1)) :: (hu 3 (hh :: (hu 20 [])))), [], [(3, (.int .i64), .ro), (3, (.int .i64), .ro)]⟩, ([2, 3, 4] ++ rg 6 20), [], (rg 0 4 ++ rg 5 21), [], []⟩
noncomputable def k73_4 : List PK := [.int .i64, .row (.int .i64), .row (.int .i64)]
noncomputable def W73_4 (m : Nat) (k : Kont Bool) : Cur k73_4 (Option Bool) := L.eqIntS_l0 m (exF k .ret ⟨(hu 4 (hh :: (hu 21 []))), [], []⟩ [.bool]) (exF k (.exit 0) ⟨(hu 26 []), [], []⟩ [])
noncomputable def E73_4 (m : Nat) : List Prm → Kont Bool → Option Bool := eL k73_4 (W73_4 m)
theorem ev73_4 (m : Nat) (k : Kont Bool) (a : Args k73_4) : evL Try.prog G73 loopNil c73_4 (turn Try.prog (0, 0) H73_4 (E73_4 m) k) (H73_4.sk.fl (encP k73_4 a)) = unc k73_4 (W73_4 (m + 1) k) a := by kernel_rfl
theorem ok73_4 (m : Nat) : LoopOk Try.prog (0, 0) c73_4 (enter Try.prog (0, 0) H73_4 (E73_4 m)) := loop_gen (Fl := W73_4) (G := G73) (L := loopNil) envNil_good (no_loops (c := c73_4) (by kernel_rfl)) (fun _ _ => by kernel_rfl) ev73_4 m
noncomputable def L73 : LEnv Bool := (loopCons 4 (enter Try.prog (0, 0) H73_4 (E73_4 fu)) loopNil)
theorem lq73 : loopsOf c73 = [c73_4] := by kernel_rfl
theorem fr73_4 : firstReg c73_4 = some 4 := by kernel_rfl
theorem le73_4 : L73 4 = enter Try.prog (0, 0) H73_4 (E73_4 fu) := by kernel_rfl
theorem lm73 : ∀ x ∈ [c73_4], ∀ id, firstReg x = some id → LoopOk Try.prog (0, 0) x (L73 id) := (loops_cons fr73_4 le73_4 (ok73_4 fu) loops_nil)
theorem lp73 : ∀ x ∈ loopsOf c73, ∀ id, firstReg x = some id → LoopOk Try.prog (0, 0) x (L73 id) := loops_eq lq73 lm73
noncomputable def sg73 : Sg := ⟨⟨[.one (.sl 0), .one (.sl 1)], [], [(3, (.int .i64), .ro), (3, (.int .i64), .ro)]⟩, [.row (.int .i64), .row (.int .i64)], ⟨[hh], [], []⟩, [.bool]⟩
noncomputable def E73 : Fun2 := eOf sg73 L.eqIntS
theorem ev73 (a : Args sg73.ks) : evS Try.prog G73 L73 (0, 0) [] Try.f73 c73 (kOf sg73) (sg73.sk.fl (encP sg73.ks a)) = unc sg73.ks L.eqIntS a := by kernel_rfl
theorem good73 : Vm.Good Try.prog 73 E73 := good_gen (G := G73) (L := L73) (c := c73) (rn := []) (N := (0, 0)) envNil_good lp73 Try.func73 (by kernel_rfl) (by kernel_rfl) (fun _ => by kernel_rfl) ev73
noncomputable def G27 : Env := (envCons 73 [] E73 envNil)
noncomputable def c27 : Code := bodyOf Try.f27
noncomputable def L.eqPane (a1 a2 a3 a4 a5 a6 : Int) (a7 : Bool) (a8 a9 a10 a11 a12 a13 : Int) (a14 : Bool) (a15 a16 : List Int) : Option Bool :=
(bif (a1 != a8) then
(some false)
else
(bif (a2 != a9) then
(some false)
else
(bif (a3 != a10) then
(some false)
else
(bif (a4 != a11) then
(some false)
else
(bif (a5 != a12) then
(some false)
else
(bif (a6 != a13) then
(some false)
else
(Option.bind (L.eqIntS a15 a16) fun r17 =>
(bif (!r17) then
(some false)
else
(bif (!(a7 == a14)) then
(some false)
else
(some true))))))))))
noncomputable def sg27 : Sg := ⟨⟨[.agg (ho 6 [.sl 0, .hole]), .agg (ho 6 [.sl 1, .hole])], [], [(3, (.int .i64), .ro), (3, (.int .i64), .ro)]⟩, (ki 6 ((.bool) :: (ki 6 [.bool, .row (.int .i64), .row (.int .i64)]))), ⟨[hh], [], []⟩, [.bool]⟩
noncomputable def E27 : Fun2 := eOf sg27 L.eqPane
theorem ev27 (a : Args sg27.ks) : evS Try.prog G27 loopNil (0, 0) [] Try.f27 c27 (kOf sg27) (sg27.sk.fl (encP sg27.ks a)) = unc sg27.ks L.eqPane a := by kernel_rfl
theorem good27 : Vm.Good Try.prog 27 E27 := good_gen (G := G27) (L := loopNil) (c := c27) (rn := []) (N := (0, 0)) (envCons_good good73 envNil_good) (no_loops (c := c27) (by kernel_rfl)) Try.func27 (by kernel_rfl) (by kernel_rfl) (fun _ => by kernel_rfl) ev27
noncomputable def G95 : Env := (envCons 27 [] E27 envNil)
noncomputable def c95 : Code := bodyOf Try.f95
noncomputable def L.eqItem (a1 a2 a3 a4 a5 a6 a7 a8 : Int) (a9 : Bool) (a10 a11 a12 a13 a14 a15 a16 a17 : Int) (a18 : Bool) (a19 a20 : List Int) : Option Bool :=
(bif (a1 != a10) then
(some false)
else
(bif (a2 != a11) then
(some false)
else
(Option.bind (L.eqPane a3 a4 a5 a6 a7 a8 a9 a12 a13 a14 a15 a16 a17 a18 a19 a20) fun r21 =>
(bif (!r21) then
(some false)
else
(some true)))))
noncomputable def sg95 : Sg := ⟨⟨[.agg (ho 8 [.sl 0, .hole]), .agg (ho 8 [.sl 1, .hole])], [], [(3, (.int .i64), .ro), (3, (.int .i64), .ro)]⟩, (ki 8 ((.bool) :: (ki 8 [.bool, .row (.int .i64), .row (.int .i64)]))), ⟨[hh], [], []⟩, [.bool]⟩
noncomputable def E95 : Fun2 := eOf sg95 L.eqItem
theorem ev95 (a : Args sg95.ks) : evS Try.prog G95 loopNil (0, 0) [] Try.f95 c95 (kOf sg95) (sg95.sk.fl (encP sg95.ks a)) = unc sg95.ks L.eqItem a := by kernel_rfl
theorem good95 : Vm.Good Try.prog 95 E95 := good_gen (G := G95) (L := loopNil) (c := c95) (rn := []) (N := (0, 0)) (envCons_good good27 envNil_good) (no_loops (c := c95) (by kernel_rfl)) Try.func95 (by kernel_rfl) (by kernel_rfl) (fun _ => by kernel_rfl) ev95
noncomputable def G53 : Env := (envCons 95 [] E95 envNil)
noncomputable def c53 : Code := bodyOf Try.f53
noncomputable def c53_4 : Code := (loopsOf c53).getD 0 .skip
noncomputable def L.eqItemS_l0 : Nat → (Bool → Option Bool) → (Option Bool) → Int → (List ty6) → (List ty6) → Option Bool
  | 0, _, _, _, _, _ => none
  | m + 1, e4_0, e4_1, a5, a6, a7 =>
    (bif (decide (a5 < (a6.length : Int))) then
    (bif decide ((0 : Int) ≤ a5 ∧ a5 < (a6.length : Int)) then
    (bif decide ((0 : Int) ≤ a5 ∧ a5 < (a7.length : Int)) then
    (Option.bind (L.eqItem ((nthI a6 a5 df1).1) ((nthI a6 a5 df1).2.1) ((nthI a6 a5 df1).2.2.1) ((nthI a6 a5 df1).2.2.2.1) ((nthI a6 a5 df1).2.2.2.2.1) ((nthI a6 a5 df1).2.2.2.2.2.1) ((nthI a6 a5 df1).2.2.2.2.2.2.1) ((nthI a6 a5 df1).2.2.2.2.2.2.2.1) ((nthI a6 a5 df1).2.2.2.2.2.2.2.2.2) ((nthI a7 a5 df1).1) ((nthI a7 a5 df1).2.1) ((nthI a7 a5 df1).2.2.1) ((nthI a7 a5 df1).2.2.2.1) ((nthI a7 a5 df1).2.2.2.2.1) ((nthI a7 a5 df1).2.2.2.2.2.1) ((nthI a7 a5 df1).2.2.2.2.2.2.1) ((nthI a7 a5 df1).2.2.2.2.2.2.2.1) ((nthI a7 a5 df1).2.2.2.2.2.2.2.2.2) ((nthI a6 a5 df1).2.2.2.2.2.2.2.2.1) ((nthI a7 a5 df1).2.2.2.2.2.2.2.2.1)) fun r10 =>
    (bif (!r10) then
    (e4_0 false)
    else
    (L.eqItemS_l0 m e4_0 e4_1 (IntKind.wrap .i64 (a5 + 1)) a6 a7)))
    else
    none)
    else
    none)
    else
    e4_1)
noncomputable def L.eqItemS (a1 a2 : List ty6) : Option Bool :=
(bif ((a1.length : Int) != (a2.length : Int)) then
(some false)
else
(L.eqItemS_l0 fu (fun y12 =>
(some y12)) (some true) 0 a1 a2))
noncomputable def H53_4 : LoopH := ⟨⟨((.one (.sl 0)) :: (.one (.sl 1)) :: (hu 3 (hh :: (hu 21 [])))), [], [(95, sh1, .ro), (95, sh1, .ro)]⟩, ([2, 3, 4] ++ rg 6 21), [], (rg 0 4 ++ rg 5 22), [], []⟩
noncomputable def k53_4 : List PK := [.int .i64, .row sh1, .row sh1]
noncomputable def W53_4 (m : Nat) (k : Kont Bool) : Cur k53_4 (Option Bool) := L.eqItemS_l0 m (exF k .ret ⟨(hu 4 (hh :: (hu 22 []))), [], []⟩ [.bool]) (exF k (.exit 0) ⟨(hu 27 []), [], []⟩ [])
noncomputable def E53_4 (m : Nat) : List Prm → Kont Bool → Option Bool := eL k53_4 (W53_4 m)
theorem ev53_4 (m : Nat) (k : Kont Bool) (a : Args k53_4) : evL Try.prog G53 loopNil c53_4 (turn Try.prog (0, 0) H53_4 (E53_4 m) k) (H53_4.sk.fl (encP k53_4 a)) = unc k53_4 (W53_4 (m + 1) k) a := by kernel_rfl
theorem ok53_4 (m : Nat) : LoopOk Try.prog (0, 0) c53_4 (enter Try.prog (0, 0) H53_4 (E53_4 m)) := loop_gen (Fl := W53_4) (G := G53) (L := loopNil) (envCons_good good95 envNil_good) (no_loops (c := c53_4) (by kernel_rfl)) (fun _ _ => by kernel_rfl) ev53_4 m
noncomputable def L53 : LEnv Bool := (loopCons 4 (enter Try.prog (0, 0) H53_4 (E53_4 fu)) loopNil)
theorem lq53 : loopsOf c53 = [c53_4] := by kernel_rfl
theorem fr53_4 : firstReg c53_4 = some 4 := by kernel_rfl
theorem le53_4 : L53 4 = enter Try.prog (0, 0) H53_4 (E53_4 fu) := by kernel_rfl
theorem lm53 : ∀ x ∈ [c53_4], ∀ id, firstReg x = some id → LoopOk Try.prog (0, 0) x (L53 id) := (loops_cons fr53_4 le53_4 (ok53_4 fu) loops_nil)
theorem lp53 : ∀ x ∈ loopsOf c53, ∀ id, firstReg x = some id → LoopOk Try.prog (0, 0) x (L53 id) := loops_eq lq53 lm53
noncomputable def sg53 : Sg := ⟨⟨[.one (.sl 0), .one (.sl 1)], [], [(95, sh1, .ro), (95, sh1, .ro)]⟩, [.row sh1, .row sh1], ⟨[hh], [], []⟩, [.bool]⟩
noncomputable def E53 : Fun2 := eOf sg53 L.eqItemS
theorem ev53 (a : Args sg53.ks) : evS Try.prog G53 L53 (0, 0) [] Try.f53 c53 (kOf sg53) (sg53.sk.fl (encP sg53.ks a)) = unc sg53.ks L.eqItemS a := by kernel_rfl
theorem good53 : Vm.Good Try.prog 53 E53 := good_gen (G := G53) (L := L53) (c := c53) (rn := []) (N := (0, 0)) (envCons_good good95 envNil_good) lp53 Try.func53 (by kernel_rfl) (by kernel_rfl) (fun _ => by kernel_rfl) ev53
noncomputable def G96 : Env := envNil
noncomputable def c96 : Code := bodyOf Try.f96
noncomputable def L.eqRec (a1 a2 a3 a4 a5 a6 : Int) : Option Bool :=
(bif (a1 != a4) then
(some false)
else
(bif (a2 != a5) then
(some false)
else
(bif (a3 != a6) then
(some false)
else
(some true))))
noncomputable def sg96 : Sg := ⟨⟨[.agg (ho 3 []), .agg (ho 3 [])], [], []⟩, (ki 6 []), ⟨[hh], [], []⟩, [.bool]⟩
noncomputable def E96 : Fun2 := eOf sg96 L.eqRec
theorem ev96 (a : Args sg96.ks) : evS Try.prog G96 loopNil (0, 0) [] Try.f96 c96 (kOf sg96) (sg96.sk.fl (encP sg96.ks a)) = unc sg96.ks L.eqRec a := by kernel_rfl
theorem good96 : Vm.Good Try.prog 96 E96 := good_gen (G := G96) (L := loopNil) (c := c96) (rn := []) (N := (0, 0)) envNil_good (no_loops (c := c96) (by kernel_rfl)) Try.func96 (by kernel_rfl) (by kernel_rfl) (fun _ => by kernel_rfl) ev96
noncomputable def G54 : Env := (envCons 96 [] E96 envNil)
noncomputable def c54 : Code := bodyOf Try.f54
noncomputable def c54_4 : Code := (loopsOf c54).getD 0 .skip
noncomputable def L.eqRecS_l0 : Nat → (Bool → Option Bool) → (Option Bool) → Int → (List (Int × Int × Int)) → (List (Int × Int × Int)) → Option Bool
  | 0, _, _, _, _, _ => none
  | m + 1, e4_0, e4_1, a5, a6, a7 =>
    (bif (decide (a5 < (a6.length : Int))) then
    (bif decide ((0 : Int) ≤ a5 ∧ a5 < (a6.length : Int)) then
    (bif decide ((0 : Int) ≤ a5 ∧ a5 < (a7.length : Int)) then
    (Option.bind (L.eqRec ((nthI a6 a5 df2).1) ((nthI a6 a5 df2).2.1) ((nthI a6 a5 df2).2.2) ((nthI a7 a5 df2).1) ((nthI a7 a5 df2).2.1) ((nthI a7 a5 df2).2.2)) fun r10 =>
    (bif (!r10) then
    (e4_0 false)
    else
    (L.eqRecS_l0 m e4_0 e4_1 (IntKind.wrap .i64 (a5 + 1)) a6 a7)))
    else
    none)
    else
    none)
    else
    e4_1)
noncomputable def L.eqRecS (a1 a2 : List (Int × Int × Int)) : Option Bool :=
(bif ((a1.length : Int) != (a2.length : Int)) then
(some false)
else
(L.eqRecS_l0 fu (fun y12 =>
(some y12)) (some true) 0 a1 a2))
noncomputable def H54_4 : LoopH := ⟨⟨((.one (.sl 0)) :: (.one (.sl 1)) :: (hu 3 (hh :: (hu 21 [])))), [], [(129, sh2, .ro), (129, sh2, .ro)]⟩, ([2, 3, 4] ++ rg 6 21), [], (rg 0 4 ++ rg 5 22), [], []⟩
noncomputable def k54_4 : List PK := [.int .i64, .row sh2, .row sh2]
noncomputable def W54_4 (m : Nat) (k : Kont Bool) : Cur k54_4 (Option Bool) := L.eqRecS_l0 m (exF k .ret ⟨(hu 4 (hh :: (hu 22 []))), [], []⟩ [.bool]) (exF k (.exit 0) ⟨(hu 27 []), [], []⟩ [])
noncomputable def E54_4 (m : Nat) : List Prm → Kont Bool → Option Bool := eL k54_4 (W54_4 m)
theorem ev54_4 (m : Nat) (k : Kont Bool) (a : Args k54_4) : evL Try.prog G54 loopNil c54_4 (turn Try.prog (0, 0) H54_4 (E54_4 m) k) (H54_4.sk.fl (encP k54_4 a)) = unc k54_4 (W54_4 (m + 1) k) a := by kernel_rfl
theorem ok54_4 (m : Nat) : LoopOk Try.prog (0, 0) c54_4 (enter Try.prog (0, 0) H54_4 (E54_4 m)) := loop_gen (Fl := W54_4) (G := G54) (L := loopNil) (envCons_good good96 envNil_good) (no_loops (c := c54_4) (by kernel_rfl)) (fun _ _ => by kernel_rfl) ev54_4 m
noncomputable def L54 : LEnv Bool := (loopCons 4 (enter Try.prog (0, 0) H54_4 (E54_4 fu)) loopNil)
theorem lq54 : loopsOf c54 = [c54_4] := by kernel_rfl
theorem fr54_4 : firstReg c54_4 = some 4 := by kernel_rfl
theorem le54_4 : L54 4 = enter Try.prog (0, 0) H54_4 (E54_4 fu) := by kernel_rfl
theorem lm54 : ∀ x ∈ [c54_4], ∀ id, firstReg x = some id → LoopOk Try.prog (0, 0) x (L54 id) := (loops_cons fr54_4 le54_4 (ok54_4 fu) loops_nil)
theorem lp54 : ∀ x ∈ loopsOf c54, ∀ id, firstReg x = some id → LoopOk Try.prog (0, 0) x (L54 id) := loops_eq lq54 lm54
noncomputable def sg54 : Sg := ⟨⟨[.one (.sl 0), .one (.sl 1)], [], [(129, sh2, .ro), (129, sh2, .ro)]⟩, [.row sh2, .row sh2], ⟨[hh], [], []⟩, [.bool]⟩
noncomputable def E54 : Fun2 := eOf sg54 L.eqRecS
theorem ev54 (a : Args sg54.ks) : evS Try.prog G54 L54 (0, 0) [] Try.f54 c54 (kOf sg54) (sg54.sk.fl (encP sg54.ks a)) = unc sg54.ks L.eqRecS a := by kernel_rfl
theorem good54 : Vm.Good Try.prog 54 E54 := good_gen (G := G54) (L := L54) (c := c54) (rn := []) (N := (0, 0)) (envCons_good good96 envNil_good) lp54 Try.func54 (by kernel_rfl) (by kernel_rfl) (fun _ => by kernel_rfl) ev54
noncomputable def G17 : Env := (envCons 53 [] E53 (envCons 54 [] E54 envNil))
noncomputable def c17 : Code := bodyOf Try.f17
noncomputable def L.eqBox (a1 a2 a3 a4 a5 a6 a7 a8 : Int) (a9 : List ty6) (a10 : List (Int × Int × Int)) (a11 : List ty6) (a12 : List (Int × Int × Int)) : Option Bool :=
(bif (a1 != a5) then
(some false)
else
(bif (a2 != a6) then
(some false)
else
(bif (a3 != a7) then
(some false)
else
(bif (a4 != a8) then
(some false)
else
(Option.bind (L.eqItemS a9 a11) fun r13 =>
(bif (!r13) then
(some false)
else
(Option.bind (L.eqRecS a10 a12) fun r14 =>
(bif (!r14) then
(some false)
else
(some true)))))))))
noncomputable def sg17 : Sg := ⟨⟨[.agg (ho 4 [.sl 0, .sl 1]), .agg (ho 4 [.sl 2, .sl 3])], [], [(95, sh1, .ro), (129, sh2, .ro), (95, sh1, .ro), (129, sh2, .ro)]⟩, (ki 8 [.row sh1, .row sh2, .row sh1, .row sh2]), ⟨[hh], [], []⟩, [.bool]⟩
noncomputable def E17 : Fun2 := eOf sg17 L.eqBox
theorem ev17 (a : Args sg17.ks) : evS Try.prog G17 loopNil (0, 0) [] Try.f17 c17 (kOf sg17) (sg17.sk.fl (encP sg17.ks a)) = unc sg17.ks L.eqBox a := by kernel_rfl
theorem good17 : Vm.Good Try.prog 17 E17 := good_gen (G := G17) (L := loopNil) (c := c17) (rn := []) (N := (0, 0)) (envCons_good good53 (envCons_good good54 envNil_good)) (no_loops (c := c17) (by kernel_rfl)) Try.func17 (by kernel_rfl) (by kernel_rfl) (fun _ => by kernel_rfl) ev17
noncomputable def G41 : Env := envNil
noncomputable def c41 : Code := bodyOf Try.f41
noncomputable def c41_2 : Code := (loopsOf c41).getD 0 .skip
noncomputable def L.markIntS_l0 : Nat → (Int → List Int → Option (Int × List Int)) → Int → Int → List Int → Option (Int × List Int)
  | 0, _, _, _, _ => none
  | m + 1, e2_0, a3, a4, a5 =>
    (bif (decide (a4 < (a5.length : Int))) then
    (bif decide ((0 : Int) ≤ a4 ∧ a4 < (a5.length : Int)) then
    (L.markIntS_l0 m e2_0 (IntKind.wrap .i64 (a3 + 1)) (IntKind.wrap .i64 (a4 + 1)) (a5.set (Int.toNat a4) a3))
    else
    none)
    else
    (e2_0 a3 a5))
noncomputable def L.markIntS (a1 : Int) (a2 : List Int) : Option (Int × List Int) :=
(L.markIntS_l0 fu (fun y11 y12 =>
(some (y11, y12))) a1 0 a2)
noncomputable def H41_2 : LoopH := ⟨⟨((.one (.sl 0)) :: hh :: (hu 3 (hh :: (hu 13 [])))), [], [(3, (.int .i64), .own)]⟩, ([2, 3, 4] ++ rg 6 13), [], ([0, 2, 3] ++ rg 5 14), [], []⟩
noncomputable def k41_2 : List PK := (ki 2 [.row (.int .i64)])
noncomputable def W41_2 (m : Nat) (k : Kont (Int × List Int)) : Cur k41_2 (Option (Int × List Int)) := L.markIntS_l0 m (exF k (.exit 0) ⟨((.one (.unk)) :: hh :: (hu 17 [])), [], [(3, (.int .i64), .own)]⟩ [.int .i64, .row (.int .i64)])
noncomputable def E41_2 (m : Nat) : List Prm → Kont (Int × List Int) → Option (Int × List Int) := eL k41_2 (W41_2 m)
theorem ev41_2 (m : Nat) (k : Kont (Int × List Int)) (a : Args k41_2) : evL Try.prog G41 loopNil c41_2 (turn Try.prog (0, 1) H41_2 (E41_2 m) k) (H41_2.sk.fl (encP k41_2 a)) = unc k41_2 (W41_2 (m + 1) k) a := by kernel_rfl
theorem ok41_2 (m : Nat) : LoopOk Try.prog (0, 1) c41_2 (enter Try.prog (0, 1) H41_2 (E41_2 m)) := loop_gen (Fl := W41_2) (G := G41) (L := loopNil) envNil_good (no_loops (c := c41_2) (by kernel_rfl)) (fun _ _ => by kernel_rfl) ev41_2 m
noncomputable def L41 : LEnv (Int × List Int) := (loopCons 2 (enter Try.prog (0, 1) H41_2 (E41_2 fu)) loopNil)
theorem lq41 : loopsOf c41 = [c41_2] := by kernel_rfl
theorem fr41_2 : firstReg c41_2 = some 2 := by kernel_rfl
theorem le41_2 : L41 2 = enter Try.prog (0, 1) H41_2 (E41_2 fu) := by kernel_rfl
theorem lm41 : ∀ x ∈ [c41_2], ∀ id, firstReg x = some id → LoopOk Try.prog (0, 1) x (L41 id) := (loops_cons fr41_2 le41_2 (ok41_2 fu) loops_nil)
theorem lp41 : ∀ x ∈ loopsOf c41, ∀ id, firstReg x = some id → LoopOk Try.prog (0, 1) x (L41 id) := loops_eq lq41 lm41
noncomputable def sg41 : Sg := ⟨⟨[.one (.sl 0), hh], [], [(3, (.int .i64), .own)]⟩, [.int .i64, .row (.int .i64)], ⟨[hh], [], [(3, (.int .i64), .own)]⟩, [.int .i64, .row (.int .i64)]⟩
noncomputable def E41 : Fun2 := eOf sg41 L.markIntS
theorem ev41 (a : Args sg41.ks) : evS Try.prog G41 L41 (0, 1) [] Try.f41 c41 (kOf sg41) (sg41.sk.fl (encP sg41.ks a)) = unc sg41.ks L.markIntS a := by kernel_rfl
theorem good41 : Vm.Good Try.prog 41 E41 := good_gen (G := G41) (L := L41) (c := c41) (rn := []) (N := (0, 1)) envNil_good lp41 Try.func41 (by kernel_rfl) (by kernel_rfl) (fun _ => by kernel_rfl) ev41
noncomputable def G55 : Env := (envCons 41 [0] E41 envNil)
noncomputable def c55 : Code := bodyOf Try.f55
noncomputable def c55_2 : Code := (loopsOf c55).getD 0 .skip
noncomputable def L.markItemS_l0 : Nat → (Int → (List ty6) → Option (Int × (List ty6))) → Int → Int → (List ty6) → Option (Int × (List ty6))
  | 0, _, _, _, _ => none
  | m + 1, e2_0, a3, a4, a5 =>
    (bif (decide (a4 < (a5.length : Int))) then
    (bif decide ((0 : Int) ≤ a4 ∧ a4 < (a5.length : Int)) then
    (let v8 : List ty6 := (a5.set (Int.toNat a4) (a3, (nthI a5 a4 df1).2))
    (let v9 : Int := (IntKind.wrap .i64 (a3 + 1))
    (bif decide ((0 : Int) ≤ a4 ∧ a4 < (v8.length : Int)) then
    (let v10 : List ty6 := (v8.set (Int.toNat a4) ((nthI v8 a4 df1).1, (v9, (nthI v8 a4 df1).2.2)))
    (let v11 : Int := (IntKind.wrap .i64 (v9 + 1))
    (bif decide ((0 : Int) ≤ a4 ∧ a4 < (v10.length : Int)) then
    (let v12 : List ty6 := (v10.set (Int.toNat a4) ((nthI v10 a4 df1).1, ((nthI v10 a4 df1).2.1, (v11, (nthI v10 a4 df1).2.2.2))))
    (let v13 : Int := (IntKind.wrap .i64 (v11 + 1))
    (bif decide ((0 : Int) ≤ a4 ∧ a4 < (v12.length : Int)) then
    (let v14 : List ty6 := (v12.set (Int.toNat a4) ((nthI v12 a4 df1).1, ((nthI v12 a4 df1).2.1, ((nthI v12 a4 df1).2.2.1, (v13, (nthI v12 a4 df1).2.2.2.2)))))
    (let v15 : Int := (IntKind.wrap .i64 (v13 + 1))
    (bif decide ((0 : Int) ≤ a4 ∧ a4 < (v14.length : Int)) then
    (let v16 : List ty6 := (v14.set (Int.toNat a4) ((nthI v14 a4 df1).1, ((nthI v14 a4 df1).2.1, ((nthI v14 a4 df1).2.2.1, ((nthI v14 a4 df1).2.2.2.1, (v15, (nthI v14 a4 df1).2.2.2.2.2))))))
    (let v17 : Int := (IntKind.wrap .i64 (v15 + 1))
    (bif decide ((0 : Int) ≤ a4 ∧ a4 < (v16.length : Int)) then
    (let v18 : List ty6 := (v16.set (Int.toNat a4) ((nthI v16 a4 df1).1, ((nthI v16 a4 df1).2.1, ((nthI v16 a4 df1).2.2.1, ((nthI v16 a4 df1).2.2.2.1, ((nthI v16 a4 df1).2.2.2.2.1, (v17, (nthI v16 a4 df1).2.2.2.2.2.2)))))))
    (let v19 : Int := (IntKind.wrap .i64 (v17 + 1))
    (bif decide ((0 : Int) ≤ a4 ∧ a4 < (v18.length : Int)) then
    (let v20 : List ty6 := (v18.set (Int.toNat a4) ((nthI v18 a4 df1).1, ((nthI v18 a4 df1).2.1, ((nthI v18 a4 df1).2.2.1, ((nthI v18 a4 df1).2.2.2.1, ((nthI v18 a4 df1).2.2.2.2.1, ((nthI v18 a4 df1).2.2.2.2.2.1, (v19, (nthI v18 a4 df1).2.2.2.2.2.2.2))))))))
    (let v21 : Int := (IntKind.wrap .i64 (v19 + 1))
    (bif decide ((0 : Int) ≤ a4 ∧ a4 < (v20.length : Int)) then
    (let v22 : List ty6 := (v20.set (Int.toNat a4) ((nthI v20 a4 df1).1, ((nthI v20 a4 df1).2.1, ((nthI v20 a4 df1).2.2.1, ((nthI v20 a4 df1).2.2.2.1, ((nthI v20 a4 df1).2.2.2.2.1, ((nthI v20 a4 df1).2.2.2.2.2.1, ((nthI v20 a4 df1).2.2.2.2.2.2.1, (v21, (nthI v20 a4 df1).2.2.2.2.2.2.2.2)))))))))
    (bif decide ((0 : Int) ≤ a4 ∧ a4 < (v22.length : Int)) then
    (Option.bind (L.markIntS (IntKind.wrap .i64 (v21 + 1)) ((nthI v22 a4 df1).2.2.2.2.2.2.2.2.1)) fun r24 =>
    (let v25 : List ty6 := (v22.set (Int.toNat a4) ((nthI v22 a4 df1).1, ((nthI v22 a4 df1).2.1, ((nthI v22 a4 df1).2.2.1, ((nthI v22 a4 df1).2.2.2.1, ((nthI v22 a4 df1).2.2.2.2.1, ((nthI v22 a4 df1).2.2.2.2.2.1, ((nthI v22 a4 df1).2.2.2.2.2.2.1, ((nthI v22 a4 df1).2.2.2.2.2.2.2.1, (r24.2, (nthI v22 a4 df1).2.2.2.2.2.2.2.2.2))))))))))
    (bif decide (3 = 0) then
    none
    else
    (bif decide ((0 : Int) ≤ a4 ∧ a4 < (v25.length : Int)) then
    (let v27 : List ty6 := (v25.set (Int.toNat a4) ((nthI v25 a4 df1).1, ((nthI v25 a4 df1).2.1, ((nthI v25 a4 df1).2.2.1, ((nthI v25 a4 df1).2.2.2.1, ((nthI v25 a4 df1).2.2.2.2.1, ((nthI v25 a4 df1).2.2.2.2.2.1, ((nthI v25 a4 df1).2.2.2.2.2.2.1, ((nthI v25 a4 df1).2.2.2.2.2.2.2.1, ((nthI v25 a4 df1).2.2.2.2.2.2.2.2.1, ((Int.tmod r24.1 3) == 0)))))))))))
    (L.markItemS_l0 m e2_0 (IntKind.wrap .i64 (r24.1 + 1)) (IntKind.wrap .i64 (a4 + 1)) v27))
    else
    none))))
    else
    none))
    else
    none)))
    else
    none)))
    else
    none)))
    else
    none)))
    else
    none)))
    else
    none)))
    else
    none)))
    else
    none)
    else
    (e2_0 a3 a5))
noncomputable def L.markItemS (a1 : Int) (a2 : List ty6) : Option (Int × (List ty6)) :=
(L.markItemS_l0 fu (fun y30 y31 =>
(some (y30, y31))) a1 0 a2)
noncomputable def H55_2 : LoopH := ⟨⟨((.one (.sl 0)) :: hh :: (hu 3 (hh :: (hu 87 [])))), [], [(95, sh1, .own)]⟩, ([2, 3, 4] ++ rg 6 87), [], ([0, 2, 3] ++ rg 5 88), [], []⟩
noncomputable def k55_2 : List PK := (ki 2 [.row sh1])
noncomputable def W55_2 (m : Nat) (k : Kont (Int × (List ty6))) : Cur k55_2 (Option (Int × (List ty6))) := L.markItemS_l0 m (exF k (.exit 0) ⟨((.one (.unk)) :: hh :: (hu 91 [])), [], [(95, sh1, .own)]⟩ [.int .i64, .row sh1])
noncomputable def E55_2 (m : Nat) : List Prm → Kont (Int × (List ty6)) → Option (Int × (List ty6)) := eL k55_2 (W55_2 m)
theorem ev55_2 (m : Nat) (k : Kont (Int × (List ty6))) (a : Args k55_2) : evL Try.prog G55 loopNil c55_2 (turn Try.prog (0, 1) H55_2 (E55_2 m) k) (H55_2.sk.fl (encP k55_2 a)) = unc k55_2 (W55_2 (m + 1) k) a := by kernel_rfl
theorem ok55_2 (m : Nat) : LoopOk Try.prog (0, 1) c55_2 (enter Try.prog (0, 1) H55_2 (E55_2 m)) := loop_gen (Fl := W55_2) (G := G55) (L := loopNil) (envCons_good good41 envNil_good) (no_loops (c := c55_2) (by kernel_rfl)) (fun _ _ => by kernel_rfl) ev55_2 m
noncomputable def L55 : LEnv (Int × (List ty6)) := (loopCons 2 (enter Try.prog (0, 1) H55_2 (E55_2 fu)) loopNil)
theorem lq55 : loopsOf c55 = [c55_2] := by kernel_rfl
theorem fr55_2 : firstReg c55_2 = some 2 := by kernel_rfl
theorem le55_2 : L55 2 = enter Try.prog (0, 1) H55_2 (E55_2 fu) := by kernel_rfl
theorem lm55 : ∀ x ∈ [c55_2], ∀ id, firstReg x = some id → LoopOk Try.prog (0, 1) x (L55 id) := (loops_cons fr55_2 le55_2 (ok55_2 fu) loops_nil)
theorem lp55 : ∀ x ∈ loopsOf c55, ∀ id, firstReg x = some id → LoopOk Try.prog (0, 1) x (L55 id) := loops_eq lq55 lm55
noncomputable def sg55 : Sg := ⟨⟨[.one (.sl 0), hh], [], [(95, sh1, .own)]⟩, [.int .i64, .row sh1], ⟨[hh], [], [(95, sh1, .own)]⟩, [.int .i64, .row sh1]⟩
noncomputable def E55 : Fun2 := eOf sg55 L.markItemS
theorem ev55 (a : Args sg55.ks) : evS Try.prog G55 L55 (0, 1) [] Try.f55 c55 (kOf sg55) (sg55.sk.fl (encP sg55.ks a)) = unc sg55.ks L.markItemS a := by kernel_rfl
theorem good55 : Vm.Good Try.prog 55 E55 := good_gen (G := G55) (L := L55) (c := c55) (rn := []) (N := (0, 1)) (envCons_good good41 envNil_good) lp55 Try.func55 (by kernel_rfl) (by kernel_rfl) (fun _ => by kernel_rfl) ev55
noncomputable def G56 : Env := envNil
noncomputable def c56 : Code := bodyOf Try.f56
noncomputable def c56_2 : Code := (loopsOf c56).getD 0 .skip
noncomputable def L.markRecS_l0 : Nat → (Int → (List (Int × Int × Int)) → Option (Int × (List (Int × Int × Int)))) → Int → Int → (List (Int × Int × Int)) → Option (Int × (List (Int × Int × Int)))
  | 0, _, _, _, _ => none
  | m + 1, e2_0, a3, a4, a5 =>
    (bif (decide (a4 < (a5.length : Int))) then
    (bif decide ((0 : Int) ≤ a4 ∧ a4 < (a5.length : Int)) then
    (let v8 : List (Int × Int × Int) := (a5.set (Int.toNat a4) (a3, (nthI a5 a4 df2).2))
    (let v9 : Int := (IntKind.wrap .i64 (a3 + 1))
    (bif decide ((0 : Int) ≤ a4 ∧ a4 < (v8.length : Int)) then
    (let v10 : List (Int × Int × Int) := (v8.set (Int.toNat a4) ((nthI v8 a4 df2).1, (v9, (nthI v8 a4 df2).2.2)))
    (let v11 : Int := (IntKind.wrap .i64 (v9 + 1))
    (bif decide ((0 : Int) ≤ a4 ∧ a4 < (v10.length : Int)) then
    (let v12 : List (Int × Int × Int) := (v10.set (Int.toNat a4) ((nthI v10 a4 df2).1, ((nthI v10 a4 df2).2.1, v11)))
    (L.markRecS_l0 m e2_0 (IntKind.wrap .i64 (v11 + 1)) (IntKind.wrap .i64 (a4 + 1)) v12))
    else
    none)))
    else
    none)))
    else
    none)
    else
    (e2_0 a3 a5))
noncomputable def L.markRecS (a1 : Int) (a2 : List (Int × Int × Int)) : Option (Int × (List (Int × Int × Int))) :=
(L.markRecS_l0 fu (fun y15 y16 =>
(some (y15, y16))) a1 0 a2)
noncomputable def H56_2 : LoopH := ⟨⟨((.one (.sl 0)) :: hh :: (hu 3 (hh :: (hu 28 [])))), [], [(129, sh2, .own)]⟩, ([2, 3, 4] ++ rg 6 28), [], ([0, 2, 3] ++ rg 5 29), [], []⟩
noncomputable def k56_2 : List PK := (ki 2 [.row sh2])
noncomputable def W56_2 (m : Nat) (k : Kont (Int × (List (Int × Int × Int)))) : Cur k56_2 (Option (Int × (List (Int × Int × Int)))) := L.markRecS_l0 m (exF k (.exit 0) ⟨((.one (.unk)) :: hh :: (hu 32 [])), [], [(129, sh2, .own)]⟩ [.int .i64, .row sh2])
noncomputable def E56_2 (m : Nat) : List Prm → Kont (Int × (List (Int × Int × Int))) → Option (Int × (List (Int × Int × Int))) := eL k56_2 (W56_2 m)
theorem ev56_2 (m : Nat) (k : Kont (Int × (List (Int × Int × Int)))) (a : Args k56_2) : evL Try.prog G56 loopNil c56_2 (turn Try.prog (0, 1) H56_2 (E56_2 m) k) (H56_2.sk.fl (encP k56_2 a)) = unc k56_2 (W56_2 (m + 1) k) a := by kernel_rfl
theorem ok56_2 (m : Nat) : LoopOk Try.prog (0, 1) c56_2 (enter Try.prog (0, 1) H56_2 (E56_2 m)) := loop_gen (Fl := W56_2) (G := G56) (L := loopNil) envNil_good (no_loops (c := c56_2) (by kernel_rfl)) (fun _ _ => by kernel_rfl) ev56_2 m
noncomputable def L56 : LEnv (Int × (List (Int × Int × Int))) := (loopCons 2 (enter Try.prog (0, 1) H56_2 (E56_2 fu)) loopNil)
theorem lq56 : loopsOf c56 = [c56_2] := by kernel_rfl
theorem fr56_2 : firstReg c56_2 = some 2 := by kernel_rfl
theorem le56_2 : L56 2 = enter Try.prog (0, 1) H56_2 (E56_2 fu) := by kernel_rfl
theorem lm56 : ∀ x ∈ [c56_2], ∀ id, firstReg x = some id → LoopOk Try.prog (0, 1) x (L56 id) := (loops_cons fr56_2 le56_2 (ok56_2 fu) loops_nil)
theorem lp56 : ∀ x ∈ loopsOf c56, ∀ id, firstReg x = some id → LoopOk Try.prog (0, 1) x (L56 id) := loops_eq lq56 lm56
noncomputable def sg56 : Sg := ⟨⟨[.one (.sl 0), hh], [], [(129, sh2, .own)]⟩, [.int .i64, .row sh2], ⟨[hh], [], [(129, sh2, .own)]⟩, [.int .i64, .row sh2]⟩
noncomputable def E56 : Fun2 := eOf sg56 L.markRecS
theorem ev56 (a : Args sg56.ks) : evS Try.prog G56 L56 (0, 1) [] Try.f56 c56 (kOf sg56) (sg56.sk.fl (encP sg56.ks a)) = unc sg56.ks L.markRecS a := by kernel_rfl
theorem good56 : Vm.Good Try.prog 56 E56 := good_gen (G := G56) (L := L56) (c := c56) (rn := []) (N := (0, 1)) envNil_good lp56 Try.func56 (by kernel_rfl) (by kernel_rfl) (fun _ => by kernel_rfl) ev56
noncomputable def G18 : Env := (envCons 55 [0] E55 (envCons 56 [0] E56 envNil))
noncomputable def c18 : Code := bodyOf Try.f18
noncomputable def L.markBox (a1 a2 a3 a4 a5 : Int) (a6 : List ty6) (a7 : List (Int × Int × Int)) : Option (Int × (List ty6) × (List (Int × Int × Int))) :=
(Option.bind (L.markItemS a5 a6) fun r8 =>
(Option.bind (L.markRecS r8.1 a7) fun r9 =>
(some (r9.1, r8.2, r9.2))))
noncomputable def sg18 : Sg := ⟨⟨[.agg (ho 4 [.sl 0, .sl 1]), hh], [], [(95, sh1, .own), (129, sh2, .own)]⟩, (ki 5 [.row sh1, .row sh2]), ⟨[hh], [], [(95, sh1, .own), (129, sh2, .own)]⟩, [.int .i64, .row sh1, .row sh2]⟩
noncomputable def E18 : Fun2 := eOf sg18 L.markBox
theorem ev18 (a : Args sg18.ks) : evS Try.prog G18 loopNil (0, 2) [] Try.f18 c18 (kOf sg18) (sg18.sk.fl (encP sg18.ks a)) = unc sg18.ks L.markBox a := by kernel_rfl
theorem good18 : Vm.Good Try.prog 18 E18 := good_gen (G := G18) (L := loopNil) (c := c18) (rn := []) (N := (0, 2)) (envCons_good good55 (envCons_good good56 envNil_good)) (no_loops (c := c18) (by kernel_rfl)) Try.func18 (by kernel_rfl) (by kernel_rfl) (fun _ => by kernel_rfl) ev18
noncomputable def G42 : Env := envNil
noncomputable def c42 : Code := bodyOf Try.f42
noncomputable def c42_2 : Code := (loopsOf c42).getD 0 .skip
noncomputable def L.heldIntS_l0 : Nat → (Int → Int → Option Int) → (Int → Option Int) → Int → Int → List Int → Option Int
  | 0, _, _, _, _, _ => none
  | m + 1, e2_0, e2_1, a3, a4, a5 =>
    (bif (decide (a4 < (a5.length : Int))) then
    (bif decide ((0 : Int) ≤ a4 ∧ a4 < (a5.length : Int)) then
    (bif ((nthI a5 a4 (0 : Int)) != a3) then
    (e2_0 a3 (-1))
    else
    (L.heldIntS_l0 m e2_0 e2_1 (IntKind.wrap .i64 (a3 + 1)) (IntKind.wrap .i64 (a4 + 1)) a5))
    else
    none)
    else
    (e2_1 a3))
noncomputable def L.heldIntS (a1 : Int) (a2 : List Int) : Option Int :=
(L.heldIntS_l0 fu (fun y11 y12 =>
(some y12)) (fun y13 =>
(some y13)) a1 0 a2)
noncomputable def H42_2 : LoopH := ⟨⟨((.one (.sl 0)) :: hh :: (hu 3 (hh :: (hu 15 [])))), [], [(3, (.int .i64), .ro)]⟩, ([2, 3, 4] ++ rg 6 15), [], ([0, 2, 3] ++ rg 5 16), [], []⟩
noncomputable def k42_2 : List PK := (ki 2 [.row (.int .i64)])
noncomputable def W42_2 (m : Nat) (k : Kont Int) : Cur k42_2 (Option Int) := L.heldIntS_l0 m (exF k .ret ⟨((.one (.unk)) :: hh :: (hu 2 (hh :: (hu 16 [])))), [], []⟩ (ki 2 [])) (exF k (.exit 0) ⟨((.one (.unk)) :: hh :: (hu 19 [])), [], []⟩ [.int .i64])
noncomputable def E42_2 (m : Nat) : List Prm → Kont Int → Option Int := eL k42_2 (W42_2 m)
theorem ev42_2 (m : Nat) (k : Kont Int) (a : Args k42_2) : evL Try.prog G42 loopNil c42_2 (turn Try.prog (0, 0) H42_2 (E42_2 m) k) (H42_2.sk.fl (encP k42_2 a)) = unc k42_2 (W42_2 (m + 1) k) a := by kernel_rfl
theorem ok42_2 (m : Nat) : LoopOk Try.prog (0, 0) c42_2 (enter Try.prog (0, 0) H42_2 (E42_2 m)) := loop_gen (Fl := W42_2) (G := G42) (L := loopNil) envNil_good (no_loops (c := c42_2) (by kernel_rfl)) (fun _ _ => by kernel_rfl) ev42_2 m
noncomputable def L42 : LEnv Int := (loopCons 2 (enter Try.prog (0, 0) H42_2 (E42_2 fu)) loopNil)
theorem lq42 : loopsOf c42 = [c42_2] := by kernel_rfl
theorem fr42_2 : firstReg c42_2 = some 2 := by kernel_rfl
theorem le42_2 : L42 2 = enter Try.prog (0, 0) H42_2 (E42_2 fu) := by kernel_rfl
theorem lm42 : ∀ x ∈ [c42_2], ∀ id, firstReg x = some id → LoopOk Try.prog (0, 0) x (L42 id) := (loops_cons fr42_2 le42_2 (ok42_2 fu) loops_nil)
theorem lp42 : ∀ x ∈ loopsOf c42, ∀ id, firstReg x = some id → LoopOk Try.prog (0, 0) x (L42 id) := loops_eq lq42 lm42
noncomputable def sg42 : Sg := ⟨⟨[.one (.sl 0), hh], [], [(3, (.int .i64), .ro)]⟩, [.int .i64, .row (.int .i64)], ⟨[hh], [], []⟩, [.int .i64]⟩
noncomputable def E42 : Fun2 := eOf sg42 L.heldIntS
theorem ev42 (a : Args sg42.ks) : evS Try.prog G42 L42 (0, 0) [] Try.f42 c42 (kOf sg42) (sg42.sk.fl (encP sg42.ks a)) = unc sg42.ks L.heldIntS a := by kernel_rfl
theorem good42 : Vm.Good Try.prog 42 E42 := good_gen (G := G42) (L := L42) (c := c42) (rn := []) (N := (0, 0)) envNil_good lp42 Try.func42 (by kernel_rfl) (by kernel_rfl) (fun _ => by kernel_rfl) ev42
noncomputable def G57 : Env := (envCons 42 [] E42 envNil)
noncomputable def c57 : Code := bodyOf Try.f57
noncomputable def c57_2 : Code := (loopsOf c57).getD 0 .skip
noncomputable def L.heldItemS_l0 : Nat → (Int → Int → Option Int) → (Int → Option Int) → Int → Int → (List ty6) → Option Int
  | 0, _, _, _, _, _ => none
  | m + 1, e2_0, e2_1, a3, a4, a5 =>
    (bif (decide (a4 < (a5.length : Int))) then
    (bif decide ((0 : Int) ≤ a4 ∧ a4 < (a5.length : Int)) then
    (let v8 : Bool := ((nthI a5 a4 df1).1 != a3)
    (bif v8 then
    (e2_0 a3 (-1))
    else
    (let v9 : Int := (IntKind.wrap .i64 (a3 + 1))
    (bif decide ((0 : Int) ≤ a4 ∧ a4 < (a5.length : Int)) then
    (let v10 : Bool := ((nthI a5 a4 df1).2.1 != v9)
    (bif v10 then
    (e2_0 v9 (-1))
    else
    (let v11 : Int := (IntKind.wrap .i64 (v9 + 1))
    (bif decide ((0 : Int) ≤ a4 ∧ a4 < (a5.length : Int)) then
    (let v12 : Bool := ((nthI a5 a4 df1).2.2.1 != v11)
    (bif v12 then
    (e2_0 v11 (-1))
    else
    (let v13 : Int := (IntKind.wrap .i64 (v11 + 1))
    (bif decide ((0 : Int) ≤ a4 ∧ a4 < (a5.length : Int)) then
    (let v14 : Bool := ((nthI a5 a4 df1).2.2.2.1 != v13)
    (bif v14 then
    (e2_0 v13 (-1))
    else
    (let v15 : Int := (IntKind.wrap .i64 (v13 + 1))
    (bif decide ((0 : Int) ≤ a4 ∧ a4 < (a5.length : Int)) then
    (let v16 : Bool := ((nthI a5 a4 df1).2.2.2.2.1 != v15)
    (bif v16 then
    (e2_0 v15 (-1))
    else
    (let v17 : Int := (IntKind.wrap .i64 (v15 + 1))
    (bif decide ((0 : Int) ≤ a4 ∧ a4 < (a5.length : Int)) then
    (let v18 : Bool := ((nthI a5 a4 df1).2.2.2.2.2.1 != v17)
    (bif v18 then
    (e2_0 v17 (-1))
    else
    (let v19 : Int := (IntKind.wrap .i64 (v17 + 1))
    (bif decide ((0 : Int) ≤ a4 ∧ a4 < (a5.length : Int)) then
    (let v20 : Bool := ((nthI a5 a4 df1).2.2.2.2.2.2.1 != v19)
    (bif v20 then
    (e2_0 v19 (-1))
    else
    (let v21 : Int := (IntKind.wrap .i64 (v19 + 1))
    (bif decide ((0 : Int) ≤ a4 ∧ a4 < (a5.length : Int)) then
    (let v22 : Bool := ((nthI a5 a4 df1).2.2.2.2.2.2.2.1 != v21)
    (bif v22 then
    (e2_0 v21 (-1))
    else
    (bif decide ((0 : Int) ≤ a4 ∧ a4 < (a5.length : Int)) then
    (Option.bind (L.heldIntS (IntKind.wrap .i64 (v21 + 1)) ((nthI a5 a4 df1).2.2.2.2.2.2.2.2.1)) fun r24 =>
    (bif (decide (r24 < 0)) then
    (e2_0 r24 (-1))
    else
    (bif decide ((0 : Int) ≤ a4 ∧ a4 < (a5.length : Int)) then
    (bif decide (3 = 0) then
    none
    else
    (let v27 : Bool := (!((nthI a5 a4 df1).2.2.2.2.2.2.2.2.2 == ((Int.tmod r24 3) == 0)))
    (bif v27 then
    (e2_0 r24 (-1))
    else
    (L.heldItemS_l0 m e2_0 e2_1 (IntKind.wrap .i64 (r24 + 1)) (IntKind.wrap .i64 (a4 + 1)) a5))))
    else
    none)))
    else
    none)))
    else
    none))))
    else
    none))))
    else
    none))))
    else
    none))))
    else
    none))))
    else
    none))))
    else
    none))))
    else
    none)
    else
    (e2_1 a3))
noncomputable def L.heldItemS (a1 : Int) (a2 : List ty6) : Option Int :=
(L.heldItemS_l0 fu (fun y30 y31 =>
(some y31)) (fun y32 =>
(some y32)) a1 0 a2)
noncomputable def H57_2 : LoopH := ⟨⟨((.one (.sl 0)) :: hh :: (hu 3 (hh :: (hu 107 [])))), [], [(95, sh1, .ro)]⟩, ([2, 3, 4] ++ rg 6 107), [], ([0, 2, 3] ++ rg 5 108), [], []⟩
noncomputable def k57_2 : List PK := (ki 2 [.row sh1])
noncomputable def W57_2 (m : Nat) (k : Kont Int) : Cur k57_2 (Option Int) := L.heldItemS_l0 m (exF k .ret ⟨((.one (.unk)) :: hh :: (hu 2 (hh :: (hu 108 [])))), [], []⟩ (ki 2 [])) (exF k (.exit 0) ⟨((.one (.unk)) :: hh :: (hu 111 [])), [], []⟩ [.int .i64])
noncomputable def E57_2 (m : Nat) : List Prm → Kont Int → Option Int := eL k57_2 (W57_2 m)
theorem ev57_2 (m : Nat) (k : Kont Int) (a : Args k57_2) : evL Try.prog G57 loopNil c57_2 (turn Try.prog (0, 0) H57_2 (E57_2 m) k) (H57_2.sk.fl (encP k57_2 a)) = unc k57_2 (W57_2 (m + 1) k) a := by kernel_rfl
theorem ok57_2 (m : Nat) : LoopOk Try.prog (0, 0) c57_2 (enter Try.prog (0, 0) H57_2 (E57_2 m)) := loop_gen (Fl := W57_2) (G := G57) (L := loopNil) (envCons_good good42 envNil_good) (no_loops (c := c57_2) (by kernel_rfl)) (fun _ _ => by kernel_rfl) ev57_2 m
noncomputable def L57 : LEnv Int := (loopCons 2 (enter Try.prog (0, 0) H57_2 (E57_2 fu)) loopNil)
theorem lq57 : loopsOf c57 = [c57_2] := by kernel_rfl
theorem fr57_2 : firstReg c57_2 = some 2 := by kernel_rfl
theorem le57_2 : L57 2 = enter Try.prog (0, 0) H57_2 (E57_2 fu) := by kernel_rfl
theorem lm57 : ∀ x ∈ [c57_2], ∀ id, firstReg x = some id → LoopOk Try.prog (0, 0) x (L57 id) := (loops_cons fr57_2 le57_2 (ok57_2 fu) loops_nil)
theorem lp57 : ∀ x ∈ loopsOf c57, ∀ id, firstReg x = some id → LoopOk Try.prog (0, 0) x (L57 id) := loops_eq lq57 lm57
noncomputable def sg57 : Sg := ⟨⟨[.one (.sl 0), hh], [], [(95, sh1, .ro)]⟩, [.int .i64, .row sh1], ⟨[hh], [], []⟩, [.int .i64]⟩
noncomputable def E57 : Fun2 := eOf sg57 L.heldItemS
theorem ev57 (a : Args sg57.ks) : evS Try.prog G57 L57 (0, 0) [] Try.f57 c57 (kOf sg57) (sg57.sk.fl (encP sg57.ks a)) = unc sg57.ks L.heldItemS a := by kernel_rfl
theorem good57 : Vm.Good Try.prog 57 E57 := good_gen (G := G57) (L := L57) (c := c57) (rn := []) (N := (0, 0)) (envCons_good good42 envNil_good) lp57 Try.func57 (by kernel_rfl) (by kernel_rfl) (fun _ => by kernel_rfl) ev57
noncomputable def G58 : Env := envNil
noncomputable def c58 : Code := bodyOf Try.f58
noncomputable def c58_2 : Code := (loopsOf c58).getD 0 .skip
noncomputable def L.heldRecS_l0 : Nat → (Int → Int → Option Int) → (Int → Option Int) → Int → Int → (List (Int × Int × Int)) → Option Int
  | 0, _, _, _, _, _ => none
  | m + 1, e2_0, e2_1, a3, a4, a5 =>
    (bif (decide (a4 < (a5.length : Int))) then
    (bif decide ((0 : Int) ≤ a4 ∧ a4 < (a5.length : Int)) then
    (bif ((nthI a5 a4 df2).1 != a3) then
    (e2_0 a3 (-1))
    else
    (let v9 : Int := (IntKind.wrap .i64 (a3 + 1))
    (bif decide ((0 : Int) ≤ a4 ∧ a4 < (a5.length : Int)) then
    (bif ((nthI a5 a4 df2).2.1 != v9) then
    (e2_0 v9 (-1))
    else
    (let v11 : Int := (IntKind.wrap .i64 (v9 + 1))
    (bif decide ((0 : Int) ≤ a4 ∧ a4 < (a5.length : Int)) then
    (let v12 : Bool := ((nthI a5 a4 df2).2.2 != v11)
    (bif v12 then
    (e2_0 v11 (-1))
    else
    (L.heldRecS_l0 m e2_0 e2_1 (IntKind.wrap .i64 (v11 + 1)) (IntKind.wrap .i64 (a4 + 1)) a5)))
    else
    none)))
    else
    none)))
    else
    none)
    else
    (e2_1 a3))
noncomputable def L.heldRecS (a1 : Int) (a2 : List (Int × Int × Int)) : Option Int :=
(L.heldRecS_l0 fu (fun y15 y16 =>
(some y16)) (fun y17 =>
(some y17)) a1 0 a2)
noncomputable def H58_2 : LoopH := ⟨⟨((.one (.sl 0)) :: hh :: (hu 3 (hh :: (hu 34 [])))), [], [(129, sh2, .ro)]⟩, ([2, 3, 4] ++ rg 6 34), [], ([0, 2, 3] ++ rg 5 35), [], []⟩
noncomputable def k58_2 : List PK := (ki 2 [.row sh2])
noncomputable def W58_2 (m : Nat) (k : Kont Int) : Cur k58_2 (Option Int) := L.heldRecS_l0 m (exF k .ret ⟨((.one (.unk)) :: hh :: (hu 2 (hh :: (hu 35 [])))), [], []⟩ (ki 2 [])) (exF k (.exit 0) ⟨((.one (.unk)) :: hh :: (hu 38 [])), [], []⟩ [.int .i64])
noncomputable def E58_2 (m : Nat) : List Prm → Kont Int → Option Int := eL k58_2 (W58_2 m)
theorem ev58_2 (m : Nat) (k : Kont Int) (a : Args k58_2) : evL Try.prog G58 loopNil c58_2 (turn Try.prog (0, 0) H58_2 (E58_2 m) k) (H58_2.sk.fl (encP k58_2 a)) = unc k58_2 (W58_2 (m + 1) k) a := by kernel_rfl
theorem ok58_2 (m : Nat) : LoopOk Try.prog (0, 0) c58_2 (enter Try.prog (0, 0) H58_2 (E58_2 m)) := loop_gen (Fl := W58_2) (G := G58) (L := loopNil) envNil_good (no_loops (c := c58_2) (by kernel_rfl)) (fun _ _ => by kernel_rfl) ev58_2 m
noncomputable def L58 : LEnv Int := (loopCons 2 (enter Try.prog (0, 0) H58_2 (E58_2 fu)) loopNil)
theorem lq58 : loopsOf c58 = [c58_2] := by kernel_rfl
theorem fr58_2 : firstReg c58_2 = some 2 := by kernel_rfl
theorem le58_2 : L58 2 = enter Try.prog (0, 0) H58_2 (E58_2 fu) := by kernel_rfl
theorem lm58 : ∀ x ∈ [c58_2], ∀ id, firstReg x = some id → LoopOk Try.prog (0, 0) x (L58 id) := (loops_cons fr58_2 le58_2 (ok58_2 fu) loops_nil)
theorem lp58 : ∀ x ∈ loopsOf c58, ∀ id, firstReg x = some id → LoopOk Try.prog (0, 0) x (L58 id) := loops_eq lq58 lm58
noncomputable def sg58 : Sg := ⟨⟨[.one (.sl 0), hh], [], [(129, sh2, .ro)]⟩, [.int .i64, .row sh2], ⟨[hh], [], []⟩, [.int .i64]⟩
noncomputable def E58 : Fun2 := eOf sg58 L.heldRecS
theorem ev58 (a : Args sg58.ks) : evS Try.prog G58 L58 (0, 0) [] Try.f58 c58 (kOf sg58) (sg58.sk.fl (encP sg58.ks a)) = unc sg58.ks L.heldRecS a := by kernel_rfl
theorem good58 : Vm.Good Try.prog 58 E58 := good_gen (G := G58) (L := L58) (c := c58) (rn := []) (N := (0, 0)) envNil_good lp58 Try.func58 (by kernel_rfl) (by kernel_rfl) (fun _ => by kernel_rfl) ev58
noncomputable def G19 : Env := (envCons 57 [] E57 (envCons 58 [] E58 envNil))
noncomputable def c19 : Code := bodyOf Try.f19
noncomputable def L.heldBox (a1 a2 a3 a4 a5 : Int) (a6 : List ty6) (a7 : List (Int × Int × Int)) : Option Int :=
(Option.bind (L.heldItemS a5 a6) fun r8 =>
(bif (decide (r8 < 0)) then
(some (-1))
else
(Option.bind (L.heldRecS r8 a7) fun r10 =>
(bif (decide (r10 < 0)) then
(some (-1))
else
(some r10)))))
noncomputable def sg19 : Sg := ⟨⟨[.agg (ho 4 [.sl 0, .sl 1]), hh], [], [(95, sh1, .ro), (129, sh2, .ro)]⟩, (ki 5 [.row sh1, .row sh2]), ⟨[hh], [], []⟩, [.int .i64]⟩
noncomputable def E19 : Fun2 := eOf sg19 L.heldBox
theorem ev19 (a : Args sg19.ks) : evS Try.prog G19 loopNil (0, 0) [] Try.f19 c19 (kOf sg19) (sg19.sk.fl (encP sg19.ks a)) = unc sg19.ks L.heldBox a := by kernel_rfl
theorem good19 : Vm.Good Try.prog 19 E19 := good_gen (G := G19) (L := loopNil) (c := c19) (rn := []) (N := (0, 0)) (envCons_good good57 (envCons_good good58 envNil_good)) (no_loops (c := c19) (by kernel_rfl)) Try.func19 (by kernel_rfl) (by kernel_rfl) (fun _ => by kernel_rfl) ev19
noncomputable def G4 : Env := (envCons 13 [] E13 (envCons 15 [] E15 (envCons 14 [] E14 (envCons 16 [] E16 (envCons 17 [] E17 (envCons 18 [4, 5] E18 (envCons 19 [] E19 envNil)))))))
noncomputable def c4 : Code := bodyOf Try.f4
noncomputable def L.FnExactBoxAck (a1 a2 a3 a4 a5 : Int) (a6 : List ty6) (a7 : List (Int × Int × Int)) : Option Bool :=
(Option.bind (L.szBox a1 a2 a3 a4 1048576 a6 a7) fun r8 =>
(bif (decide (r8 < 0)) then
(some true)
else
(Option.bind (L.toBox a1 a2 a3 a4 a6 a7) fun r10 =>
(Option.bind (S.BoxAck r10.1 r10.2.1 r10.2.2.1 r10.2.2.2.1 a5 r10.2.2.2.2.1 r10.2.2.2.2.2) fun r11 =>
(Option.bind (L.toBox a1 a2 a3 a4 a6 a7) fun r12 =>
(Option.bind (I.BoxAck r12.1 r12.2.1 r12.2.2.1 r12.2.2.2.1 a5 r12.2.2.2.2.1 r12.2.2.2.2.2) fun r13 =>
(Option.bind (L.eqBox r13.1 r13.2.1 r13.2.2.1 r13.2.2.2.1 r11.1 r11.2.1 r11.2.2.1 r11.2.2.2.1 r13.2.2.2.2.2.1 r13.2.2.2.2.2.2 r11.2.2.2.2.2.1 r11.2.2.2.2.2.2) fun r14 =>
(bif (!r14) then
(some false)
else
(bif (!(r13.2.2.2.2.1 == r11.2.2.2.2.1)) then
(some false)
else
(Option.bind (L.toBox a1 a2 a3 a4 a6 a7) fun r16 =>
(Option.bind (L.eqBox r12.1 r12.2.1 r12.2.2.1 r12.2.2.2.1 r16.1 r16.2.1 r16.2.2.1 r16.2.2.2.1 r12.2.2.2.2.1 r12.2.2.2.2.2 r16.2.2.2.2.1 r16.2.2.2.2.2) fun r17 =>
(bif (!r17) then
(some false)
else
(Option.bind (L.markBox r12.1 r12.2.1 r12.2.2.1 r12.2.2.2.1 1 r12.2.2.2.2.1 r12.2.2.2.2.2) fun r18 =>
(bif (decide (r18.1 < 0)) then
(some false)
else
(Option.bind (L.eqBox r13.1 r13.2.1 r13.2.2.1 r13.2.2.2.1 r11.1 r11.2.1 r11.2.2.1 r11.2.2.2.1 r13.2.2.2.2.2.1 r13.2.2.2.2.2.2 r11.2.2.2.2.2.1 r11.2.2.2.2.2.2) fun r20 =>
(bif (!r20) then
(some false)
else
(bif (!(r13.2.2.2.2.1 == r11.2.2.2.2.1)) then
(some false)
else
(Option.bind (L.markBox r13.1 r13.2.1 r13.2.2.1 r13.2.2.2.1 1 r13.2.2.2.2.2.1 r13.2.2.2.2.2.2) fun r22 =>
(Option.bind (L.heldBox r13.1 r13.2.1 r13.2.2.1 r13.2.2.2.1 1 r22.2.1 r22.2.2) fun r23 =>
(bif (decide (r23 < 0)) then
(some false)
else
(bif (r23 != r22.1) then
(some false)
else
(Option.bind (L.toBox a1 a2 a3 a4 a6 a7) fun r25 =>
(Option.bind (I.BoxAck r25.1 r25.2.1 r25.2.2.1 r25.2.2.2.1 a5 r25.2.2.2.2.1 r25.2.2.2.2.2) fun r26 =>
(Option.bind (L.eqBox r26.1 r26.2.1 r26.2.2.1 r26.2.2.2.1 r11.1 r11.2.1 r11.2.2.1 r11.2.2.2.1 r26.2.2.2.2.2.1 r26.2.2.2.2.2.2 r11.2.2.2.2.2.1 r11.2.2.2.2.2.2) fun r27 =>
(bif (!r27) then
(some false)
else
(bif (!(r26.2.2.2.2.1 == r11.2.2.2.2.1)) then
(some false)
else
(Option.bind (L.heldBox r13.1 r13.2.1 r13.2.2.1 r13.2.2.2.1 1 r22.2.1 r22.2.2) fun r29 =>
(bif (decide (r29 < 0)) then
(some false)
else
(bif (r29 != r22.1) then
(some false)
else
(some true))))))))))))))))))))))))))))))
noncomputable def sg4 : Sg := ⟨⟨[.agg (ho 4 [.sl 0, .sl 1]), hh], [], [(126, sh1, .ro), (132, sh2, .ro)]⟩, (ki 5 [.row sh1, .row sh2]), ⟨[hh], [], []⟩, [.bool]⟩
noncomputable def E4 : Fun2 := eOf sg4 L.FnExactBoxAck
theorem ev4 (a : Args sg4.ks) : evS Try.prog G4 loopNil (0, 0) [] Try.f4 c4 (kOf sg4) (sg4.sk.fl (encP sg4.ks a)) = unc sg4.ks L.FnExactBoxAck a := by kernel_rfl
theorem good4 : Vm.Good Try.prog 4 E4 := good_gen (G := G4) (L := loopNil) (c := c4) (rn := []) (N := (0, 0)) (envCons_good good13 (envCons_good good15 (envCons_good good14 (envCons_good good16 (envCons_good good17 (envCons_good good18 (envCons_good good19 envNil_good))))))) (no_loops (c := c4) (by kernel_rfl)) Try.func4 (by kernel_rfl) (by kernel_rfl) (fun _ => by kernel_rfl) ev4
end Go.Proofs.Ytidojhgkpgomcaa.Run
