import Derived.Test.YtidojhgkpgomcaaGreatGnEngNewA
namespace Go.Proofs.YtidojhgkpgomcaaGreat.Run
open Go Go.RowKit Go.Proofs.YtidojhgkpgomcaaGreatW.PrintWords Go.Proofs.YtidojhgkpgomcaaGreat.Vm
set_option linter.unusedVariables false
set_option maxRecDepth 100000
set_option maxHeartbeats 4000000

noncomputable def G67 : Env := (envCons 150 [] E150 envNil)
noncomputable def c67 : Code := bodyOf Tryz.f67
noncomputable def c67_4 : Code := (loopsOf c67).getD 0 .skip
noncomputable def L.eqPunctS_l0 : Nat → (Bool → Option Bool) → (Option Bool) → Int → (List (Int × Int × Int × Int)) → (List (Int × Int × Int × Int)) → Option Bool
  | 0, _, _, _, _, _ => none
  | m + 1, e4_0, e4_1, a5, a6, a7 =>
    (bif (decide (a5 < (a6.length : Int))) then
    (bif decide ((0 : Int) ≤ a5 ∧ a5 < (a6.length : Int)) then
    (bif decide ((0 : Int) ≤ a5 ∧ a5 < (a7.length : Int)) then
    (Option.bind (L.eqPunct ((nthI a6 a5 df4).1) ((nthI a6 a5 df4).2.1) ((nthI a6 a5 df4).2.2.1) ((nthI a6 a5 df4).2.2.2) ((nthI a7 a5 df4).1) ((nthI a7 a5 df4).2.1) ((nthI a7 a5 df4).2.2.1) ((nthI a7 a5 df4).2.2.2)) fun r10 =>
    (bif (!r10) then
    (e4_0 false)
    else
    (L.eqPunctS_l0 m e4_0 e4_1 (IntKind.wrap .i64 (a5 + 1)) a6 a7)))
    else
    none)
    else
    none)
    else
    e4_1)
noncomputable def L.eqPunctS (a1 a2 : List (Int × Int × Int × Int)) : Option Bool :=
(bif ((a1.length : Int) != (a2.length : Int)) then
(some false)
else
(L.eqPunctS_l0 fu (fun y12 =>
(some y12)) (some true) 0 a1 a2))
noncomputable def H67_4 : LoopH := ⟨⟨((.one (.sl 0)) :: (.one (.sl 1)) :: (hu 3 (hh :: (hu 21 [])))), [], [(156, sh9, .ro), (156, sh9, .ro)]⟩, ([2, 3, 4] ++ rg 6 21), [], (rg 0 4 ++ rg 5 22), [], []⟩
noncomputable def k67_4 : List PK := [.int .i64, .row sh9, .row sh9]
noncomputable def W67_4 (m : Nat) (k : Kont Bool) : Cur k67_4 (Option Bool) := L.eqPunctS_l0 m (exF k .ret ⟨(hu 4 (hh :: (hu 22 []))), [], []⟩ [.bool]) (exF k (.exit 0) ⟨(hu 27 []), [], []⟩ [])
noncomputable def E67_4 (m : Nat) : List Prm → Kont Bool → Option Bool := eL k67_4 (W67_4 m)
theorem ev67_4 (m : Nat) (k : Kont Bool) (a : Args k67_4) : evL Tryz.prog G67 loopNil c67_4 (turn Tryz.prog (0, 0) H67_4 (E67_4 m) k) (H67_4.sk.fl (encP k67_4 a)) = unc k67_4 (W67_4 (m + 1) k) a := by kernel_rfl
theorem ok67_4 (m : Nat) : LoopOk Tryz.prog (0, 0) c67_4 (enter Tryz.prog (0, 0) H67_4 (E67_4 m)) := loop_gen (Fl := W67_4) (G := G67) (L := loopNil) (envCons_good good150 envNil_good) (no_loops (c := c67_4) (by kernel_rfl)) (fun _ _ => by kernel_rfl) ev67_4 m
noncomputable def L67 : LEnv Bool := (loopCons 4 (enter Tryz.prog (0, 0) H67_4 (E67_4 fu)) loopNil)
theorem lq67 : loopsOf c67 = [c67_4] := by kernel_rfl
theorem fr67_4 : firstReg c67_4 = some 4 := by kernel_rfl
theorem le67_4 : L67 4 = enter Tryz.prog (0, 0) H67_4 (E67_4 fu) := by kernel_rfl
theorem lm67 : ∀ x ∈ [c67_4], ∀ id, firstReg x = some id → LoopOk Tryz.prog (0, 0) x (L67 id) := (loops_cons fr67_4 le67_4 (ok67_4 fu) loops_nil)
theorem lp67 : ∀ x ∈ loopsOf c67, ∀ id, firstReg x = some id → LoopOk Tryz.prog (0, 0) x (L67 id) := loops_eq lq67 lm67
noncomputable def sg67 : Sg := ⟨⟨[.one (.sl 0), .one (.sl 1)], [], [(156, sh9, .ro), (156, sh9, .ro)]⟩, [.row sh9, .row sh9], ⟨[hh], [], []⟩, [.bool]⟩
noncomputable def E67 : Fun2 := eOf sg67 L.eqPunctS
theorem ev67 (a : Args sg67.ks) : evS Tryz.prog G67 L67 (0, 0) [] Tryz.f67 c67 (kOf sg67) (sg67.sk.fl (encP sg67.ks a)) = unc sg67.ks L.eqPunctS a := by kernel_rfl
theorem good67 : Vm.Good Tryz.prog 67 E67 := good_gen (G := G67) (L := L67) (c := c67) (rn := []) (N := (0, 0)) (envCons_good good150 envNil_good) lp67 Tryz.func67 (by kernel_rfl) (by kernel_rfl) (fun _ => by kernel_rfl) ev67
noncomputable def G231 : Env := envNil
noncomputable def c231 : Code := bodyOf Tryz.f231
noncomputable def L.eqMark (a1 : Int) (a2 : Bool) (a3 : Int) (a4 : Bool) : Option Bool :=
(bif (a1 != a3) then
(some false)
else
(bif (!(a2 == a4)) then
(some false)
else
(some true)))
noncomputable def sg231 : Sg := ⟨⟨[.agg (ho 2 []), .agg (ho 2 [])], [], []⟩, [.int .i64, .bool, .int .i64, .bool], ⟨[hh], [], []⟩, [.bool]⟩
noncomputable def E231 : Fun2 := eOf sg231 L.eqMark
theorem ev231 (a : Args sg231.ks) : evS Tryz.prog G231 loopNil (0, 0) [] Tryz.f231 c231 (kOf sg231) (sg231.sk.fl (encP sg231.ks a)) = unc sg231.ks L.eqMark a := by kernel_rfl
theorem good231 : Vm.Good Tryz.prog 231 E231 := good_gen (G := G231) (L := loopNil) (c := c231) (rn := []) (N := (0, 0)) envNil_good (no_loops (c := c231) (by kernel_rfl)) Tryz.func231 (by kernel_rfl) (by kernel_rfl) (fun _ => by kernel_rfl) ev231
noncomputable def G151 : Env := (envCons 231 [] E231 envNil)
noncomputable def c151 : Code := bodyOf Tryz.f151
noncomputable def c151_4 : Code := (loopsOf c151).getD 0 .skip
noncomputable def L.eqMarkS_l0 : Nat → (Bool → Option Bool) → (Option Bool) → Int → (List (Int × Bool)) → (List (Int × Bool)) → Option Bool
  | 0, _, _, _, _, _ => none
  | m + 1, e4_0, e4_1, a5, a6, a7 =>
    (bif (decide (a5 < (a6.length : Int))) then
    (bif decide ((0 : Int) ≤ a5 ∧ a5 < (a6.length : Int)) then
    (bif decide ((0 : Int) ≤ a5 ∧ a5 < (a7.length : Int)) then
    (Option.bind (L.eqMark ((nthI a6 a5 df5).1) ((nthI a6 a5 df5).2) ((nthI a7 a5 df5).1) ((nthI a7 a5 df5).2)) fun r10 =>
    (bif (!r10) then
    (e4_0 false)
    else
    (L.eqMarkS_l0 m e4_0 e4_1 (IntKind.wrap .i64 (a5 + 1)) a6 a7)))
    else
    none)
    else
    none)
    else
    e4_1)
noncomputable def L.eqMarkS (a1 a2 : List (Int × Bool)) : Option Bool :=
(bif ((a1.length : Int) != (a2.length : Int)) then
(some false)
else
(L.eqMarkS_l0 fu (fun y12 =>
(some y12)) (some true) 0 a1 a2))
noncomputable def H151_4 : LoopH := ⟨⟨((.one (.sl 0)) :: (.one (.sl 1)) :: (hu 3 (hh :: (hu 21 [])))), [], [(225, sh6, .ro), (225, sh6, .ro)]⟩, ([2, 3, 4] ++ rg 6 21), [], (rg 0 4 ++ rg 5 22), [], []⟩
noncomputable def k151_4 : List PK := [.int .i64, .row sh6, .row sh6]
noncomputable def W151_4 (m : Nat) (k : Kont Bool) : Cur k151_4 (Option Bool) := L.eqMarkS_l0 m (exF k .ret ⟨(hu 4 (hh :: (hu 22 []))), [], []⟩ [.bool]) (exF k (.exit 0) ⟨(hu 27 []), [], []⟩ [])
noncomputable def E151_4 (m : Nat) : List Prm → Kont Bool → Option Bool := eL k151_4 (W151_4 m)
theorem ev151_4 (m : Nat) (k : Kont Bool) (a : Args k151_4) : evL Tryz.prog G151 loopNil c151_4 (turn Tryz.prog (0, 0) H151_4 (E151_4 m) k) (H151_4.sk.fl (encP k151_4 a)) = unc k151_4 (W151_4 (m + 1) k) a := by kernel_rfl
theorem ok151_4 (m : Nat) : LoopOk Tryz.prog (0, 0) c151_4 (enter Tryz.prog (0, 0) H151_4 (E151_4 m)) := loop_gen (Fl := W151_4) (G := G151) (L := loopNil) (envCons_good good231 envNil_good) (no_loops (c := c151_4) (by kernel_rfl)) (fun _ _ => by kernel_rfl) ev151_4 m
noncomputable def L151 : LEnv Bool := (loopCons 4 (enter Tryz.prog (0, 0) H151_4 (E151_4 fu)) loopNil)
theorem lq151 : loopsOf c151 = [c151_4] := by kernel_rfl
theorem fr151_4 : firstReg c151_4 = some 4 := by kernel_rfl
theorem le151_4 : L151 4 = enter Tryz.prog (0, 0) H151_4 (E151_4 fu) := by kernel_rfl
theorem lm151 : ∀ x ∈ [c151_4], ∀ id, firstReg x = some id → LoopOk Tryz.prog (0, 0) x (L151 id) := (loops_cons fr151_4 le151_4 (ok151_4 fu) loops_nil)
theorem lp151 : ∀ x ∈ loopsOf c151, ∀ id, firstReg x = some id → LoopOk Tryz.prog (0, 0) x (L151 id) := loops_eq lq151 lm151
noncomputable def sg151 : Sg := ⟨⟨[.one (.sl 0), .one (.sl 1)], [], [(225, sh6, .ro), (225, sh6, .ro)]⟩, [.row sh6, .row sh6], ⟨[hh], [], []⟩, [.bool]⟩
noncomputable def E151 : Fun2 := eOf sg151 L.eqMarkS
theorem ev151 (a : Args sg151.ks) : evS Tryz.prog G151 L151 (0, 0) [] Tryz.f151 c151 (kOf sg151) (sg151.sk.fl (encP sg151.ks a)) = unc sg151.ks L.eqMarkS a := by kernel_rfl
theorem good151 : Vm.Good Tryz.prog 151 E151 := good_gen (G := G151) (L := L151) (c := c151) (rn := []) (N := (0, 0)) (envCons_good good231 envNil_good) lp151 Tryz.func151 (by kernel_rfl) (by kernel_rfl) (fun _ => by kernel_rfl) ev151
noncomputable def G68 : Env := (envCons 151 [] E151 envNil)
noncomputable def c68 : Code := bodyOf Tryz.f68
noncomputable def L.eqMarks (a1 a2 : Int) (a3 a4 : List (Int × Bool)) : Option Bool :=
(bif (a1 != a2) then
(some false)
else
(Option.bind (L.eqMarkS a3 a4) fun r5 =>
(bif (!r5) then
(some false)
else
(some true))))
noncomputable def sg68 : Sg := ⟨⟨[.agg [.hole, .sl 0], .agg [.hole, .sl 1]], [], [(225, sh6, .ro), (225, sh6, .ro)]⟩, (ki 2 [.row sh6, .row sh6]), ⟨[hh], [], []⟩, [.bool]⟩
noncomputable def E68 : Fun2 := eOf sg68 L.eqMarks
theorem ev68 (a : Args sg68.ks) : evS Tryz.prog G68 loopNil (0, 0) [] Tryz.f68 c68 (kOf sg68) (sg68.sk.fl (encP sg68.ks a)) = unc sg68.ks L.eqMarks a := by kernel_rfl
theorem good68 : Vm.Good Tryz.prog 68 E68 := good_gen (G := G68) (L := loopNil) (c := c68) (rn := []) (N := (0, 0)) (envCons_good good151 envNil_good) (no_loops (c := c68) (by kernel_rfl)) Tryz.func68 (by kernel_rfl) (by kernel_rfl) (fun _ => by kernel_rfl) ev68
noncomputable def G217 : Env := envNil
noncomputable def c217 : Code := bodyOf Tryz.f217
noncomputable def L.eqWide (a1 a2 a3 a4 : Int) : Option Bool :=
(bif (a1 != a3) then
(some false)
else
(bif (a2 != a4) then
(some false)
else
(some true)))
noncomputable def sg217 : Sg := ⟨⟨[.agg (ho 2 []), .agg (ho 2 [])], [], []⟩, [.int .i64, .int .u64, .int .i64, .int .u64], ⟨[hh], [], []⟩, [.bool]⟩
noncomputable def E217 : Fun2 := eOf sg217 L.eqWide
theorem ev217 (a : Args sg217.ks) : evS Tryz.prog G217 loopNil (0, 0) [] Tryz.f217 c217 (kOf sg217) (sg217.sk.fl (encP sg217.ks a)) = unc sg217.ks L.eqWide a := by kernel_rfl
theorem good217 : Vm.Good Tryz.prog 217 E217 := good_gen (G := G217) (L := loopNil) (c := c217) (rn := []) (N := (0, 0)) envNil_good (no_loops (c := c217) (by kernel_rfl)) Tryz.func217 (by kernel_rfl) (by kernel_rfl) (fun _ => by kernel_rfl) ev217
noncomputable def G31 : Env := envNil
noncomputable def c31 : Code := bodyOf Tryz.f31
noncomputable def c31_4 : Code := (loopsOf c31).getD 0 .skip
noncomputable def L.eqIntS_l0 : Nat → (Bool → Option Bool) → (Option Bool) → Int → List Int → List Int → Option Bool
  | 0, _, _, _, _, _ => none
  | m + 1, e4_0, e4_1, a5, a6, a7 =>
    (bif (decide (a5 < (a6.length : Int))) then
    (bif decide ((0 : Int) ≤ a5 ∧ a5 < (a6.length : Int)) then
    (bif decide ((0 : Int) ≤ a5 ∧ a5 < (a7.length : Int)) then
    (bif ((nthI a6 a5 (0 : Int)) != (nthI a7 a5 (0 : Int))) then
    (e4_0 false)
    else
    (L.eqIntS_l0 m e4_0 e4_1 (IntKind.wrap .i64 (a5 + 1)) a6 a7))
    else
    none)
    else
    none)
    else
    e4_1)
noncomputable def L.eqIntS (a1 a2 : List Int) : Option Bool :=
(bif ((a1.length : Int) != (a2.length : Int)) then
(some false)
else
(L.eqIntS_l0 fu (fun y12 =>
(some y12)) (some true) 0 a1 a2))
noncomputable def H31_4 : LoopH := ⟨⟨((.one (.sl 0)) :: (.one (.sl 1)) :: (hu 3 (hh :: (hu 20 [])))), [], [(3, (.int .i64), .ro), (3, (.int .i64), .ro)]⟩, ([2, 3, 4] ++ rg 6 20), [], (rg 0 4 ++ rg 5 21), [], []⟩
noncomputable def k31_4 : List PK := [.int .i64, .row (.int .i64), .row (.int .i64)]
noncomputable def W31_4 (m : Nat) (k : Kont Bool) : Cur k31_4 (Option Bool) := L.eqIntS_l0 m (exF k .ret ⟨(hu 4 (hh :: (hu 21 []))), [], []⟩ [.bool]) (exF k (.exit 0) ⟨(hu 26 []), [], []⟩ [])
noncomputable def E31_4 (m : Nat) : List Prm → Kont Bool → Option Bool := eL k31_4 (W31_4 m)
theorem ev31_4 (m : Nat) (k : Kont Bool) (a : Args k31_4) : evL Tryz.prog G31 loopNil c31_4 (turn Tryz.prog (0, 0) H31_4 (E31_4 m) k) (H31_4.sk.fl (encP k31_4 a)) = unc k31_4 (W31_4 (m + 1) k) a := by kernel_rfl
theorem ok31_4 (m : Nat) : LoopOk Tryz.prog (0, 0) c31_4 (enter Tryz.prog (0, 0) H31_4 (E31_4 m)) := loop_gen (Fl := W31_4) (G := G31) (L := loopNil) envNil_good (no_loops (c := c31_4) (by kernel_rfl)) (fun _ _ => by kernel_rfl) ev31_4 m
noncomputable def L31 : LEnv Bool := (loopCons 4 (enter Tryz.prog (0, 0) H31_4 (E31_4 fu)) loopNil)
theorem lq31 : loopsOf c31 = [c31_4] := by kernel_rfl
theorem fr31_4 : firstReg c31_4 = some 4 := by kernel_rfl
theorem le31_4 : L31 4 = enter Tryz.prog (0, 0) H31_4 (E31_4 fu) := by kernel_rfl
theorem lm31 : ∀ x ∈ [c31_4], ∀ id, firstReg x = some id → LoopOk Tryz.prog (0, 0) x (L31 id) := (loops_cons fr31_4 le31_4 (ok31_4 fu) loops_nil)
theorem lp31 : ∀ x ∈ loopsOf c31, ∀ id, firstReg x = some id → LoopOk Tryz.prog (0, 0) x (L31 id) := loops_eq lq31 lm31
noncomputable def sg31 : Sg := ⟨⟨[.one (.sl 0), .one (.sl 1)], [], [(3, (.int .i64), .ro), (3, (.int .i64), .ro)]⟩, [.row (.int .i64), .row (.int .i64)], ⟨[hh], [], []⟩, [.bool]⟩
noncomputable def E31 : Fun2 := eOf sg31 L.eqIntS
theorem ev31 (a : Args sg31.ks) : evS Tryz.prog G31 L31 (0, 0) [] Tryz.f31 c31 (kOf sg31) (sg31.sk.fl (encP sg31.ks a)) = unc sg31.ks L.eqIntS a := by kernel_rfl
theorem good31 : Vm.Good Tryz.prog 31 E31 := good_gen (G := G31) (L := L31) (c := c31) (rn := []) (N := (0, 0)) envNil_good lp31 Tryz.func31 (by kernel_rfl) (by kernel_rfl) (fun _ => by kernel_rfl) ev31
noncomputable def G136 : Env := (envCons 217 [] E217 (envCons 31 [] E31 envNil))
noncomputable def c136 : Code := bodyOf Tryz.f136
noncomputable def L.eqAgg (a1 a2 a3 a4 a5 a6 a7 a8 a9 a10 : Int) (a11 a12 : List Int) : Option Bool :=
(bif (a1 != a6) then
(some false)
else
(Option.bind (L.eqWide a2 a3 a7 a8) fun r13 =>
(bif (!r13) then
(some false)
else
(bif (a4 != a9) then
(some false)
else
(bif (a5 != a10) then
(some false)
else
(Option.bind (L.eqIntS a11 a12) fun r14 =>
(bif (!r14) then
(some false)
else
(some true))))))))
noncomputable def sg136 : Sg := ⟨⟨[.agg (ho 5 [.sl 0]), .agg (ho 5 [.sl 1])], [], [(3, (.int .i64), .ro), (3, (.int .i64), .ro)]⟩, (ki 2 ((.int .u64) :: (ki 4 ((.int .u64) :: (ki 2 [.row (.int .i64), .row (.int .i64)]))))), ⟨[hh], [], []⟩, [.bool]⟩
noncomputable def E136 : Fun2 := eOf sg136 L.eqAgg
theorem ev136 (a : Args sg136.ks) : evS Tryz.prog G136 loopNil (0, 0) [] Tryz.f136 c136 (kOf sg136) (sg136.sk.fl (encP sg136.ks a)) = unc sg136.ks L.eqAgg a := by kernel_rfl
theorem good136 : Vm.Good Tryz.prog 136 E136 := good_gen (G := G136) (L := loopNil) (c := c136) (rn := []) (N := (0, 0)) (envCons_good good217 (envCons_good good31 envNil_good)) (no_loops (c := c136) (by kernel_rfl)) Tryz.func136 (by kernel_rfl) (by kernel_rfl) (fun _ => by kernel_rfl) ev136
noncomputable def G53 : Env := (envCons 136 [] E136 envNil)
noncomputable def c53 : Code := bodyOf Tryz.f53
noncomputable def L.eqCell (a1 a2 a3 a4 a5 a6 a7 a8 a9 a10 a11 a12 a13 a14 a15 a16 a17 a18 a19 a20 : Int) (a21 a22 : List Int) : Option Bool :=
(bif (a1 != a11) then
(some false)
else
(bif (a2 != a12) then
(some false)
else
(bif (a3 != a13) then
(some false)
else
(bif (a4 != a14) then
(some false)
else
(bif (a5 != a15) then
(some false)
else
(Option.bind (L.eqAgg a6 a7 a8 a9 a10 a16 a17 a18 a19 a20 a21 a22) fun r23 =>
(bif (!r23) then
(some false)
else
(some true))))))))
noncomputable def sg53 : Sg := ⟨⟨[.agg (ho 10 [.sl 0]), .agg (ho 10 [.sl 1])], [], [(3, (.int .i64), .ro), (3, (.int .i64), .ro)]⟩, (ki 7 ((.int .u64) :: (ki 9 ((.int .u64) :: (ki 2 [.row (.int .i64), .row (.int .i64)]))))), ⟨[hh], [], []⟩, [.bool]⟩
noncomputable def E53 : Fun2 := eOf sg53 L.eqCell
theorem ev53 (a : Args sg53.ks) : evS Tryz.prog G53 loopNil (0, 0) [] Tryz.f53 c53 (kOf sg53) (sg53.sk.fl (encP sg53.ks a)) = unc sg53.ks L.eqCell a := by kernel_rfl
theorem good53 : Vm.Good Tryz.prog 53 E53 := good_gen (G := G53) (L := loopNil) (c := c53) (rn := []) (N := (0, 0)) (envCons_good good136 envNil_good) (no_loops (c := c53) (by kernel_rfl)) Tryz.func53 (by kernel_rfl) (by kernel_rfl) (fun _ => by kernel_rfl) ev53
noncomputable def G13 : Env := (envCons 53 [] E53 envNil)
noncomputable def c13 : Code := bodyOf Tryz.f13
noncomputable def c13_4 : Code := (loopsOf c13).getD 0 .skip
noncomputable def L.eqCellS_l0 : Nat → (Bool → Option Bool) → (Option Bool) → Int → (List ty5) → (List ty5) → Option Bool
  | 0, _, _, _, _, _ => none
  | m + 1, e4_0, e4_1, a5, a6, a7 =>
    (bif (decide (a5 < (a6.length : Int))) then
    (bif decide ((0 : Int) ≤ a5 ∧ a5 < (a6.length : Int)) then
    (bif decide ((0 : Int) ≤ a5 ∧ a5 < (a7.length : Int)) then
    (Option.bind (L.eqCell ((nthI a6 a5 df6).1) ((nthI a6 a5 df6).2.1) ((nthI a6 a5 df6).2.2.1) ((nthI a6 a5 df6).2.2.2.1) ((nthI a6 a5 df6).2.2.2.2.1) ((nthI a6 a5 df6).2.2.2.2.2.1) ((nthI a6 a5 df6).2.2.2.2.2.2.1.1) ((nthI a6 a5 df6).2.2.2.2.2.2.1.2) ((nthI a6 a5 df6).2.2.2.2.2.2.2.1) ((nthI a6 a5 df6).2.2.2.2.2.2.2.2.1) ((nthI a7 a5 df6).1) ((nthI a7 a5 df6).2.1) ((nthI a7 a5 df6).2.2.1) ((nthI a7 a5 df6).2.2.2.1) ((nthI a7 a5 df6).2.2.2.2.1) ((nthI a7 a5 df6).2.2.2.2.2.1) ((nthI a7 a5 df6).2.2.2.2.2.2.1.1) ((nthI a7 a5 df6).2.2.2.2.2.2.1.2) ((nthI a7 a5 df6).2.2.2.2.2.2.2.1) ((nthI a7 a5 df6).2.2.2.2.2.2.2.2.1) ((nthI a6 a5 df6).2.2.2.2.2.2.2.2.2) ((nthI a7 a5 df6).2.2.2.2.2.2.2.2.2)) fun r10 =>
    (bif (!r10) then
    (e4_0 false)
    else
    (L.eqCellS_l0 m e4_0 e4_1 (IntKind.wrap .i64 (a5 + 1)) a6 a7)))
    else
    none)
    else
    none)
    else
    e4_1)
noncomputable def L.eqCellS (a1 a2 : List ty5) : Option Bool :=
(bif ((a1.length : Int) != (a2.length : Int)) then
(some false)
else
(L.eqCellS_l0 fu (fun y12 =>
(some y12)) (some true) 0 a1 a2))
noncomputable def H13_4 : LoopH := ⟨⟨((.one (.sl 0)) :: (.one (.sl 1)) :: (hu 3 (hh :: (hu 21 [])))), [], [(105, sh10, .ro), (105, sh10, .ro)]⟩, ([2, 3, 4] ++ rg 6 21), [], (rg 0 4 ++ rg 5 22), [], []⟩
noncomputable def k13_4 : List PK := [.int .i64, .row sh10, .row sh10]
noncomputable def W13_4 (m : Nat) (k : Kont Bool) : Cur k13_4 (Option Bool) := L.eqCellS_l0 m (exF k .ret ⟨(hu 4 (hh :: (hu 22 []))), [], []⟩ [.bool]) (exF k (.exit 0) ⟨(hu 27 []), [], []⟩ [])
noncomputable def E13_4 (m : Nat) : List Prm → Kont Bool → Option Bool := eL k13_4 (W13_4 m)
theorem ev13_4 (m : Nat) (k : Kont Bool) (a : Args k13_4) : evL Tryz.prog G13 loopNil c13_4 (turn Tryz.prog (0, 0) H13_4 (E13_4 m) k) (H13_4.sk.fl (encP k13_4 a)) = unc k13_4 (W13_4 (m + 1) k) a := by kernel_rfl
theorem ok13_4 (m : Nat) : LoopOk Tryz.prog (0, 0) c13_4 (enter Tryz.prog (0, 0) H13_4 (E13_4 m)) := loop_gen (Fl := W13_4) (G := G13) (L := loopNil) (envCons_good good53 envNil_good) (no_loops (c := c13_4) (by kernel_rfl)) (fun _ _ => by kernel_rfl) ev13_4 m
noncomputable def L13 : LEnv Bool := (loopCons 4 (enter Tryz.prog (0, 0) H13_4 (E13_4 fu)) loopNil)
theorem lq13 : loopsOf c13 = [c13_4] := by kernel_rfl
theorem fr13_4 : firstReg c13_4 = some 4 := by kernel_rfl
theorem le13_4 : L13 4 = enter Tryz.prog (0, 0) H13_4 (E13_4 fu) := by kernel_rfl
theorem lm13 : ∀ x ∈ [c13_4], ∀ id, firstReg x = some id → LoopOk Tryz.prog (0, 0) x (L13 id) := (loops_cons fr13_4 le13_4 (ok13_4 fu) loops_nil)
theorem lp13 : ∀ x ∈ loopsOf c13, ∀ id, firstReg x = some id → LoopOk Tryz.prog (0, 0) x (L13 id) := loops_eq lq13 lm13
noncomputable def sg13 : Sg := ⟨⟨[.one (.sl 0), .one (.sl 1)], [], [(105, sh10, .ro), (105, sh10, .ro)]⟩, [.row sh10, .row sh10], ⟨[hh], [], []⟩, [.bool]⟩
noncomputable def E13 : Fun2 := eOf sg13 L.eqCellS
theorem ev13 (a : Args sg13.ks) : evS Tryz.prog G13 L13 (0, 0) [] Tryz.f13 c13 (kOf sg13) (sg13.sk.fl (encP sg13.ks a)) = unc sg13.ks L.eqCellS a := by kernel_rfl
theorem good13 : Vm.Good Tryz.prog 13 E13 := good_gen (G := G13) (L := L13) (c := c13) (rn := []) (N := (0, 0)) (envCons_good good53 envNil_good) lp13 Tryz.func13 (by kernel_rfl) (by kernel_rfl) (fun _ => by kernel_rfl) ev13
noncomputable def G301 : Env := (envCons 31 [] E31 envNil)
noncomputable def c301 : Code := bodyOf Tryz.f301
noncomputable def L.eqPane (a1 a2 a3 a4 a5 a6 : Int) (a7 : Bool) (a8 a9 a10 a11 a12 a13 : Int) (a14 : Bool) (a15 a16 : List Int) : Option Bool :=
(bif (a1 != a8) then
(some false)
else
(bif (a2 != a9) then
(some false)
else
(bif (a3 != a10) then
(some false)
else
(bif (a4 != a11) then
(some false)
else
(bif (a5 != a12) then
(some false)
else
(bif (a6 != a13) then
(some false)
else
(Option.bind (L.eqIntS a15 a16) fun r17 =>
(bif (!r17) then
(some false)
else
(bif (!(a7 == a14)) then
(some false)
else
(some true))))))))))
noncomputable def sg301 : Sg := ⟨⟨[.agg (ho 6 [.sl 0, .hole]), .agg (ho 6 [.sl 1, .hole])], [], [(3, (.int .i64), .ro), (3, (.int .i64), .ro)]⟩, (ki 6 ((.bool) :: (ki 6 [.bool, .row (.int .i64), .row (.int .i64)]))), ⟨[hh], [], []⟩, [.bool]⟩
noncomputable def E301 : Fun2 := eOf sg301 L.eqPane
theorem ev301 (a : Args sg301.ks) : evS Tryz.prog G301 loopNil (0, 0) [] Tryz.f301 c301 (kOf sg301) (sg301.sk.fl (encP sg301.ks a)) = unc sg301.ks L.eqPane a := by kernel_rfl
theorem good301 : Vm.Good Tryz.prog 301 E301 := good_gen (G := G301) (L := loopNil) (c := c301) (rn := []) (N := (0, 0)) (envCons_good good31 envNil_good) (no_loops (c := c301) (by kernel_rfl)) Tryz.func301 (by kernel_rfl) (by kernel_rfl) (fun _ => by kernel_rfl) ev301
noncomputable def G273 : Env := (envCons 301 [] E301 envNil)
noncomputable def c273 : Code := bodyOf Tryz.f273
noncomputable def L.eqItem (a1 a2 a3 a4 a5 a6 a7 a8 : Int) (a9 : Bool) (a10 a11 a12 a13 a14 a15 a16 a17 : Int) (a18 : Bool) (a19 a20 : List Int) : Option Bool :=
(bif (a1 != a10) then
(some false)
else
(bif (a2 != a11) then
(some false)
else
(Option.bind (L.eqPane a3 a4 a5 a6 a7 a8 a9 a12 a13 a14 a15 a16 a17 a18 a19 a20) fun r21 =>
(bif (!r21) then
(some false)
else
(some true)))))
noncomputable def sg273 : Sg := ⟨⟨[.agg (ho 8 [.sl 0, .hole]), .agg (ho 8 [.sl 1, .hole])], [], [(3, (.int .i64), .ro), (3, (.int .i64), .ro)]⟩, (ki 8 ((.bool) :: (ki 8 [.bool, .row (.int .i64), .row (.int .i64)]))), ⟨[hh], [], []⟩, [.bool]⟩
noncomputable def E273 : Fun2 := eOf sg273 L.eqItem
theorem ev273 (a : Args sg273.ks) : evS Tryz.prog G273 loopNil (0, 0) [] Tryz.f273 c273 (kOf sg273) (sg273.sk.fl (encP sg273.ks a)) = unc sg273.ks L.eqItem a := by kernel_rfl
theorem good273 : Vm.Good Tryz.prog 273 E273 := good_gen (G := G273) (L := loopNil) (c := c273) (rn := []) (N := (0, 0)) (envCons_good good301 envNil_good) (no_loops (c := c273) (by kernel_rfl)) Tryz.func273 (by kernel_rfl) (by kernel_rfl) (fun _ => by kernel_rfl) ev273
noncomputable def G232 : Env := (envCons 273 [] E273 envNil)
noncomputable def c232 : Code := bodyOf Tryz.f232
noncomputable def c232_4 : Code := (loopsOf c232).getD 0 .skip
noncomputable def L.eqItemS_l0 : Nat → (Bool → Option Bool) → (Option Bool) → Int → (List ty7) → (List ty7) → Option Bool
  | 0, _, _, _, _, _ => none
  | m + 1, e4_0, e4_1, a5, a6, a7 =>
    (bif (decide (a5 < (a6.length : Int))) then
    (bif decide ((0 : Int) ≤ a5 ∧ a5 < (a6.length : Int)) then
    (bif decide ((0 : Int) ≤ a5 ∧ a5 < (a7.length : Int)) then
    (Option.bind (L.eqItem ((nthI a6 a5 df7).1) ((nthI a6 a5 df7).2.1) ((nthI a6 a5 df7).2.2.1) ((nthI a6 a5 df7).2.2.2.1) ((nthI a6 a5 df7).2.2.2.2.1) ((nthI a6 a5 df7).2.2.2.2.2.1) ((nthI a6 a5 df7).2.2.2.2.2.2.1) ((nthI a6 a5 df7).2.2.2.2.2.2.2.1) ((nthI a6 a5 df7).2.2.2.2.2.2.2.2.2) ((nthI a7 a5 df7).1) ((nthI a7 a5 df7).2.1) ((nthI a7 a5 df7).2.2.1) ((nthI a7 a5 df7).2.2.2.1) ((nthI a7 a5 df7).2.2.2.2.1) ((nthI a7 a5 df7).2.2.2.2.2.1) ((nthI a7 a5 df7).2.2.2.2.2.2.1) ((nthI a7 a5 df7).2.2.2.2.2.2.2.1) ((nthI a7 a5 df7).2.2.2.2.2.2.2.2.2) ((nthI a6 a5 df7).2.2.2.2.2.2.2.2.1) ((nthI a7 a5 df7).2.2.2.2.2.2.2.2.1)) fun r10 =>
    (bif (!r10) then
    (e4_0 false)
    else
    (L.eqItemS_l0 m e4_0 e4_1 (IntKind.wrap .i64 (a5 + 1)) a6 a7)))
    else
    none)
    else
    none)
    else
    e4_1)
noncomputable def L.eqItemS (a1 a2 : List ty7) : Option Bool :=
(bif ((a1.length : Int) != (a2.length : Int)) then
(some false)
else
(L.eqItemS_l0 fu (fun y12 =>
(some y12)) (some true) 0 a1 a2))
noncomputable def H232_4 : LoopH := ⟨⟨((.one (.sl 0)) :: (.one (.sl 1)) :: (hu 3 (hh :: (hu 21 [])))), [], [(230, sh7, .ro), (230, sh7, .ro)]⟩, ([2, 3, 4] ++ rg 6 21), [], (rg 0 4 ++ rg 5 22), [], []⟩
noncomputable def k232_4 : List PK := [.int .i64, .row sh7, .row sh7]
noncomputable def W232_4 (m : Nat) (k : Kont Bool) : Cur k232_4 (Option Bool) := L.eqItemS_l0 m (exF k .ret ⟨(hu 4 (hh :: (hu 22 []))), [], []⟩ [.bool]) (exF k (.exit 0) ⟨(hu 27 []), [], []⟩ [])
noncomputable def E232_4 (m : Nat) : List Prm → Kont Bool → Option Bool := eL k232_4 (W232_4 m)
theorem ev232_4 (m : Nat) (k : Kont Bool) (a : Args k232_4) : evL Tryz.prog G232 loopNil c232_4 (turn Tryz.prog (0, 0) H232_4 (E232_4 m) k) (H232_4.sk.fl (encP k232_4 a)) = unc k232_4 (W232_4 (m + 1) k) a := by kernel_rfl
theorem ok232_4 (m : Nat) : LoopOk Tryz.prog (0, 0) c232_4 (enter Tryz.prog (0, 0) H232_4 (E232_4 m)) := loop_gen (Fl := W232_4) (G := G232) (L := loopNil) (envCons_good good273 envNil_good) (no_loops (c := c232_4) (by kernel_rfl)) (fun _ _ => by kernel_rfl) ev232_4 m
noncomputable def L232 : LEnv Bool := (loopCons 4 (enter Tryz.prog (0, 0) H232_4 (E232_4 fu)) loopNil)
theorem lq232 : loopsOf c232 = [c232_4] := by kernel_rfl
theorem fr232_4 : firstReg c232_4 = some 4 := by kernel_rfl
theorem le232_4 : L232 4 = enter Tryz.prog (0, 0) H232_4 (E232_4 fu) := by kernel_rfl
theorem lm232 : ∀ x ∈ [c232_4], ∀ id, firstReg x = some id → LoopOk Tryz.prog (0, 0) x (L232 id) := (loops_cons fr232_4 le232_4 (ok232_4 fu) loops_nil)
theorem lp232 : ∀ x ∈ loopsOf c232, ∀ id, firstReg x = some id → LoopOk Tryz.prog (0, 0) x (L232 id) := loops_eq lq232 lm232
noncomputable def sg232 : Sg := ⟨⟨[.one (.sl 0), .one (.sl 1)], [], [(230, sh7, .ro), (230, sh7, .ro)]⟩, [.row sh7, .row sh7], ⟨[hh], [], []⟩, [.bool]⟩
noncomputable def E232 : Fun2 := eOf sg232 L.eqItemS
theorem ev232 (a : Args sg232.ks) : evS Tryz.prog G232 L232 (0, 0) [] Tryz.f232 c232 (kOf sg232) (sg232.sk.fl (encP sg232.ks a)) = unc sg232.ks L.eqItemS a := by kernel_rfl
theorem good232 : Vm.Good Tryz.prog 232 E232 := good_gen (G := G232) (L := L232) (c := c232) (rn := []) (N := (0, 0)) (envCons_good good273 envNil_good) lp232 Tryz.func232 (by kernel_rfl) (by kernel_rfl) (fun _ => by kernel_rfl) ev232
noncomputable def G274 : Env := envNil
noncomputable def c274 : Code := bodyOf Tryz.f274
noncomputable def L.eqRec (a1 a2 a3 a4 a5 a6 : Int) : Option Bool :=
(bif (a1 != a4) then
(some false)
else
(bif (a2 != a5) then
(some false)
else
(bif (a3 != a6) then
(some false)
else
(some true))))
noncomputable def sg274 : Sg := ⟨⟨[.agg (ho 3 []), .agg (ho 3 [])], [], []⟩, (ki 6 []), ⟨[hh], [], []⟩, [.bool]⟩
noncomputable def E274 : Fun2 := eOf sg274 L.eqRec
theorem ev274 (a : Args sg274.ks) : evS Tryz.prog G274 loopNil (0, 0) [] Tryz.f274 c274 (kOf sg274) (sg274.sk.fl (encP sg274.ks a)) = unc sg274.ks L.eqRec a := by kernel_rfl
theorem good274 : Vm.Good Tryz.prog 274 E274 := good_gen (G := G274) (L := loopNil) (c := c274) (rn := []) (N := (0, 0)) envNil_good (no_loops (c := c274) (by kernel_rfl)) Tryz.func274 (by kernel_rfl) (by kernel_rfl) (fun _ => by kernel_rfl) ev274
noncomputable def G233 : Env := (envCons 274 [] E274 envNil)
noncomputable def c233 : Code := bodyOf Tryz.f233
noncomputable def c233_4 : Code := (loopsOf c233).getD 0 .skip
noncomputable def L.eqRecS_l0 : Nat → (Bool → Option Bool) → (Option Bool) → Int → (List (Int × Int × Int)) → (List (Int × Int × Int)) → Option Bool
  | 0, _, _, _, _, _ => none
  | m + 1, e4_0, e4_1, a5, a6, a7 =>
    (bif (decide (a5 < (a6.length : Int))) then
    (bif decide ((0 : Int) ≤ a5 ∧ a5 < (a6.length : Int)) then
    (bif decide ((0 : Int) ≤ a5 ∧ a5 < (a7.length : Int)) then
    (Option.bind (L.eqRec ((nthI a6 a5 df1).1) ((nthI a6 a5 df1).2.1) ((nthI a6 a5 df1).2.2) ((nthI a7 a5 df1).1) ((nthI a7 a5 df1).2.1) ((nthI a7 a5 df1).2.2)) fun r10 =>
    (bif (!r10) then
    (e4_0 false)
    else
    (L.eqRecS_l0 m e4_0 e4_1 (IntKind.wrap .i64 (a5 + 1)) a6 a7)))
    else
    none)
    else
    none)
    else
    e4_1)
noncomputable def L.eqRecS (a1 a2 : List (Int × Int × Int)) : Option Bool :=
(bif ((a1.length : Int) != (a2.length : Int)) then
(some false)
else
(L.eqRecS_l0 fu (fun y12 =>
(some y12)) (some true) 0 a1 a2))
noncomputable def H233_4 : LoopH := ⟨⟨((.one (.sl 0)) :: (.one (.sl 1)) :: (hu 3 (hh :: (hu 21 [])))), [], [(233, sh3, .ro), (233, sh3, .ro)]⟩, ([2, 3, 4] ++ rg 6 21), [], (rg 0 4 ++ rg 5 22), [], []⟩
noncomputable def k233_4 : List PK := [.int .i64, .row sh3, .row sh3]
noncomputable def W233_4 (m : Nat) (k : Kont Bool) : Cur k233_4 (Option Bool) := L.eqRecS_l0 m (exF k .ret ⟨(hu 4 (hh :: (hu 22 []))), [], []⟩ [.bool]) (exF k (.exit 0) ⟨(hu 27 []), [], []⟩ [])
noncomputable def E233_4 (m : Nat) : List Prm → Kont Bool → Option Bool := eL k233_4 (W233_4 m)
theorem ev233_4 (m : Nat) (k : Kont Bool) (a : Args k233_4) : evL Tryz.prog G233 loopNil c233_4 (turn Tryz.prog (0, 0) H233_4 (E233_4 m) k) (H233_4.sk.fl (encP k233_4 a)) = unc k233_4 (W233_4 (m + 1) k) a := by kernel_rfl
theorem ok233_4 (m : Nat) : LoopOk Tryz.prog (0, 0) c233_4 (enter Tryz.prog (0, 0) H233_4 (E233_4 m)) := loop_gen (Fl := W233_4) (G := G233) (L := loopNil) (envCons_good good274 envNil_good) (no_loops (c := c233_4) (by kernel_rfl)) (fun _ _ => by kernel_rfl) ev233_4 m
noncomputable def L233 : LEnv Bool := (loopCons 4 (enter Tryz.prog (0, 0) H233_4 (E233_4 fu)) loopNil)
theorem lq233 : loopsOf c233 = [c233_4] := by kernel_rfl
theorem fr233_4 : firstReg c233_4 = some 4 := by kernel_rfl
theorem le233_4 : L233 4 = enter Tryz.prog (0, 0) H233_4 (E233_4 fu) := by kernel_rfl
theorem lm233 : ∀ x ∈ [c233_4], ∀ id, firstReg x = some id → LoopOk Tryz.prog (0, 0) x (L233 id) := (loops_cons fr233_4 le233_4 (ok233_4 fu) loops_nil)
theorem lp233 : ∀ x ∈ loopsOf c233, ∀ id, firstReg x = some id → LoopOk Tryz.prog (0, 0) x (L233 id) := loops_eq lq233 lm233
noncomputable def sg233 : Sg := ⟨⟨[.one (.sl 0), .one (.sl 1)], [], [(233, sh3, .ro), (233, sh3, .ro)]⟩, [.row sh3, .row sh3], ⟨[hh], [], []⟩, [.bool]⟩
noncomputable def E233 : Fun2 := eOf sg233 L.eqRecS
theorem ev233 (a : Args sg233.ks) : evS Tryz.prog G233 L233 (0, 0) [] Tryz.f233 c233 (kOf sg233) (sg233.sk.fl (encP sg233.ks a)) = unc sg233.ks L.eqRecS a := by kernel_rfl
theorem good233 : Vm.Good Tryz.prog 233 E233 := good_gen (G := G233) (L := L233) (c := c233) (rn := []) (N := (0, 0)) (envCons_good good274 envNil_good) lp233 Tryz.func233 (by kernel_rfl) (by kernel_rfl) (fun _ => by kernel_rfl) ev233
noncomputable def G152 : Env := (envCons 232 [] E232 (envCons 233 [] E233 envNil))
noncomputable def c152 : Code := bodyOf Tryz.f152
noncomputable def L.eqBox (a1 a2 a3 a4 a5 a6 a7 a8 : Int) (a9 : List ty7) (a10 : List (Int × Int × Int)) (a11 : List ty7) (a12 : List (Int × Int × Int)) : Option Bool :=
(bif (a1 != a5) then
(some false)
else
(bif (a2 != a6) then
(some false)
else
(bif (a3 != a7) then
(some false)
else
(bif (a4 != a8) then
(some false)
else
(Option.bind (L.eqItemS a9 a11) fun r13 =>
(bif (!r13) then
(some false)
else
(Option.bind (L.eqRecS a10 a12) fun r14 =>
(bif (!r14) then
(some false)
else
(some true)))))))))
noncomputable def sg152 : Sg := ⟨⟨[.agg (ho 4 [.sl 0, .sl 1]), .agg (ho 4 [.sl 2, .sl 3])], [], [(230, sh7, .ro), (233, sh3, .ro), (230, sh7, .ro), (233, sh3, .ro)]⟩, (ki 8 [.row sh7, .row sh3, .row sh7, .row sh3]), ⟨[hh], [], []⟩, [.bool]⟩
noncomputable def E152 : Fun2 := eOf sg152 L.eqBox
theorem ev152 (a : Args sg152.ks) : evS Tryz.prog G152 loopNil (0, 0) [] Tryz.f152 c152 (kOf sg152) (sg152.sk.fl (encP sg152.ks a)) = unc sg152.ks L.eqBox a := by kernel_rfl
theorem good152 : Vm.Good Tryz.prog 152 E152 := good_gen (G := G152) (L := loopNil) (c := c152) (rn := []) (N := (0, 0)) (envCons_good good232 (envCons_good good233 envNil_good)) (no_loops (c := c152) (by kernel_rfl)) Tryz.func152 (by kernel_rfl) (by kernel_rfl) (fun _ => by kernel_rfl) ev152
noncomputable def G69 : Env := (envCons 152 [] E152 envNil)
noncomputable def c69 : Code := bodyOf Tryz.f69
noncomputable def c69_4 : Code := (loopsOf c69).getD 0 .skip
noncomputable def L.eqBoxS_l0 : Nat → (Bool → Option Bool) → (Option Bool) → Int → (List ty3) → (List ty3) → Option Bool
  | 0, _, _, _, _, _ => none
  | m + 1, e4_0, e4_1, a5, a6, a7 =>
    (bif (decide (a5 < (a6.length : Int))) then
    (bif decide ((0 : Int) ≤ a5 ∧ a5 < (a6.length : Int)) then
    (bif decide ((0 : Int) ≤ a5 ∧ a5 < (a7.length : Int)) then
    (Option.bind (L.eqBox ((nthI a6 a5 df8).1) ((nthI a6 a5 df8).2.1) ((nthI a6 a5 df8).2.2.1) ((nthI a6 a5 df8).2.2.2.1) ((nthI a7 a5 df8).1) ((nthI a7 a5 df8).2.1) ((nthI a7 a5 df8).2.2.1) ((nthI a7 a5 df8).2.2.2.1) ((nthI a6 a5 df8).2.2.2.2.1) ((nthI a6 a5 df8).2.2.2.2.2) ((nthI a7 a5 df8).2.2.2.2.1) ((nthI a7 a5 df8).2.2.2.2.2)) fun r10 =>
    (bif (!r10) then
    (e4_0 false)
    else
    (L.eqBoxS_l0 m e4_0 e4_1 (IntKind.wrap .i64 (a5 + 1)) a6 a7)))
    else
    none)
    else
    none)
    else
    e4_1)
noncomputable def L.eqBoxS (a1 a2 : List ty3) : Option Bool :=
(bif ((a1.length : Int) != (a2.length : Int)) then
(some false)
else
(L.eqBoxS_l0 fu (fun y12 =>
(some y12)) (some true) 0 a1 a2))
noncomputable def H69_4 : LoopH := ⟨⟨((.one (.sl 0)) :: (.one (.sl 1)) :: (hu 3 (hh :: (hu 21 [])))), [], [(122, sh8, .ro), (122, sh8, .ro)]⟩, ([2, 3, 4] ++ rg 6 21), [], (rg 0 4 ++ rg 5 22), [], []⟩
noncomputable def k69_4 : List PK := [.int .i64, .row sh8, .row sh8]
noncomputable def W69_4 (m : Nat) (k : Kont Bool) : Cur k69_4 (Option Bool) := L.eqBoxS_l0 m (exF k .ret ⟨(hu 4 (hh :: (hu 22 []))), [], []⟩ [.bool]) (exF k (.exit 0) ⟨(hu 27 []), [], []⟩ [])
noncomputable def E69_4 (m : Nat) : List Prm → Kont Bool → Option Bool := eL k69_4 (W69_4 m)
theorem ev69_4 (m : Nat) (k : Kont Bool) (a : Args k69_4) : evL Tryz.prog G69 loopNil c69_4 (turn Tryz.prog (0, 0) H69_4 (E69_4 m) k) (H69_4.sk.fl (encP k69_4 a)) = unc k69_4 (W69_4 (m + 1) k) a := by kernel_rfl
theorem ok69_4 (m : Nat) : LoopOk Tryz.prog (0, 0) c69_4 (enter Tryz.prog (0, 0) H69_4 (E69_4 m)) := loop_gen (Fl := W69_4) (G := G69) (L := loopNil) (envCons_good good152 envNil_good) (no_loops (c := c69_4) (by kernel_rfl)) (fun _ _ => by kernel_rfl) ev69_4 m
noncomputable def L69 : LEnv Bool := (loopCons 4 (enter Tryz.prog (0, 0) H69_4 (E69_4 fu)) loopNil)
theorem lq69 : loopsOf c69 = [c69_4] := by kernel_rfl
theorem fr69_4 : firstReg c69_4 = some 4 := by kernel_rfl
theorem le69_4 : L69 4 = enter Tryz.prog (0, 0) H69_4 (E69_4 fu) := by kernel_rfl
theorem lm69 : ∀ x ∈ [c69_4], ∀ id, firstReg x = some id → LoopOk Tryz.prog (0, 0) x (L69 id) := (loops_cons fr69_4 le69_4 (ok69_4 fu) loops_nil)
theorem lp69 : ∀ x ∈ loopsOf c69, ∀ id, firstReg x = some id → LoopOk Tryz.prog (0, 0) x (L69 id) := loops_eq lq69 lm69
noncomputable def sg69 : Sg := ⟨⟨[.one (.sl 0), .one (.sl 1)], [], [(122, sh8, .ro), (122, sh8, .ro)]⟩, [.row sh8, .row sh8], ⟨[hh], [], []⟩, [.bool]⟩
noncomputable def E69 : Fun2 := eOf sg69 L.eqBoxS
theorem ev69 (a : Args sg69.ks) : evS Tryz.prog G69 L69 (0, 0) [] Tryz.f69 c69 (kOf sg69) (sg69.sk.fl (encP sg69.ks a)) = unc sg69.ks L.eqBoxS a := by kernel_rfl
theorem good69 : Vm.Good Tryz.prog 69 E69 := good_gen (G := G69) (L := L69) (c := c69) (rn := []) (N := (0, 0)) (envCons_good good152 envNil_good) lp69 Tryz.func69 (by kernel_rfl) (by kernel_rfl) (fun _ => by kernel_rfl) ev69
noncomputable def G20 : Env := (envCons 21 [] E21 (envCons 67 [] E67 (envCons 68 [] E68 (envCons 13 [] E13 (envCons 31 [] E31 (envCons 69 [] E69 envNil))))))
noncomputable def c20 : Code := bodyOf Tryz.f20
noncomputable def L.eqEng (a1 a2 a3 a4 a5 a6 a7 a8 : Int) (a9 : List Int) (a10 : List ty6) (a11 : List (Int × Int × Int)) (a12 : List ty10) (a13 : List (Int × Int × Int × Int)) (a14 : List (Int × Bool)) (a15 : List ty5) (a16 a17 : List Int) (a18 : List ty3) (a19 : List Int) (a20 : List ty6) (a21 : List (Int × Int × Int)) (a22 : List ty10) (a23 : List (Int × Int × Int × Int)) (a24 : List (Int × Bool)) (a25 : List ty5) (a26 a27 : List Int) (a28 : List ty3) : Option Bool :=
(Option.bind (L.eqConf a1 a2 a3 a5 a6 a7 a9 a10 a11 a12 a19 a20 a21 a22) fun r29 =>
(bif (!r29) then
(some false)
else
(Option.bind (L.eqPunctS a13 a23) fun r30 =>
(bif (!r30) then
(some false)
else
(Option.bind (L.eqMarks a4 a8 a14 a24) fun r31 =>
(bif (!r31) then
(some false)
else
(Option.bind (L.eqCellS a15 a25) fun r32 =>
(bif (!r32) then
(some false)
else
(Option.bind (L.eqIntS a16 a26) fun r33 =>
(bif (!r33) then
(some false)
else
(Option.bind (L.eqIntS a17 a27) fun r34 =>
(bif (!r34) then
(some false)
else
(Option.bind (L.eqBoxS a18 a28) fun r35 =>
(bif (!r35) then
(some false)
else
(some true)))))))))))))))
noncomputable def sg20 : Sg := ⟨⟨[.agg ((.hole) :: (.sl 0) :: (ho 2 [.sl 1, .sl 2, .sl 3, .sl 4, .hole, .sl 5, .sl 6, .sl 7, .sl 8, .sl 9])), .agg ((.hole) :: (.sl 10) :: (ho 2 [.sl 11, .sl 12, .sl 13, .sl 14, .hole, .sl 15, .sl 16, .sl 17, .sl 18, .sl 19]))], [], [(87, (.int .u64), .ro), (190, sh5, .ro), (126, sh3, .ro), (159, sh4, .ro), (156, sh9, .ro), (225, sh6, .ro), (105, sh10, .ro), (3, (.int .i64), .ro), (3, (.int .i64), .ro), (122, sh8, .ro), (87, (.int .u64), .ro), (190, sh5, .ro), (126, sh3, .ro), (159, sh4, .ro), (156, sh9, .ro), (225, sh6, .ro), (105, sh10, .ro), (3, (.int .i64), .ro), (3, (.int .i64), .ro), (122, sh8, .ro)]⟩, (ki 8 [.row (.int .u64), .row sh5, .row sh3, .row sh4, .row sh9, .row sh6, .row sh10, .row (.int .i64), .row (.int .i64), .row sh8, .row (.int .u64), .row sh5, .row sh3, .row sh4, .row sh9, .row sh6, .row sh10, .row (.int .i64), .row (.int .i64), .row sh8]), ⟨[hh], [], []⟩, [.bool]⟩
noncomputable def E20 : Fun2 := eOf sg20 L.eqEng
theorem ev20 (a : Args sg20.ks) : evS Tryz.prog G20 loopNil (0, 0) [] Tryz.f20 c20 (kOf sg20) (sg20.sk.fl (encP sg20.ks a)) = unc sg20.ks L.eqEng a := by kernel_rfl
theorem good20 : Vm.Good Tryz.prog 20 E20 := good_gen (G := G20) (L := loopNil) (c := c20) (rn := []) (N := (0, 0)) (envCons_good good21 (envCons_good good67 (envCons_good good68 (envCons_good good13 (envCons_good good31 (envCons_good good69 envNil_good)))))) (no_loops (c := c20) (by kernel_rfl)) Tryz.func20 (by kernel_rfl) (by kernel_rfl) (fun _ => by kernel_rfl) ev20
noncomputable def G93 : Env := envNil
noncomputable def c93 : Code := bodyOf Tryz.f93
noncomputable def c93_2 : Code := (loopsOf c93).getD 0 .skip
noncomputable def L.markUint64S_l0 : Nat → (Int → List Int → Option (Int × List Int)) → Int → Int → List Int → Option (Int × List Int)
  | 0, _, _, _, _ => none
  | m + 1, e2_0, a3, a4, a5 =>
    (bif (decide (a4 < (a5.length : Int))) then
    (bif decide ((0 : Int) ≤ a4 ∧ a4 < (a5.length : Int)) then
    (L.markUint64S_l0 m e2_0 (IntKind.wrap .i64 (a3 + 1)) (IntKind.wrap .i64 (a4 + 1)) (a5.set (Int.toNat a4) (IntKind.wrap .u64 a3)))
    else
    none)
    else
    (e2_0 a3 a5))
noncomputable def L.markUint64S (a1 : Int) (a2 : List Int) : Option (Int × List Int) :=
(L.markUint64S_l0 fu (fun y12 y13 =>
(some (y12, y13))) a1 0 a2)
noncomputable def H93_2 : LoopH := ⟨⟨((.one (.sl 0)) :: hh :: (hu 3 (hh :: (hu 14 [])))), [], [(87, (.int .u64), .own)]⟩, ([2, 3, 4] ++ rg 6 14), [], ([0, 2, 3] ++ rg 5 15), [], []⟩
noncomputable def k93_2 : List PK := (ki 2 [.row (.int .u64)])
noncomputable def W93_2 (m : Nat) (k : Kont (Int × List Int)) : Cur k93_2 (Option (Int × List Int)) := L.markUint64S_l0 m (exF k (.exit 0) ⟨((.one (.unk)) :: hh :: (hu 18 [])), [], [(87, (.int .u64), .own)]⟩ [.int .i64, .row (.int .u64)])
noncomputable def E93_2 (m : Nat) : List Prm → Kont (Int × List Int) → Option (Int × List Int) := eL k93_2 (W93_2 m)
theorem ev93_2 (m : Nat) (k : Kont (Int × List Int)) (a : Args k93_2) : evL Tryz.prog G93 loopNil c93_2 (turn Tryz.prog (0, 1) H93_2 (E93_2 m) k) (H93_2.sk.fl (encP k93_2 a)) = unc k93_2 (W93_2 (m + 1) k) a := by kernel_rfl
theorem ok93_2 (m : Nat) : LoopOk Tryz.prog (0, 1) c93_2 (enter Tryz.prog (0, 1) H93_2 (E93_2 m)) := loop_gen (Fl := W93_2) (G := G93) (L := loopNil) envNil_good (no_loops (c := c93_2) (by kernel_rfl)) (fun _ _ => by kernel_rfl) ev93_2 m
noncomputable def L93 : LEnv (Int × List Int) := (loopCons 2 (enter Tryz.prog (0, 1) H93_2 (E93_2 fu)) loopNil)
theorem lq93 : loopsOf c93 = [c93_2] := by kernel_rfl
theorem fr93_2 : firstReg c93_2 = some 2 := by kernel_rfl
theorem le93_2 : L93 2 = enter Tryz.prog (0, 1) H93_2 (E93_2 fu) := by kernel_rfl
theorem lm93 : ∀ x ∈ [c93_2], ∀ id, firstReg x = some id → LoopOk Tryz.prog (0, 1) x (L93 id) := (loops_cons fr93_2 le93_2 (ok93_2 fu) loops_nil)
theorem lp93 : ∀ x ∈ loopsOf c93, ∀ id, firstReg x = some id → LoopOk Tryz.prog (0, 1) x (L93 id) := loops_eq lq93 lm93
noncomputable def sg93 : Sg := ⟨⟨[.one (.sl 0), hh], [], [(87, (.int .u64), .own)]⟩, [.int .i64, .row (.int .u64)], ⟨[hh], [], [(87, (.int .u64), .own)]⟩, [.int .i64, .row (.int .u64)]⟩
noncomputable def E93 : Fun2 := eOf sg93 L.markUint64S
theorem ev93 (a : Args sg93.ks) : evS Tryz.prog G93 L93 (0, 1) [] Tryz.f93 c93 (kOf sg93) (sg93.sk.fl (encP sg93.ks a)) = unc sg93.ks L.markUint64S a := by kernel_rfl
theorem good93 : Vm.Good Tryz.prog 93 E93 := good_gen (G := G93) (L := L93) (c := c93) (rn := []) (N := (0, 1)) envNil_good lp93 Tryz.func93 (by kernel_rfl) (by kernel_rfl) (fun _ => by kernel_rfl) ev93
noncomputable def G32 : Env := (envCons 93 [0] E93 envNil)
noncomputable def c32 : Code := bodyOf Tryz.f32
noncomputable def L.markLat (a1 a2 : Int) (a3 : List Int) : Option (Int × List Int) :=
(Option.bind (L.markUint64S a2 a3) fun r4 =>
(some (r4.1, r4.2)))
noncomputable def sg32 : Sg := ⟨⟨[.agg [.hole, .sl 0], hh], [], [(87, (.int .u64), .own)]⟩, (ki 2 [.row (.int .u64)]), ⟨[hh], [], [(87, (.int .u64), .own)]⟩, [.int .i64, .row (.int .u64)]⟩
noncomputable def E32 : Fun2 := eOf sg32 L.markLat
theorem ev32 (a : Args sg32.ks) : evS Tryz.prog G32 loopNil (0, 1) [] Tryz.f32 c32 (kOf sg32) (sg32.sk.fl (encP sg32.ks a)) = unc sg32.ks L.markLat a := by kernel_rfl
theorem good32 : Vm.Good Tryz.prog 32 E32 := good_gen (G := G32) (L := loopNil) (c := c32) (rn := []) (N := (0, 1)) (envCons_good good93 envNil_good) (no_loops (c := c32) (by kernel_rfl)) Tryz.func32 (by kernel_rfl) (by kernel_rfl) (fun _ => by kernel_rfl) ev32
noncomputable def G156 : Env := envNil
noncomputable def c156 : Code := bodyOf Tryz.f156
noncomputable def c156_2 : Code := (loopsOf c156).getD 0 .skip
noncomputable def L.markTokS_l0 : Nat → (Int → (List (Int × Int)) → Option (Int × (List (Int × Int)))) → Int → Int → (List (Int × Int)) → Option (Int × (List (Int × Int)))
  | 0, _, _, _, _ => none
  | m + 1, e2_0, a3, a4, a5 =>
    (bif (decide (a4 < (a5.length : Int))) then
    (bif decide ((0 : Int) ≤ a4 ∧ a4 < (a5.length : Int)) then
    (let v8 : List (Int × Int) := (a5.set (Int.toNat a4) (a3, (nthI a5 a4 df2).2))
    (let v9 : Int := (IntKind.wrap .i64 (a3 + 1))
    (bif decide ((0 : Int) ≤ a4 ∧ a4 < (v8.length : Int)) then
    (let v10 : List (Int × Int) := (v8.set (Int.toNat a4) ((nthI v8 a4 df2).1, v9))
    (L.markTokS_l0 m e2_0 (IntKind.wrap .i64 (v9 + 1)) (IntKind.wrap .i64 (a4 + 1)) v10))
    else
    none)))
    else
    none)
    else
    (e2_0 a3 a5))
noncomputable def L.markTokS (a1 : Int) (a2 : List (Int × Int)) : Option (Int × (List (Int × Int))) :=
(L.markTokS_l0 fu (fun y13 y14 =>
(some (y13, y14))) a1 0 a2)
noncomputable def H156_2 : LoopH := ⟨⟨((.one (.sl 0)) :: hh :: (hu 3 (hh :: (hu 21 [])))), [], [(255, sh1, .own)]⟩, ([2, 3, 4] ++ rg 6 21), [], ([0, 2, 3] ++ rg 5 22), [], []⟩
noncomputable def k156_2 : List PK := (ki 2 [.row sh1])
noncomputable def W156_2 (m : Nat) (k : Kont (Int × (List (Int × Int)))) : Cur k156_2 (Option (Int × (List (Int × Int)))) := L.markTokS_l0 m (exF k (.exit 0) ⟨((.one (.unk)) :: hh :: (hu 25 [])), [], [(255, sh1, .own)]⟩ [.int .i64, .row sh1])
noncomputable def E156_2 (m : Nat) : List Prm → Kont (Int × (List (Int × Int))) → Option (Int × (List (Int × Int))) := eL k156_2 (W156_2 m)
theorem ev156_2 (m : Nat) (k : Kont (Int × (List (Int × Int)))) (a : Args k156_2) : evL Tryz.prog G156 loopNil c156_2 (turn Tryz.prog (0, 1) H156_2 (E156_2 m) k) (H156_2.sk.fl (encP k156_2 a)) = unc k156_2 (W156_2 (m + 1) k) a := by kernel_rfl
theorem ok156_2 (m : Nat) : LoopOk Tryz.prog (0, 1) c156_2 (enter Tryz.prog (0, 1) H156_2 (E156_2 m)) := loop_gen (Fl := W156_2) (G := G156) (L := loopNil) envNil_good (no_loops (c := c156_2) (by kernel_rfl)) (fun _ _ => by kernel_rfl) ev156_2 m
noncomputable def L156 : LEnv (Int × (List (Int × Int))) := (loopCons 2 (enter Tryz.prog (0, 1) H156_2 (E156_2 fu)) loopNil)
theorem lq156 : loopsOf c156 = [c156_2] := by kernel_rfl
theorem fr156_2 : firstReg c156_2 = some 2 := by kernel_rfl
theorem le156_2 : L156 2 = enter Tryz.prog (0, 1) H156_2 (E156_2 fu) := by kernel_rfl
theorem lm156 : ∀ x ∈ [c156_2], ∀ id, firstReg x = some id → LoopOk Tryz.prog (0, 1) x (L156 id) := (loops_cons fr156_2 le156_2 (ok156_2 fu) loops_nil)
theorem lp156 : ∀ x ∈ loopsOf c156, ∀ id, firstReg x = some id → LoopOk Tryz.prog (0, 1) x (L156 id) := loops_eq lq156 lm156
noncomputable def sg156 : Sg := ⟨⟨[.one (.sl 0), hh], [], [(255, sh1, .own)]⟩, [.int .i64, .row sh1], ⟨[hh], [], [(255, sh1, .own)]⟩, [.int .i64, .row sh1]⟩
noncomputable def E156 : Fun2 := eOf sg156 L.markTokS
theorem ev156 (a : Args sg156.ks) : evS Tryz.prog G156 L156 (0, 1) [] Tryz.f156 c156 (kOf sg156) (sg156.sk.fl (encP sg156.ks a)) = unc sg156.ks L.markTokS a := by kernel_rfl
theorem good156 : Vm.Good Tryz.prog 156 E156 := good_gen (G := G156) (L := L156) (c := c156) (rn := []) (N := (0, 1)) envNil_good lp156 Tryz.func156 (by kernel_rfl) (by kernel_rfl) (fun _ => by kernel_rfl) ev156
noncomputable def G73 : Env := (envCons 156 [0] E156 envNil)
noncomputable def c73 : Code := bodyOf Tryz.f73
noncomputable def c73_2 : Code := (loopsOf c73).getD 0 .skip
noncomputable def L.markQueryS_l0 : Nat → (Int → (List ty6) → Option (Int × (List ty6))) → Int → Int → (List ty6) → Option (Int × (List ty6))
  | 0, _, _, _, _ => none
  | m + 1, e2_0, a3, a4, a5 =>
    (bif (decide (a4 < (a5.length : Int))) then
    (bif decide ((0 : Int) ≤ a4 ∧ a4 < (a5.length : Int)) then
    (Option.bind (L.markTokS a3 ((nthI a5 a4 ([], ([], (df1, df2)))).1)) fun r8 =>
    (let v9 : List ty6 := (a5.set (Int.toNat a4) (r8.2, (nthI a5 a4 ([], ([], (df1, df2)))).2))
    (bif decide ((0 : Int) ≤ a4 ∧ a4 < (v9.length : Int)) then
    (Option.bind (L.markTokS r8.1 ((nthI v9 a4 ([], ([], (df1, df2)))).2.1)) fun r10 =>
    (let v11 : List ty6 := (v9.set (Int.toNat a4) ((nthI v9 a4 ([], ([], (df1, df2)))).1, (r10.2, (nthI v9 a4 ([], ([], (df1, df2)))).2.2)))
    (bif decide ((0 : Int) ≤ a4 ∧ a4 < (v11.length : Int)) then
    (let v12 : List ty6 := (v11.set (Int.toNat a4) ((nthI v11 a4 ([], ([], (df1, df2)))).1, ((nthI v11 a4 ([], ([], (df1, df2)))).2.1, ((r10.1, (nthI v11 a4 ([], ([], (df1, df2)))).2.2.1.2), (nthI v11 a4 ([], ([], (df1, df2)))).2.2.2))))
    (let v13 : Int := (IntKind.wrap .i64 (r10.1 + 1))
    (bif decide ((0 : Int) ≤ a4 ∧ a4 < (v12.length : Int)) then
    (let v14 : List ty6 := (v12.set (Int.toNat a4) ((nthI v12 a4 ([], ([], (df1, df2)))).1, ((nthI v12 a4 ([], ([], (df1, df2)))).2.1, (((nthI v12 a4 ([], ([], (df1, df2)))).2.2.1.1, (v13, (nthI v12 a4 ([], ([], (df1, df2)))).2.2.1.2.2)), (nthI v12 a4 ([], ([], (df1, df2)))).2.2.2))))
    (let v15 : Int := (IntKind.wrap .i64 (v13 + 1))
    (bif decide ((0 : Int) ≤ a4 ∧ a4 < (v14.length : Int)) then
    (let v16 : List ty6 := (v14.set (Int.toNat a4) ((nthI v14 a4 ([], ([], (df1, df2)))).1, ((nthI v14 a4 ([], ([], (df1, df2)))).2.1, (((nthI v14 a4 ([], ([], (df1, df2)))).2.2.1.1, ((nthI v14 a4 ([], ([], (df1, df2)))).2.2.1.2.1, v15)), (nthI v14 a4 ([], ([], (df1, df2)))).2.2.2))))
    (let v17 : Int := (IntKind.wrap .i64 (v15 + 1))
    (bif decide ((0 : Int) ≤ a4 ∧ a4 < (v16.length : Int)) then
    (let v18 : List ty6 := (v16.set (Int.toNat a4) ((nthI v16 a4 ([], ([], (df1, df2)))).1, ((nthI v16 a4 ([], ([], (df1, df2)))).2.1, ((nthI v16 a4 ([], ([], (df1, df2)))).2.2.1, (v17, (nthI v16 a4 ([], ([], (df1, df2)))).2.2.2.2)))))
    (let v19 : Int := (IntKind.wrap .i64 (v17 + 1))
    (bif decide ((0 : Int) ≤ a4 ∧ a4 < (v18.length : Int)) then
    (let v20 : List ty6 := (v18.set (Int.toNat a4) ((nthI v18 a4 ([], ([], (df1, df2)))).1, ((nthI v18 a4 ([], ([], (df1, df2)))).2.1, ((nthI v18 a4 ([], ([], (df1, df2)))).2.2.1, ((nthI v18 a4 ([], ([], (df1, df2)))).2.2.2.1, v19)))))
    (L.markQueryS_l0 m e2_0 (IntKind.wrap .i64 (v19 + 1)) (IntKind.wrap .i64 (a4 + 1)) v20))
    else
    none)))
    else
    none)))
    else
    none)))
    else
    none)))
    else
    none)))
    else
    none)))
    else
    none)
    else
    (e2_0 a3 a5))
noncomputable def L.markQueryS (a1 : Int) (a2 : List ty6) : Option (Int × (List ty6)) :=
(L.markQueryS_l0 fu (fun y23 y24 =>
(some (y23, y24))) a1 0 a2)
noncomputable def H73_2 : LoopH := ⟨⟨((.one (.sl 0)) :: hh :: (hu 3 (hh :: (hu 59 [])))), [], [(190, sh5, .own)]⟩, ([2, 3, 4] ++ rg 6 59), [], ([0, 2, 3] ++ rg 5 60), [], []⟩
noncomputable def k73_2 : List PK := (ki 2 [.row sh5])
noncomputable def W73_2 (m : Nat) (k : Kont (Int × (List ty6))) : Cur k73_2 (Option (Int × (List ty6))) := L.markQueryS_l0 m (exF k (.exit 0) ⟨((.one (.unk)) :: hh :: (hu 63 [])), [], [(190, sh5, .own)]⟩ [.int .i64, .row sh5])
noncomputable def E73_2 (m : Nat) : List Prm → Kont (Int × (List ty6)) → Option (Int × (List ty6)) := eL k73_2 (W73_2 m)
theorem ev73_2 (m : Nat) (k : Kont (Int × (List ty6))) (a : Args k73_2) : evL Tryz.prog G73 loopNil c73_2 (turn Tryz.prog (0, 1) H73_2 (E73_2 m) k) (H73_2.sk.fl (encP k73_2 a)) = unc k73_2 (W73_2 (m + 1) k) a := by kernel_rfl
theorem ok73_2 (m : Nat) : LoopOk Tryz.prog (0, 1) c73_2 (enter Tryz.prog (0, 1) H73_2 (E73_2 m)) := loop_gen (Fl := W73_2) (G := G73) (L := loopNil) (envCons_good good156 envNil_good) (no_loops (c := c73_2) (by kernel_rfl)) (fun _ _ => by kernel_rfl) ev73_2 m
noncomputable def L73 : LEnv (Int × (List ty6)) := (loopCons 2 (enter Tryz.prog (0, 1) H73_2 (E73_2 fu)) loopNil)
theorem lq73 : loopsOf c73 = [c73_2] := by kernel_rfl
theorem fr73_2 : firstReg c73_2 = some 2 := by kernel_rfl
theorem le73_2 : L73 2 = enter Tryz.prog (0, 1) H73_2 (E73_2 fu) := by kernel_rfl
theorem lm73 : ∀ x ∈ [c73_2], ∀ id, firstReg x = some id → LoopOk Tryz.prog (0, 1) x (L73 id) := (loops_cons fr73_2 le73_2 (ok73_2 fu) loops_nil)
theorem lp73 : ∀ x ∈ loopsOf c73, ∀ id, firstReg x = some id → LoopOk Tryz.prog (0, 1) x (L73 id) := loops_eq lq73 lm73
noncomputable def sg73 : Sg := ⟨⟨[.one (.sl 0), hh], [], [(190, sh5, .own)]⟩, [.int .i64, .row sh5], ⟨[hh], [], [(190, sh5, .own)]⟩, [.int .i64, .row sh5]⟩
noncomputable def E73 : Fun2 := eOf sg73 L.markQueryS
theorem ev73 (a : Args sg73.ks) : evS Tryz.prog G73 L73 (0, 1) [] Tryz.f73 c73 (kOf sg73) (sg73.sk.fl (encP sg73.ks a)) = unc sg73.ks L.markQueryS a := by kernel_rfl
theorem good73 : Vm.Good Tryz.prog 73 E73 := good_gen (G := G73) (L := L73) (c := c73) (rn := []) (N := (0, 1)) (envCons_good good156 envNil_good) lp73 Tryz.func73 (by kernel_rfl) (by kernel_rfl) (fun _ => by kernel_rfl) ev73
noncomputable def G74 : Env := envNil
noncomputable def c74 : Code := bodyOf Tryz.f74
noncomputable def c74_2 : Code := (loopsOf c74).getD 0 .skip
noncomputable def L.markSubS_l0 : Nat → (Int → (List (Int × Int × Int)) → Option (Int × (List (Int × Int × Int)))) → Int → Int → (List (Int × Int × Int)) → Option (Int × (List (Int × Int × Int)))
  | 0, _, _, _, _ => none
  | m + 1, e2_0, a3, a4, a5 =>
    (bif (decide (a4 < (a5.length : Int))) then
    (bif decide ((0 : Int) ≤ a4 ∧ a4 < (a5.length : Int)) then
    (let v8 : List (Int × Int × Int) := (a5.set (Int.toNat a4) (a3, (nthI a5 a4 df1).2))
    (let v9 : Int := (IntKind.wrap .i64 (a3 + 1))
    (bif decide ((0 : Int) ≤ a4 ∧ a4 < (v8.length : Int)) then
    (let v10 : List (Int × Int × Int) := (v8.set (Int.toNat a4) ((nthI v8 a4 df1).1, (v9, (nthI v8 a4 df1).2.2)))
    (let v11 : Int := (IntKind.wrap .i64 (v9 + 1))
    (bif decide ((0 : Int) ≤ a4 ∧ a4 < (v10.length : Int)) then
    (let v12 : List (Int × Int × Int) := (v10.set (Int.toNat a4) ((nthI v10 a4 df1).1, ((nthI v10 a4 df1).2.1, v11)))
    (L.markSubS_l0 m e2_0 (IntKind.wrap .i64 (v11 + 1)) (IntKind.wrap .i64 (a4 + 1)) v12))
    else
    none)))
    else
    none)))
    else
    none)
    else
    (e2_0 a3 a5))
noncomputable def L.markSubS (a1 : Int) (a2 : List (Int × Int × Int)) : Option (Int × (List (Int × Int × Int))) :=
(L.markSubS_l0 fu (fun y15 y16 =>
(some (y15, y16))) a1 0 a2)
noncomputable def H74_2 : LoopH := ⟨⟨((.one (.sl 0)) :: hh :: (hu 3 (hh :: (hu 28 [])))), [], [(126, sh3, .own)]⟩, ([2, 3, 4] ++ rg 6 28), [], ([0, 2, 3] ++ rg 5 29), [], []⟩
noncomputable def k74_2 : List PK := (ki 2 [.row sh3])
noncomputable def W74_2 (m : Nat) (k : Kont (Int × (List (Int × Int × Int)))) : Cur k74_2 (Option (Int × (List (Int × Int × Int)))) := L.markSubS_l0 m (exF k (.exit 0) ⟨((.one (.unk)) :: hh :: (hu 32 [])), [], [(126, sh3, .own)]⟩ [.int .i64, .row sh3])
noncomputable def E74_2 (m : Nat) : List Prm → Kont (Int × (List (Int × Int × Int))) → Option (Int × (List (Int × Int × Int))) := eL k74_2 (W74_2 m)
theorem ev74_2 (m : Nat) (k : Kont (Int × (List (Int × Int × Int)))) (a : Args k74_2) : evL Tryz.prog G74 loopNil c74_2 (turn Tryz.prog (0, 1) H74_2 (E74_2 m) k) (H74_2.sk.fl (encP k74_2 a)) = unc k74_2 (W74_2 (m + 1) k) a := by kernel_rfl
theorem ok74_2 (m : Nat) : LoopOk Tryz.prog (0, 1) c74_2 (enter Tryz.prog (0, 1) H74_2 (E74_2 m)) := loop_gen (Fl := W74_2) (G := G74) (L := loopNil) envNil_good (no_loops (c := c74_2) (by kernel_rfl)) (fun _ _ => by kernel_rfl) ev74_2 m
noncomputable def L74 : LEnv (Int × (List (Int × Int × Int))) := (loopCons 2 (enter Tryz.prog (0, 1) H74_2 (E74_2 fu)) loopNil)
theorem lq74 : loopsOf c74 = [c74_2] := by kernel_rfl
theorem fr74_2 : firstReg c74_2 = some 2 := by kernel_rfl
theorem le74_2 : L74 2 = enter Tryz.prog (0, 1) H74_2 (E74_2 fu) := by kernel_rfl
theorem lm74 : ∀ x ∈ [c74_2], ∀ id, firstReg x = some id → LoopOk Tryz.prog (0, 1) x (L74 id) := (loops_cons fr74_2 le74_2 (ok74_2 fu) loops_nil)
theorem lp74 : ∀ x ∈ loopsOf c74, ∀ id, firstReg x = some id → LoopOk Tryz.prog (0, 1) x (L74 id) := loops_eq lq74 lm74
noncomputable def sg74 : Sg := ⟨⟨[.one (.sl 0), hh], [], [(126, sh3, .own)]⟩, [.int .i64, .row sh3], ⟨[hh], [], [(126, sh3, .own)]⟩, [.int .i64, .row sh3]⟩
noncomputable def E74 : Fun2 := eOf sg74 L.markSubS
theorem ev74 (a : Args sg74.ks) : evS Tryz.prog G74 L74 (0, 1) [] Tryz.f74 c74 (kOf sg74) (sg74.sk.fl (encP sg74.ks a)) = unc sg74.ks L.markSubS a := by kernel_rfl
theorem good74 : Vm.Good Tryz.prog 74 E74 := good_gen (G := G74) (L := L74) (c := c74) (rn := []) (N := (0, 1)) envNil_good lp74 Tryz.func74 (by kernel_rfl) (by kernel_rfl) (fun _ => by kernel_rfl) ev74
noncomputable def G75 : Env := envNil
noncomputable def c75 : Code := bodyOf Tryz.f75
noncomputable def c75_2 : Code := (loopsOf c75).getD 0 .skip
noncomputable def L.markRuleS_l0 : Nat → (Int → (List ty10) → Option (Int × (List ty10))) → Int → Int → (List ty10) → Option (Int × (List ty10))
  | 0, _, _, _, _ => none
  | m + 1, e2_0, a3, a4, a5 =>
    (bif (decide (a4 < (a5.length : Int))) then
    (bif decide ((0 : Int) ≤ a4 ∧ a4 < (a5.length : Int)) then
    (let v8 : List ty10 := (a5.set (Int.toNat a4) (a3, (nthI a5 a4 df3).2))
    (let v9 : Int := (IntKind.wrap .i64 (a3 + 1))
    (bif decide ((0 : Int) ≤ a4 ∧ a4 < (v8.length : Int)) then
    (let v10 : List ty10 := (v8.set (Int.toNat a4) ((nthI v8 a4 df3).1, (v9, (nthI v8 a4 df3).2.2)))
    (let v11 : Int := (IntKind.wrap .i64 (v9 + 1))
    (bif decide ((0 : Int) ≤ a4 ∧ a4 < (v10.length : Int)) then
    (let v12 : List ty10 := (v10.set (Int.toNat a4) ((nthI v10 a4 df3).1, ((nthI v10 a4 df3).2.1, (v11, (nthI v10 a4 df3).2.2.2))))
    (let v13 : Int := (IntKind.wrap .i64 (v11 + 1))
    (bif decide ((0 : Int) ≤ a4 ∧ a4 < (v12.length : Int)) then
    (let v14 : List ty10 := (v12.set (Int.toNat a4) ((nthI v12 a4 df3).1, ((nthI v12 a4 df3).2.1, ((nthI v12 a4 df3).2.2.1, (v13, (nthI v12 a4 df3).2.2.2.2)))))
    (let v15 : Int := (IntKind.wrap .i64 (v13 + 1))
    (bif decide ((0 : Int) ≤ a4 ∧ a4 < (v14.length : Int)) then
    (let v16 : List ty10 := (v14.set (Int.toNat a4) ((nthI v14 a4 df3).1, ((nthI v14 a4 df3).2.1, ((nthI v14 a4 df3).2.2.1, ((nthI v14 a4 df3).2.2.2.1, v15)))))
    (L.markRuleS_l0 m e2_0 (IntKind.wrap .i64 (v15 + 1)) (IntKind.wrap .i64 (a4 + 1)) v16))
    else
    none)))
    else
    none)))
    else
    none)))
    else
    none)))
    else
    none)
    else
    (e2_0 a3 a5))
noncomputable def L.markRuleS (a1 : Int) (a2 : List ty10) : Option (Int × (List ty10)) :=
(L.markRuleS_l0 fu (fun y19 y20 =>
(some (y19, y20))) a1 0 a2)
noncomputable def H75_2 : LoopH := ⟨⟨((.one (.sl 0)) :: hh :: (hu 3 (hh :: (hu 42 [])))), [], [(159, sh4, .own)]⟩, ([2, 3, 4] ++ rg 6 42), [], ([0, 2, 3] ++ rg 5 43), [], []⟩
noncomputable def k75_2 : List PK := (ki 2 [.row sh4])
noncomputable def W75_2 (m : Nat) (k : Kont (Int × (List ty10))) : Cur k75_2 (Option (Int × (List ty10))) := L.markRuleS_l0 m (exF k (.exit 0) ⟨((.one (.unk)) :: hh :: (hu 46 [])), [], [(159, sh4, .own)]⟩ [.int .i64, .row sh4])
noncomputable def E75_2 (m : Nat) : List Prm → Kont (Int × (List ty10)) → Option (Int × (List ty10)) := eL k75_2 (W75_2 m)
theorem ev75_2 (m : Nat) (k : Kont (Int × (List ty10))) (a : Args k75_2) : evL Tryz.prog G75 loopNil c75_2 (turn Tryz.prog (0, 1) H75_2 (E75_2 m) k) (H75_2.sk.fl (encP k75_2 a)) = unc k75_2 (W75_2 (m + 1) k) a := by kernel_rfl
theorem ok75_2 (m : Nat) : LoopOk Tryz.prog (0, 1) c75_2 (enter Tryz.prog (0, 1) H75_2 (E75_2 m)) := loop_gen (Fl := W75_2) (G := G75) (L := loopNil) envNil_good (no_loops (c := c75_2) (by kernel_rfl)) (fun _ _ => by kernel_rfl) ev75_2 m
noncomputable def L75 : LEnv (Int × (List ty10)) := (loopCons 2 (enter Tryz.prog (0, 1) H75_2 (E75_2 fu)) loopNil)
theorem lq75 : loopsOf c75 = [c75_2] := by kernel_rfl
theorem fr75_2 : firstReg c75_2 = some 2 := by kernel_rfl
theorem le75_2 : L75 2 = enter Tryz.prog (0, 1) H75_2 (E75_2 fu) := by kernel_rfl
theorem lm75 : ∀ x ∈ [c75_2], ∀ id, firstReg x = some id → LoopOk Tryz.prog (0, 1) x (L75 id) := (loops_cons fr75_2 le75_2 (ok75_2 fu) loops_nil)
theorem lp75 : ∀ x ∈ loopsOf c75, ∀ id, firstReg x = some id → LoopOk Tryz.prog (0, 1) x (L75 id) := loops_eq lq75 lm75
noncomputable def sg75 : Sg := ⟨⟨[.one (.sl 0), hh], [], [(159, sh4, .own)]⟩, [.int .i64, .row sh4], ⟨[hh], [], [(159, sh4, .own)]⟩, [.int .i64, .row sh4]⟩
noncomputable def E75 : Fun2 := eOf sg75 L.markRuleS
theorem ev75 (a : Args sg75.ks) : evS Tryz.prog G75 L75 (0, 1) [] Tryz.f75 c75 (kOf sg75) (sg75.sk.fl (encP sg75.ks a)) = unc sg75.ks L.markRuleS a := by kernel_rfl
theorem good75 : Vm.Good Tryz.prog 75 E75 := good_gen (G := G75) (L := L75) (c := c75) (rn := []) (N := (0, 1)) envNil_good lp75 Tryz.func75 (by kernel_rfl) (by kernel_rfl) (fun _ => by kernel_rfl) ev75
noncomputable def G22 : Env := (envCons 32 [1] E32 (envCons 73 [0] E73 (envCons 74 [0] E74 (envCons 75 [0] E75 envNil))))
noncomputable def c22 : Code := bodyOf Tryz.f22
noncomputable def L.markConf (a1 a2 a3 a4 : Int) (a5 : List Int) (a6 : List ty6) (a7 : List (Int × Int × Int)) (a8 : List ty10) : Option (Int × List Int × (List ty6) × (List (Int × Int × Int)) × (List ty10)) :=
(Option.bind (L.markLat a1 a4 a5) fun r9 =>
(Option.bind (L.markQueryS r9.1 a6) fun r10 =>
(Option.bind (L.markSubS r10.1 a7) fun r11 =>
(Option.bind (L.markRuleS r11.1 a8) fun r12 =>
(some (r12.1, r9.2, r10.2, r11.2, r12.2))))))
noncomputable def sg22 : Sg := ⟨⟨[.agg ((.hole) :: (.sl 0) :: (ho 2 [.sl 1, .sl 2, .sl 3])), hh], [], [(87, (.int .u64), .own), (190, sh5, .own), (126, sh3, .own), (159, sh4, .own)]⟩, (ki 4 [.row (.int .u64), .row sh5, .row sh3, .row sh4]), ⟨[hh], [], [(87, (.int .u64), .own), (190, sh5, .own), (126, sh3, .own), (159, sh4, .own)]⟩, [.int .i64, .row (.int .u64), .row sh5, .row sh3, .row sh4]⟩
noncomputable def E22 : Fun2 := eOf sg22 L.markConf
theorem ev22 (a : Args sg22.ks) : evS Tryz.prog G22 loopNil (0, 4) [] Tryz.f22 c22 (kOf sg22) (sg22.sk.fl (encP sg22.ks a)) = unc sg22.ks L.markConf a := by kernel_rfl
theorem good22 : Vm.Good Tryz.prog 22 E22 := good_gen (G := G22) (L := loopNil) (c := c22) (rn := []) (N := (0, 4)) (envCons_good good32 (envCons_good good73 (envCons_good good74 (envCons_good good75 envNil_good)))) (no_loops (c := c22) (by kernel_rfl)) Tryz.func22 (by kernel_rfl) (by kernel_rfl) (fun _ => by kernel_rfl) ev22
noncomputable def G76 : Env := envNil
noncomputable def c76 : Code := bodyOf Tryz.f76
noncomputable def c76_2 : Code := (loopsOf c76).getD 0 .skip
noncomputable def L.markPunctS_l0 : Nat → (Int → (List (Int × Int × Int × Int)) → Option (Int × (List (Int × Int × Int × Int)))) → Int → Int → (List (Int × Int × Int × Int)) → Option (Int × (List (Int × Int × Int × Int)))
  | 0, _, _, _, _ => none
  | m + 1, e2_0, a3, a4, a5 =>
    (bif (decide (a4 < (a5.length : Int))) then
    (bif decide ((0 : Int) ≤ a4 ∧ a4 < (a5.length : Int)) then
    (let v8 : List (Int × Int × Int × Int) := (a5.set (Int.toNat a4) (a3, (nthI a5 a4 df4).2))
    (let v9 : Int := (IntKind.wrap .i64 (a3 + 1))
    (bif decide ((0 : Int) ≤ a4 ∧ a4 < (v8.length : Int)) then
    (let v10 : List (Int × Int × Int × Int) := (v8.set (Int.toNat a4) ((nthI v8 a4 df4).1, (v9, (nthI v8 a4 df4).2.2)))
    (let v11 : Int := (IntKind.wrap .i64 (v9 + 1))
    (bif decide ((0 : Int) ≤ a4 ∧ a4 < (v10.length : Int)) then
    (let v12 : List (Int × Int × Int × Int) := (v10.set (Int.toNat a4) ((nthI v10 a4 df4).1, ((nthI v10 a4 df4).2.1, (v11, (nthI v10 a4 df4).2.2.2))))
    (let v13 : Int := (IntKind.wrap .i64 (v11 + 1))
    (bif decide ((0 : Int) ≤ a4 ∧ a4 < (v12.length : Int)) then
    (let v14 : List (Int × Int × Int × Int) := (v12.set (Int.toNat a4) ((nthI v12 a4 df4).1, ((nthI v12 a4 df4).2.1, ((nthI v12 a4 df4).2.2.1, v13))))
    (L.markPunctS_l0 m e2_0 (IntKind.wrap .i64 (v13 + 1)) (IntKind.wrap .i64 (a4 + 1)) v14))
    else
    none)))
    else
    none)))
    else
    none)))
    else
    none)
    else
    (e2_0 a3 a5))
noncomputable def L.markPunctS (a1 : Int) (a2 : List (Int × Int × Int × Int)) : Option (Int × (List (Int × Int × Int × Int))) :=
(L.markPunctS_l0 fu (fun y17 y18 =>
(some (y17, y18))) a1 0 a2)
noncomputable def H76_2 : LoopH := ⟨⟨((.one (.sl 0)) :: hh :: (hu 3 (hh :: (hu 35 [])))), [], [(156, sh9, .own)]⟩, ([2, 3, 4] ++ rg 6 35), [], ([0, 2, 3] ++ rg 5 36), [], []⟩
noncomputable def k76_2 : List PK := (ki 2 [.row sh9])
noncomputable def W76_2 (m : Nat) (k : Kont (Int × (List (Int × Int × Int × Int)))) : Cur k76_2 (Option (Int × (List (Int × Int × Int × Int)))) := L.markPunctS_l0 m (exF k (.exit 0) ⟨((.one (.unk)) :: hh :: (hu 39 [])), [], [(156, sh9, .own)]⟩ [.int .i64, .row sh9])
noncomputable def E76_2 (m : Nat) : List Prm → Kont (Int × (List (Int × Int × Int × Int))) → Option (Int × (List (Int × Int × Int × Int))) := eL k76_2 (W76_2 m)
theorem ev76_2 (m : Nat) (k : Kont (Int × (List (Int × Int × Int × Int)))) (a : Args k76_2) : evL Tryz.prog G76 loopNil c76_2 (turn Tryz.prog (0, 1) H76_2 (E76_2 m) k) (H76_2.sk.fl (encP k76_2 a)) = unc k76_2 (W76_2 (m + 1) k) a := by kernel_rfl
theorem ok76_2 (m : Nat) : LoopOk Tryz.prog (0, 1) c76_2 (enter Tryz.prog (0, 1) H76_2 (E76_2 m)) := loop_gen (Fl := W76_2) (G := G76) (L := loopNil) envNil_good (no_loops (c := c76_2) (by kernel_rfl)) (fun _ _ => by kernel_rfl) ev76_2 m
noncomputable def L76 : LEnv (Int × (List (Int × Int × Int × Int))) := (loopCons 2 (enter Tryz.prog (0, 1) H76_2 (E76_2 fu)) loopNil)
theorem lq76 : loopsOf c76 = [c76_2] := by kernel_rfl
theorem fr76_2 : firstReg c76_2 = some 2 := by kernel_rfl
theorem le76_2 : L76 2 = enter Tryz.prog (0, 1) H76_2 (E76_2 fu) := by kernel_rfl
theorem lm76 : ∀ x ∈ [c76_2], ∀ id, firstReg x = some id → LoopOk Tryz.prog (0, 1) x (L76 id) := (loops_cons fr76_2 le76_2 (ok76_2 fu) loops_nil)
theorem lp76 : ∀ x ∈ loopsOf c76, ∀ id, firstReg x = some id → LoopOk Tryz.prog (0, 1) x (L76 id) := loops_eq lq76 lm76
noncomputable def sg76 : Sg := ⟨⟨[.one (.sl 0), hh], [], [(156, sh9, .own)]⟩, [.int .i64, .row sh9], ⟨[hh], [], [(156, sh9, .own)]⟩, [.int .i64, .row sh9]⟩
noncomputable def E76 : Fun2 := eOf sg76 L.markPunctS
theorem ev76 (a : Args sg76.ks) : evS Tryz.prog G76 L76 (0, 1) [] Tryz.f76 c76 (kOf sg76) (sg76.sk.fl (encP sg76.ks a)) = unc sg76.ks L.markPunctS a := by kernel_rfl
theorem good76 : Vm.Good Tryz.prog 76 E76 := good_gen (G := G76) (L := L76) (c := c76) (rn := []) (N := (0, 1)) envNil_good lp76 Tryz.func76 (by kernel_rfl) (by kernel_rfl) (fun _ => by kernel_rfl) ev76
noncomputable def G157 : Env := envNil
noncomputable def c157 : Code := bodyOf Tryz.f157
noncomputable def c157_2 : Code := (loopsOf c157).getD 0 .skip
noncomputable def L.markMarkS_l0 : Nat → (Int → (List (Int × Bool)) → Option (Int × (List (Int × Bool)))) → Int → Int → (List (Int × Bool)) → Option (Int × (List (Int × Bool)))
  | 0, _, _, _, _ => none
  | m + 1, e2_0, a3, a4, a5 =>
    (bif (decide (a4 < (a5.length : Int))) then
    (bif decide ((0 : Int) ≤ a4 ∧ a4 < (a5.length : Int)) then
    (let v8 : List (Int × Bool) := (a5.set (Int.toNat a4) (a3, (nthI a5 a4 df5).2))
    (let v9 : Int := (IntKind.wrap .i64 (a3 + 1))
    (bif decide (3 = 0) then
    none
    else
    (bif decide ((0 : Int) ≤ a4 ∧ a4 < (v8.length : Int)) then
    (let v11 : List (Int × Bool) := (v8.set (Int.toNat a4) ((nthI v8 a4 df5).1, ((Int.tmod v9 3) == 0)))
    (L.markMarkS_l0 m e2_0 (IntKind.wrap .i64 (v9 + 1)) (IntKind.wrap .i64 (a4 + 1)) v11))
    else
    none))))
    else
    none)
    else
    (e2_0 a3 a5))
noncomputable def L.markMarkS (a1 : Int) (a2 : List (Int × Bool)) : Option (Int × (List (Int × Bool))) :=
(L.markMarkS_l0 fu (fun y14 y15 =>
(some (y14, y15))) a1 0 a2)
noncomputable def H157_2 : LoopH := ⟨⟨((.one (.sl 0)) :: hh :: (hu 3 (hh :: (hu 23 [])))), [], [(225, sh6, .own)]⟩, ([2, 3, 4] ++ rg 6 23), [], ([0, 2, 3] ++ rg 5 24), [], []⟩
noncomputable def k157_2 : List PK := (ki 2 [.row sh6])
noncomputable def W157_2 (m : Nat) (k : Kont (Int × (List (Int × Bool)))) : Cur k157_2 (Option (Int × (List (Int × Bool)))) := L.markMarkS_l0 m (exF k (.exit 0) ⟨((.one (.unk)) :: hh :: (hu 27 [])), [], [(225, sh6, .own)]⟩ [.int .i64, .row sh6])
noncomputable def E157_2 (m : Nat) : List Prm → Kont (Int × (List (Int × Bool))) → Option (Int × (List (Int × Bool))) := eL k157_2 (W157_2 m)
theorem ev157_2 (m : Nat) (k : Kont (Int × (List (Int × Bool)))) (a : Args k157_2) : evL Tryz.prog G157 loopNil c157_2 (turn Tryz.prog (0, 1) H157_2 (E157_2 m) k) (H157_2.sk.fl (encP k157_2 a)) = unc k157_2 (W157_2 (m + 1) k) a := by kernel_rfl
theorem ok157_2 (m : Nat) : LoopOk Tryz.prog (0, 1) c157_2 (enter Tryz.prog (0, 1) H157_2 (E157_2 m)) := loop_gen (Fl := W157_2) (G := G157) (L := loopNil) envNil_good (no_loops (c := c157_2) (by kernel_rfl)) (fun _ _ => by kernel_rfl) ev157_2 m
noncomputable def L157 : LEnv (Int × (List (Int × Bool))) := (loopCons 2 (enter Tryz.prog (0, 1) H157_2 (E157_2 fu)) loopNil)
theorem lq157 : loopsOf c157 = [c157_2] := by kernel_rfl
theorem fr157_2 : firstReg c157_2 = some 2 := by kernel_rfl
theorem le157_2 : L157 2 = enter Tryz.prog (0, 1) H157_2 (E157_2 fu) := by kernel_rfl
theorem lm157 : ∀ x ∈ [c157_2], ∀ id, firstReg x = some id → LoopOk Tryz.prog (0, 1) x (L157 id) := (loops_cons fr157_2 le157_2 (ok157_2 fu) loops_nil)
theorem lp157 : ∀ x ∈ loopsOf c157, ∀ id, firstReg x = some id → LoopOk Tryz.prog (0, 1) x (L157 id) := loops_eq lq157 lm157
noncomputable def sg157 : Sg := ⟨⟨[.one (.sl 0), hh], [], [(225, sh6, .own)]⟩, [.int .i64, .row sh6], ⟨[hh], [], [(225, sh6, .own)]⟩, [.int .i64, .row sh6]⟩
noncomputable def E157 : Fun2 := eOf sg157 L.markMarkS
theorem ev157 (a : Args sg157.ks) : evS Tryz.prog G157 L157 (0, 1) [] Tryz.f157 c157 (kOf sg157) (sg157.sk.fl (encP sg157.ks a)) = unc sg157.ks L.markMarkS a := by kernel_rfl
theorem good157 : Vm.Good Tryz.prog 157 E157 := good_gen (G := G157) (L := L157) (c := c157) (rn := []) (N := (0, 1)) envNil_good lp157 Tryz.func157 (by kernel_rfl) (by kernel_rfl) (fun _ => by kernel_rfl) ev157
noncomputable def G77 : Env := (envCons 157 [0] E157 envNil)
noncomputable def c77 : Code := bodyOf Tryz.f77
noncomputable def L.markMarks (a1 a2 : Int) (a3 : List (Int × Bool)) : Option (Int × (List (Int × Bool))) :=
(Option.bind (L.markMarkS a2 a3) fun r4 =>
(some (r4.1, r4.2)))
noncomputable def sg77 : Sg := ⟨⟨[.agg [.hole, .sl 0], hh], [], [(225, sh6, .own)]⟩, (ki 2 [.row sh6]), ⟨[hh], [], [(225, sh6, .own)]⟩, [.int .i64, .row sh6]⟩
noncomputable def E77 : Fun2 := eOf sg77 L.markMarks
theorem ev77 (a : Args sg77.ks) : evS Tryz.prog G77 loopNil (0, 1) [] Tryz.f77 c77 (kOf sg77) (sg77.sk.fl (encP sg77.ks a)) = unc sg77.ks L.markMarks a := by kernel_rfl
theorem good77 : Vm.Good Tryz.prog 77 E77 := good_gen (G := G77) (L := loopNil) (c := c77) (rn := []) (N := (0, 1)) (envCons_good good157 envNil_good) (no_loops (c := c77) (by kernel_rfl)) Tryz.func77 (by kernel_rfl) (by kernel_rfl) (fun _ => by kernel_rfl) ev77
noncomputable def G33 : Env := envNil
noncomputable def c33 : Code := bodyOf Tryz.f33
noncomputable def c33_2 : Code := (loopsOf c33).getD 0 .skip
noncomputable def L.markIntS_l0 : Nat → (Int → List Int → Option (Int × List Int)) → Int → Int → List Int → Option (Int × List Int)
  | 0, _, _, _, _ => none
  | m + 1, e2_0, a3, a4, a5 =>
    (bif (decide (a4 < (a5.length : Int))) then
    (bif decide ((0 : Int) ≤ a4 ∧ a4 < (a5.length : Int)) then
    (L.markIntS_l0 m e2_0 (IntKind.wrap .i64 (a3 + 1)) (IntKind.wrap .i64 (a4 + 1)) (a5.set (Int.toNat a4) a3))
    else
    none)
    else
    (e2_0 a3 a5))
noncomputable def L.markIntS (a1 : Int) (a2 : List Int) : Option (Int × List Int) :=
(L.markIntS_l0 fu (fun y11 y12 =>
(some (y11, y12))) a1 0 a2)
noncomputable def H33_2 : LoopH := ⟨⟨((.one (.sl 0)) :: hh :: (hu 3 (hh :: (hu 13 [])))), [], [(3, (.int .i64), .own)]⟩, ([2, 3, 4] ++ rg 6 13), [], ([0, 2, 3] ++ rg 5 14), [], []⟩
noncomputable def k33_2 : List PK := (ki 2 [.row (.int .i64)])
noncomputable def W33_2 (m : Nat) (k : Kont (Int × List Int)) : Cur k33_2 (Option (Int × List Int)) := L.markIntS_l0 m (exF k (.exit 0) ⟨((.one (.unk)) :: hh :: (hu 17 [])), [], [(3, (.int .i64), .own)]⟩ [.int .i64, .row (.int .i64)])
noncomputable def E33_2 (m : Nat) : List Prm → Kont (Int × List Int) → Option (Int × List Int) := eL k33_2 (W33_2 m)
theorem ev33_2 (m : Nat) (k : Kont (Int × List Int)) (a : Args k33_2) : evL Tryz.prog G33 loopNil c33_2 (turn Tryz.prog (0, 1) H33_2 (E33_2 m) k) (H33_2.sk.fl (encP k33_2 a)) = unc k33_2 (W33_2 (m + 1) k) a := by kernel_rfl
theorem ok33_2 (m : Nat) : LoopOk Tryz.prog (0, 1) c33_2 (enter Tryz.prog (0, 1) H33_2 (E33_2 m)) := loop_gen (Fl := W33_2) (G := G33) (L := loopNil) envNil_good (no_loops (c := c33_2) (by kernel_rfl)) (fun _ _ => by kernel_rfl) ev33_2 m
noncomputable def L33 : LEnv (Int × List Int) := (loopCons 2 (enter Tryz.prog (0, 1) H33_2 (E33_2 fu)) loopNil)
theorem lq33 : loopsOf c33 = [c33_2] := by kernel_rfl
theorem fr33_2 : firstReg c33_2 = some 2 := by kernel_rfl
theorem le33_2 : L33 2 = enter Tryz.prog (0, 1) H33_2 (E33_2 fu) := by kernel_rfl
theorem lm33 : ∀ x ∈ [c33_2], ∀ id, firstReg x = some id → LoopOk Tryz.prog (0, 1) x (L33 id) := (loops_cons fr33_2 le33_2 (ok33_2 fu) loops_nil)
theorem lp33 : ∀ x ∈ loopsOf c33, ∀ id, firstReg x = some id → LoopOk Tryz.prog (0, 1) x (L33 id) := loops_eq lq33 lm33
noncomputable def sg33 : Sg := ⟨⟨[.one (.sl 0), hh], [], [(3, (.int .i64), .own)]⟩, [.int .i64, .row (.int .i64)], ⟨[hh], [], [(3, (.int .i64), .own)]⟩, [.int .i64, .row (.int .i64)]⟩
noncomputable def E33 : Fun2 := eOf sg33 L.markIntS
theorem ev33 (a : Args sg33.ks) : evS Tryz.prog G33 L33 (0, 1) [] Tryz.f33 c33 (kOf sg33) (sg33.sk.fl (encP sg33.ks a)) = unc sg33.ks L.markIntS a := by kernel_rfl
theorem good33 : Vm.Good Tryz.prog 33 E33 := good_gen (G := G33) (L := L33) (c := c33) (rn := []) (N := (0, 1)) envNil_good lp33 Tryz.func33 (by kernel_rfl) (by kernel_rfl) (fun _ => by kernel_rfl) ev33
noncomputable def G14 : Env := (envCons 33 [0] E33 envNil)
noncomputable def c14 : Code := bodyOf Tryz.f14
noncomputable def c14_2 : Code := (loopsOf c14).getD 0 .skip
noncomputable def L.markCellS_l0 : Nat → (Int → (List ty5) → Option (Int × (List ty5))) → Int → Int → (List ty5) → Option (Int × (List ty5))
  | 0, _, _, _, _ => none
  | m + 1, e2_0, a3, a4, a5 =>
    (bif (decide (a4 < (a5.length : Int))) then
    (bif decide ((0 : Int) ≤ a4 ∧ a4 < (a5.length : Int)) then
    (let v8 : List ty5 := (a5.set (Int.toNat a4) (a3, (nthI a5 a4 df6).2))
    (let v9 : Int := (IntKind.wrap .i64 (a3 + 1))
    (bif decide ((0 : Int) ≤ a4 ∧ a4 < (v8.length : Int)) then
    (let v10 : List ty5 := (v8.set (Int.toNat a4) ((nthI v8 a4 df6).1, (v9, (nthI v8 a4 df6).2.2)))
    (let v11 : Int := (IntKind.wrap .i64 (v9 + 1))
    (bif decide ((0 : Int) ≤ a4 ∧ a4 < (v10.length : Int)) then
    (let v12 : List ty5 := (v10.set (Int.toNat a4) ((nthI v10 a4 df6).1, ((nthI v10 a4 df6).2.1, (v11, (nthI v10 a4 df6).2.2.2))))
    (let v13 : Int := (IntKind.wrap .i64 (v11 + 1))
    (bif decide ((0 : Int) ≤ a4 ∧ a4 < (v12.length : Int)) then
    (let v14 : List ty5 := (v12.set (Int.toNat a4) ((nthI v12 a4 df6).1, ((nthI v12 a4 df6).2.1, ((nthI v12 a4 df6).2.2.1, (v13, (nthI v12 a4 df6).2.2.2.2)))))
    (let v15 : Int := (IntKind.wrap .i64 (v13 + 1))
    (bif decide ((0 : Int) ≤ a4 ∧ a4 < (v14.length : Int)) then
    (let v16 : List ty5 := (v14.set (Int.toNat a4) ((nthI v14 a4 df6).1, ((nthI v14 a4 df6).2.1, ((nthI v14 a4 df6).2.2.1, ((nthI v14 a4 df6).2.2.2.1, (v15, (nthI v14 a4 df6).2.2.2.2.2))))))
    (let v17 : Int := (IntKind.wrap .i64 (v15 + 1))
    (bif decide ((0 : Int) ≤ a4 ∧ a4 < (v16.length : Int)) then
    (let v18 : List ty5 := (v16.set (Int.toNat a4) ((nthI v16 a4 df6).1, ((nthI v16 a4 df6).2.1, ((nthI v16 a4 df6).2.2.1, ((nthI v16 a4 df6).2.2.2.1, ((nthI v16 a4 df6).2.2.2.2.1, (v17, (nthI v16 a4 df6).2.2.2.2.2.2)))))))
    (let v19 : Int := (IntKind.wrap .i64 (v17 + 1))
    (bif decide ((0 : Int) ≤ a4 ∧ a4 < (v18.length : Int)) then
    (let v20 : List ty5 := (v18.set (Int.toNat a4) ((nthI v18 a4 df6).1, ((nthI v18 a4 df6).2.1, ((nthI v18 a4 df6).2.2.1, ((nthI v18 a4 df6).2.2.2.1, ((nthI v18 a4 df6).2.2.2.2.1, ((nthI v18 a4 df6).2.2.2.2.2.1, ((v19, (nthI v18 a4 df6).2.2.2.2.2.2.1.2), (nthI v18 a4 df6).2.2.2.2.2.2.2))))))))
    (let v21 : Int := (IntKind.wrap .i64 (v19 + 1))
    (bif decide ((0 : Int) ≤ a4 ∧ a4 < (v20.length : Int)) then
    (let v23 : List ty5 := (v20.set (Int.toNat a4) ((nthI v20 a4 df6).1, ((nthI v20 a4 df6).2.1, ((nthI v20 a4 df6).2.2.1, ((nthI v20 a4 df6).2.2.2.1, ((nthI v20 a4 df6).2.2.2.2.1, ((nthI v20 a4 df6).2.2.2.2.2.1, (((nthI v20 a4 df6).2.2.2.2.2.2.1.1, (IntKind.wrap .u64 v21)), (nthI v20 a4 df6).2.2.2.2.2.2.2))))))))
    (let v24 : Int := (IntKind.wrap .i64 (v21 + 1))
    (bif decide ((0 : Int) ≤ a4 ∧ a4 < (v23.length : Int)) then
    (let v25 : List ty5 := (v23.set (Int.toNat a4) ((nthI v23 a4 df6).1, ((nthI v23 a4 df6).2.1, ((nthI v23 a4 df6).2.2.1, ((nthI v23 a4 df6).2.2.2.1, ((nthI v23 a4 df6).2.2.2.2.1, ((nthI v23 a4 df6).2.2.2.2.2.1, ((nthI v23 a4 df6).2.2.2.2.2.2.1, (v24, (nthI v23 a4 df6).2.2.2.2.2.2.2.2)))))))))
    (let v26 : Int := (IntKind.wrap .i64 (v24 + 1))
    (bif decide ((0 : Int) ≤ a4 ∧ a4 < (v25.length : Int)) then
    (let v27 : List ty5 := (v25.set (Int.toNat a4) ((nthI v25 a4 df6).1, ((nthI v25 a4 df6).2.1, ((nthI v25 a4 df6).2.2.1, ((nthI v25 a4 df6).2.2.2.1, ((nthI v25 a4 df6).2.2.2.2.1, ((nthI v25 a4 df6).2.2.2.2.2.1, ((nthI v25 a4 df6).2.2.2.2.2.2.1, ((nthI v25 a4 df6).2.2.2.2.2.2.2.1, (v26, (nthI v25 a4 df6).2.2.2.2.2.2.2.2.2))))))))))
    (bif decide ((0 : Int) ≤ a4 ∧ a4 < (v27.length : Int)) then
    (Option.bind (L.markIntS (IntKind.wrap .i64 (v26 + 1)) ((nthI v27 a4 df6).2.2.2.2.2.2.2.2.2)) fun r29 =>
    (let v30 : List ty5 := (v27.set (Int.toNat a4) ((nthI v27 a4 df6).1, ((nthI v27 a4 df6).2.1, ((nthI v27 a4 df6).2.2.1, ((nthI v27 a4 df6).2.2.2.1, ((nthI v27 a4 df6).2.2.2.2.1, ((nthI v27 a4 df6).2.2.2.2.2.1, ((nthI v27 a4 df6).2.2.2.2.2.2.1, ((nthI v27 a4 df6).2.2.2.2.2.2.2.1, ((nthI v27 a4 df6).2.2.2.2.2.2.2.2.1, r29.2))))))))))
    (L.markCellS_l0 m e2_0 r29.1 (IntKind.wrap .i64 (a4 + 1)) v30)))
    else
    none))
    else
    none)))
    else
    none)))
    else
    none)))
    else
    none)))
    else
    none)))
    else
    none)))
    else
    none)))
    else
    none)))
    else
    none)))
    else
    none)
    else
    (e2_0 a3 a5))
noncomputable def L.markCellS (a1 : Int) (a2 : List ty5) : Option (Int × (List ty5)) :=
(L.markCellS_l0 fu (fun y32 y33 =>
(some (y32, y33))) a1 0 a2)
noncomputable def H14_2 : LoopH := ⟨⟨((.one (.sl 0)) :: hh :: (hu 3 (hh :: (hu 93 [])))), [], [(105, sh10, .own)]⟩, ([2, 3, 4] ++ rg 6 93), [], ([0, 2, 3] ++ rg 5 94), [], []⟩
noncomputable def k14_2 : List PK := (ki 2 [.row sh10])
noncomputable def W14_2 (m : Nat) (k : Kont (Int × (List ty5))) : Cur k14_2 (Option (Int × (List ty5))) := L.markCellS_l0 m (exF k (.exit 0) ⟨((.one (.unk)) :: hh :: (hu 97 [])), [], [(105, sh10, .own)]⟩ [.int .i64, .row sh10])
noncomputable def E14_2 (m : Nat) : List Prm → Kont (Int × (List ty5)) → Option (Int × (List ty5)) := eL k14_2 (W14_2 m)
theorem ev14_2 (m : Nat) (k : Kont (Int × (List ty5))) (a : Args k14_2) : evL Tryz.prog G14 loopNil c14_2 (turn Tryz.prog (0, 1) H14_2 (E14_2 m) k) (H14_2.sk.fl (encP k14_2 a)) = unc k14_2 (W14_2 (m + 1) k) a := by kernel_rfl
theorem ok14_2 (m : Nat) : LoopOk Tryz.prog (0, 1) c14_2 (enter Tryz.prog (0, 1) H14_2 (E14_2 m)) := loop_gen (Fl := W14_2) (G := G14) (L := loopNil) (envCons_good good33 envNil_good) (no_loops (c := c14_2) (by kernel_rfl)) (fun _ _ => by kernel_rfl) ev14_2 m
noncomputable def L14 : LEnv (Int × (List ty5)) := (loopCons 2 (enter Tryz.prog (0, 1) H14_2 (E14_2 fu)) loopNil)
theorem lq14 : loopsOf c14 = [c14_2] := by kernel_rfl
theorem fr14_2 : firstReg c14_2 = some 2 := by kernel_rfl
theorem le14_2 : L14 2 = enter Tryz.prog (0, 1) H14_2 (E14_2 fu) := by kernel_rfl
theorem lm14 : ∀ x ∈ [c14_2], ∀ id, firstReg x = some id → LoopOk Tryz.prog (0, 1) x (L14 id) := (loops_cons fr14_2 le14_2 (ok14_2 fu) loops_nil)
theorem lp14 : ∀ x ∈ loopsOf c14, ∀ id, firstReg x = some id → LoopOk Tryz.prog (0, 1) x (L14 id) := loops_eq lq14 lm14
noncomputable def sg14 : Sg := ⟨⟨[.one (.sl 0), hh], [], [(105, sh10, .own)]⟩, [.int .i64, .row sh10], ⟨[hh], [], [(105, sh10, .own)]⟩, [.int .i64, .row sh10]⟩
noncomputable def E14 : Fun2 := eOf sg14 L.markCellS
theorem ev14 (a : Args sg14.ks) : evS Tryz.prog G14 L14 (0, 1) [] Tryz.f14 c14 (kOf sg14) (sg14.sk.fl (encP sg14.ks a)) = unc sg14.ks L.markCellS a := by kernel_rfl
theorem good14 : Vm.Good Tryz.prog 14 E14 := good_gen (G := G14) (L := L14) (c := c14) (rn := []) (N := (0, 1)) (envCons_good good33 envNil_good) lp14 Tryz.func14 (by kernel_rfl) (by kernel_rfl) (fun _ => by kernel_rfl) ev14
noncomputable def G158 : Env := (envCons 33 [0] E33 envNil)
noncomputable def c158 : Code := bodyOf Tryz.f158
noncomputable def c158_2 : Code := (loopsOf c158).getD 0 .skip
noncomputable def L.markItemS_l0 : Nat → (Int → (List ty7) → Option (Int × (List ty7))) → Int → Int → (List ty7) → Option (Int × (List ty7))
  | 0, _, _, _, _ => none
  | m + 1, e2_0, a3, a4, a5 =>
    (bif (decide (a4 < (a5.length : Int))) then
    (bif decide ((0 : Int) ≤ a4 ∧ a4 < (a5.length : Int)) then
    (let v8 : List ty7 := (a5.set (Int.toNat a4) (a3, (nthI a5 a4 df7).2))
    (let v9 : Int := (IntKind.wrap .i64 (a3 + 1))
    (bif decide ((0 : Int) ≤ a4 ∧ a4 < (v8.length : Int)) then
    (let v10 : List ty7 := (v8.set (Int.toNat a4) ((nthI v8 a4 df7).1, (v9, (nthI v8 a4 df7).2.2)))
    (let v11 : Int := (IntKind.wrap .i64 (v9 + 1))
    (bif decide ((0 : Int) ≤ a4 ∧ a4 < (v10.length : Int)) then
    (let v12 : List ty7 := (v10.set (Int.toNat a4) ((nthI v10 a4 df7).1, ((nthI v10 a4 df7).2.1, (v11, (nthI v10 a4 df7).2.2.2))))
    (let v13 : Int := (IntKind.wrap .i64 (v11 + 1))
    (bif decide ((0 : Int) ≤ a4 ∧ a4 < (v12.length : Int)) then
    (let v14 : List ty7 := (v12.set (Int.toNat a4) ((nthI v12 a4 df7).1, ((nthI v12 a4 df7).2.1, ((nthI v12 a4 df7).2.2.1, (v13, (nthI v12 a4 df7).2.2.2.2)))))
    (let v15 : Int := (IntKind.wrap .i64 (v13 + 1))
    (bif decide ((0 : Int) ≤ a4 ∧ a4 < (v14.length : Int)) then
    (let v16 : List ty7 := (v14.set (Int.toNat a4) ((nthI v14 a4 df7).1, ((nthI v14 a4 df7).2.1, ((nthI v14 a4 df7).2.2.1, ((nthI v14 a4 df7).2.2.2.1, (v15, (nthI v14 a4 df7).2.2.2.2.2))))))
    (let v17 : Int := (IntKind.wrap .i64 (v15 + 1))
    (bif decide ((0 : Int) ≤ a4 ∧ a4 < (v16.length : Int)) then
    (let v18 : List ty7 := (v16.set (Int.toNat a4) ((nthI v16 a4 df7).1, ((nthI v16 a4 df7).2.1, ((nthI v16 a4 df7).2.2.1, ((nthI v16 a4 df7).2.2.2.1, ((nthI v16 a4 df7).2.2.2.2.1, (v17, (nthI v16 a4 df7).2.2.2.2.2.2)))))))
    (let v19 : Int := (IntKind.wrap .i64 (v17 + 1))
    (bif decide ((0 : Int) ≤ a4 ∧ a4 < (v18.length : Int)) then
    (let v20 : List ty7 := (v18.set (Int.toNat a4) ((nthI v18 a4 df7).1, ((nthI v18 a4 df7).2.1, ((nthI v18 a4 df7).2.2.1, ((nthI v18 a4 df7).2.2.2.1, ((nthI v18 a4 df7).2.2.2.2.1, ((nthI v18 a4 df7).2.2.2.2.2.1, (v19, (nthI v18 a4 df7).2.2.2.2.2.2.2))))))))
    (let v21 : Int := (IntKind.wrap .i64 (v19 + 1))
    (bif decide ((0 : Int) ≤ a4 ∧ a4 < (v20.length : Int)) then
    (let v22 : List ty7 := (v20.set (Int.toNat a4) ((nthI v20 a4 df7).1, ((nthI v20 a4 df7).2.1, ((nthI v20 a4 df7).2.2.1, ((nthI v20 a4 df7).2.2.2.1, ((nthI v20 a4 df7).2.2.2.2.1, ((nthI v20 a4 df7).2.2.2.2.2.1, ((nthI v20 a4 df7).2.2.2.2.2.2.1, (v21, (nthI v20 a4 df7).2.2.2.2.2.2.2.2)))))))))
    (bif decide ((0 : Int) ≤ a4 ∧ a4 < (v22.length : Int)) then
    (Option.bind (L.markIntS (IntKind.wrap .i64 (v21 + 1)) ((nthI v22 a4 df7).2.2.2.2.2.2.2.2.1)) fun r24 =>
    (let v25 : List ty7 := (v22.set (Int.toNat a4) ((nthI v22 a4 df7).1, ((nthI v22 a4 df7).2.1, ((nthI v22 a4 df7).2.2.1, ((nthI v22 a4 df7).2.2.2.1, ((nthI v22 a4 df7).2.2.2.2.1, ((nthI v22 a4 df7).2.2.2.2.2.1, ((nthI v22 a4 df7).2.2.2.2.2.2.1, ((nthI v22 a4 df7).2.2.2.2.2.2.2.1, (r24.2, (nthI v22 a4 df7).2.2.2.2.2.2.2.2.2))))))))))
    (bif decide (3 = 0) then
    none
    else
    (bif decide ((0 : Int) ≤ a4 ∧ a4 < (v25.length : Int)) then
    (let v27 : List ty7 := (v25.set (Int.toNat a4) ((nthI v25 a4 df7).1, ((nthI v25 a4 df7).2.1, ((nthI v25 a4 df7).2.2.1, ((nthI v25 a4 df7).2.2.2.1, ((nthI v25 a4 df7).2.2.2.2.1, ((nthI v25 a4 df7).2.2.2.2.2.1, ((nthI v25 a4 df7).2.2.2.2.2.2.1, ((nthI v25 a4 df7).2.2.2.2.2.2.2.1, ((nthI v25 a4 df7).2.2.2.2.2.2.2.2.1, ((Int.tmod r24.1 3) == 0)))))))))))
    (L.markItemS_l0 m e2_0 (IntKind.wrap .i64 (r24.1 + 1)) (IntKind.wrap .i64 (a4 + 1)) v27))
    else
    none))))
    else
    none))
    else
    none)))
    else
    none)))
    else
    none)))
    else
    none)))
    else
    none)))
    else
    none)))
    else
    none)))
    else
    none)
    else
    (e2_0 a3 a5))
noncomputable def L.markItemS (a1 : Int) (a2 : List ty7) : Option (Int × (List ty7)) :=
(L.markItemS_l0 fu (fun y30 y31 =>
(some (y30, y31))) a1 0 a2)
noncomputable def H158_2 : LoopH := ⟨⟨((.one (.sl 0)) :: hh :: (hu 3 (hh :: (hu 87 [])))), [], [(230, sh7, .own)]⟩, ([2, 3, 4] ++ rg 6 87), [], ([0, 2, 3] ++ rg 5 88), [], []⟩
noncomputable def k158_2 : List PK := (ki 2 [.row sh7])
noncomputable def W158_2 (m : Nat) (k : Kont (Int × (List ty7))) : Cur k158_2 (Option (Int × (List ty7))) := L.markItemS_l0 m (exF k (.exit 0) ⟨((.one (.unk)) :: hh :: (hu 91 [])), [], [(230, sh7, .own)]⟩ [.int .i64, .row sh7])
noncomputable def E158_2 (m : Nat) : List Prm → Kont (Int × (List ty7)) → Option (Int × (List ty7)) := eL k158_2 (W158_2 m)
theorem ev158_2 (m : Nat) (k : Kont (Int × (List ty7))) (a : Args k158_2) : evL Tryz.prog G158 loopNil c158_2 (turn Tryz.prog (0, 1) H158_2 (E158_2 m) k) (H158_2.sk.fl (encP k158_2 a)) = unc k158_2 (W158_2 (m + 1) k) a := by kernel_rfl
theorem ok158_2 (m : Nat) : LoopOk Tryz.prog (0, 1) c158_2 (enter Tryz.prog (0, 1) H158_2 (E158_2 m)) := loop_gen (Fl := W158_2) (G := G158) (L := loopNil) (envCons_good good33 envNil_good) (no_loops (c := c158_2) (by kernel_rfl)) (fun _ _ => by kernel_rfl) ev158_2 m
noncomputable def L158 : LEnv (Int × (List ty7)) := (loopCons 2 (enter Tryz.prog (0, 1) H158_2 (E158_2 fu)) loopNil)
theorem lq158 : loopsOf c158 = [c158_2] := by kernel_rfl
theorem fr158_2 : firstReg c158_2 = some 2 := by kernel_rfl
theorem le158_2 : L158 2 = enter Tryz.prog (0, 1) H158_2 (E158_2 fu) := by kernel_rfl
theorem lm158 : ∀ x ∈ [c158_2], ∀ id, firstReg x = some id → LoopOk Tryz.prog (0, 1) x (L158 id) := (loops_cons fr158_2 le158_2 (ok158_2 fu) loops_nil)
theorem lp158 : ∀ x ∈ loopsOf c158, ∀ id, firstReg x = some id → LoopOk Tryz.prog (0, 1) x (L158 id) := loops_eq lq158 lm158
noncomputable def sg158 : Sg := ⟨⟨[.one (.sl 0), hh], [], [(230, sh7, .own)]⟩, [.int .i64, .row sh7], ⟨[hh], [], [(230, sh7, .own)]⟩, [.int .i64, .row sh7]⟩
noncomputable def E158 : Fun2 := eOf sg158 L.markItemS
theorem ev158 (a : Args sg158.ks) : evS Tryz.prog G158 L158 (0, 1) [] Tryz.f158 c158 (kOf sg158) (sg158.sk.fl (encP sg158.ks a)) = unc sg158.ks L.markItemS a := by kernel_rfl
theorem good158 : Vm.Good Tryz.prog 158 E158 := good_gen (G := G158) (L := L158) (c := c158) (rn := []) (N := (0, 1)) (envCons_good good33 envNil_good) lp158 Tryz.func158 (by kernel_rfl) (by kernel_rfl) (fun _ => by kernel_rfl) ev158
noncomputable def G159 : Env := envNil
noncomputable def c159 : Code := bodyOf Tryz.f159
noncomputable def c159_2 : Code := (loopsOf c159).getD 0 .skip
noncomputable def L.markRecS_l0 : Nat → (Int → (List (Int × Int × Int)) → Option (Int × (List (Int × Int × Int)))) → Int → Int → (List (Int × Int × Int)) → Option (Int × (List (Int × Int × Int)))
  | 0, _, _, _, _ => none
  | m + 1, e2_0, a3, a4, a5 =>
    (bif (decide (a4 < (a5.length : Int))) then
    (bif decide ((0 : Int) ≤ a4 ∧ a4 < (a5.length : Int)) then
    (let v8 : List (Int × Int × Int) := (a5.set (Int.toNat a4) (a3, (nthI a5 a4 df1).2))
    (let v9 : Int := (IntKind.wrap .i64 (a3 + 1))
    (bif decide ((0 : Int) ≤ a4 ∧ a4 < (v8.length : Int)) then
    (let v10 : List (Int × Int × Int) := (v8.set (Int.toNat a4) ((nthI v8 a4 df1).1, (v9, (nthI v8 a4 df1).2.2)))
    (let v11 : Int := (IntKind.wrap .i64 (v9 + 1))
    (bif decide ((0 : Int) ≤ a4 ∧ a4 < (v10.length : Int)) then
    (let v12 : List (Int × Int × Int) := (v10.set (Int.toNat a4) ((nthI v10 a4 df1).1, ((nthI v10 a4 df1).2.1, v11)))
    (L.markRecS_l0 m e2_0 (IntKind.wrap .i64 (v11 + 1)) (IntKind.wrap .i64 (a4 + 1)) v12))
    else
    none)))
    else
    none)))
    else
    none)
    else
    (e2_0 a3 a5))
noncomputable def L.markRecS (a1 : Int) (a2 : List (Int × Int × Int)) : Option (Int × (List (Int × Int × Int))) :=
(L.markRecS_l0 fu (fun y15 y16 =>
(some (y15, y16))) a1 0 a2)
noncomputable def H159_2 : LoopH := ⟨⟨((.one (.sl 0)) :: hh :: (hu 3 (hh :: (hu 28 [])))), [], [(233, sh3, .own)]⟩, ([2, 3, 4] ++ rg 6 28), [], ([0, 2, 3] ++ rg 5 29), [], []⟩
noncomputable def k159_2 : List PK := (ki 2 [.row sh3])
noncomputable def W159_2 (m : Nat) (k : Kont (Int × (List (Int × Int × Int)))) : Cur k159_2 (Option (Int × (List (Int × Int × Int)))) := L.markRecS_l0 m (exF k (.exit 0) ⟨((.one (.unk)) :: hh :: (hu 32 [])), [], [(233, sh3, .own)]⟩ [.int .i64, .row sh3])
noncomputable def E159_2 (m : Nat) : List Prm → Kont (Int × (List (Int × Int × Int))) → Option (Int × (List (Int × Int × Int))) := eL k159_2 (W159_2 m)
theorem ev159_2 (m : Nat) (k : Kont (Int × (List (Int × Int × Int)))) (a : Args k159_2) : evL Tryz.prog G159 loopNil c159_2 (turn Tryz.prog (0, 1) H159_2 (E159_2 m) k) (H159_2.sk.fl (encP k159_2 a)) = unc k159_2 (W159_2 (m + 1) k) a := by kernel_rfl
theorem ok159_2 (m : Nat) : LoopOk Tryz.prog (0, 1) c159_2 (enter Tryz.prog (0, 1) H159_2 (E159_2 m)) := loop_gen (Fl := W159_2) (G := G159) (L := loopNil) envNil_good (no_loops (c := c159_2) (by kernel_rfl)) (fun _ _ => by kernel_rfl) ev159_2 m
noncomputable def L159 : LEnv (Int × (List (Int × Int × Int))) := (loopCons 2 (enter Tryz.prog (0, 1) H159_2 (E159_2 fu)) loopNil)
theorem lq159 : loopsOf c159 = [c159_2] := by kernel_rfl
theorem fr159_2 : firstReg c159_2 = some 2 := by kernel_rfl
theorem le159_2 : L159 2 = enter Tryz.prog (0, 1) H159_2 (E159_2 fu) := by kernel_rfl
theorem lm159 : ∀ x ∈ [c159_2], ∀ id, firstReg x = some id → LoopOk Tryz.prog (0, 1) x (L159 id) := (loops_cons fr159_2 le159_2 (ok159_2 fu) loops_nil)
theorem lp159 : ∀ x ∈ loopsOf c159, ∀ id, firstReg x = some id → LoopOk Tryz.prog (0, 1) x (L159 id) := loops_eq lq159 lm159
noncomputable def sg159 : Sg := ⟨⟨[.one (.sl 0), hh], [], [(233, sh3, .own)]⟩, [.int .i64, .row sh3], ⟨[hh], [], [(233, sh3, .own)]⟩, [.int .i64, .row sh3]⟩
noncomputable def E159 : Fun2 := eOf sg159 L.markRecS
theorem ev159 (a : Args sg159.ks) : evS Tryz.prog G159 L159 (0, 1) [] Tryz.f159 c159 (kOf sg159) (sg159.sk.fl (encP sg159.ks a)) = unc sg159.ks L.markRecS a := by kernel_rfl
theorem good159 : Vm.Good Tryz.prog 159 E159 := good_gen (G := G159) (L := L159) (c := c159) (rn := []) (N := (0, 1)) envNil_good lp159 Tryz.func159 (by kernel_rfl) (by kernel_rfl) (fun _ => by kernel_rfl) ev159
noncomputable def G78 : Env := (envCons 158 [0] E158 (envCons 159 [0] E159 envNil))
noncomputable def c78 : Code := bodyOf Tryz.f78
noncomputable def c78_2 : Code := (loopsOf c78).getD 0 .skip
noncomputable def L.markBoxS_l0 : Nat → (Int → (List ty3) → Option (Int × (List ty3))) → Int → Int → (List ty3) → Option (Int × (List ty3))
  | 0, _, _, _, _ => none
  | m + 1, e2_0, a3, a4, a5 =>
    (bif (decide (a4 < (a5.length : Int))) then
    (bif decide ((0 : Int) ≤ a4 ∧ a4 < (a5.length : Int)) then
    (let v8 : List ty3 := (a5.set (Int.toNat a4) (a3, (nthI a5 a4 df8).2))
    (let v9 : Int := (IntKind.wrap .i64 (a3 + 1))
    (bif decide ((0 : Int) ≤ a4 ∧ a4 < (v8.length : Int)) then
    (let v10 : List ty3 := (v8.set (Int.toNat a4) ((nthI v8 a4 df8).1, (v9, (nthI v8 a4 df8).2.2)))
    (let v11 : Int := (IntKind.wrap .i64 (v9 + 1))
    (bif decide ((0 : Int) ≤ a4 ∧ a4 < (v10.length : Int)) then
    (let v12 : List ty3 := (v10.set (Int.toNat a4) ((nthI v10 a4 df8).1, ((nthI v10 a4 df8).2.1, (v11, (nthI v10 a4 df8).2.2.2))))
    (let v13 : Int := (IntKind.wrap .i64 (v11 + 1))
    (bif decide ((0 : Int) ≤ a4 ∧ a4 < (v12.length : Int)) then
    (let v14 : List ty3 := (v12.set (Int.toNat a4) ((nthI v12 a4 df8).1, ((nthI v12 a4 df8).2.1, ((nthI v12 a4 df8).2.2.1, (v13, (nthI v12 a4 df8).2.2.2.2)))))
    (bif decide ((0 : Int) ≤ a4 ∧ a4 < (v14.length : Int)) then
    (Option.bind (L.markItemS (IntKind.wrap .i64 (v13 + 1)) ((nthI v14 a4 df8).2.2.2.2.1)) fun r16 =>
    (let v17 : List ty3 := (v14.set (Int.toNat a4) ((nthI v14 a4 df8).1, ((nthI v14 a4 df8).2.1, ((nthI v14 a4 df8).2.2.1, ((nthI v14 a4 df8).2.2.2.1, (r16.2, (nthI v14 a4 df8).2.2.2.2.2))))))
    (bif decide ((0 : Int) ≤ a4 ∧ a4 < (v17.length : Int)) then
    (Option.bind (L.markRecS r16.1 ((nthI v17 a4 df8).2.2.2.2.2)) fun r18 =>
    (let v19 : List ty3 := (v17.set (Int.toNat a4) ((nthI v17 a4 df8).1, ((nthI v17 a4 df8).2.1, ((nthI v17 a4 df8).2.2.1, ((nthI v17 a4 df8).2.2.2.1, ((nthI v17 a4 df8).2.2.2.2.1, r18.2))))))
    (L.markBoxS_l0 m e2_0 r18.1 (IntKind.wrap .i64 (a4 + 1)) v19)))
    else
    none)))
    else
    none))
    else
    none)))
    else
    none)))
    else
    none)))
    else
    none)
    else
    (e2_0 a3 a5))
noncomputable def L.markBoxS (a1 : Int) (a2 : List ty3) : Option (Int × (List ty3)) :=
(L.markBoxS_l0 fu (fun y21 y22 =>
(some (y21, y22))) a1 0 a2)
noncomputable def H78_2 : LoopH := ⟨⟨((.one (.sl 0)) :: hh :: (hu 3 (hh :: (hu 49 [])))), [], [(122, sh8, .own)]⟩, ([2, 3, 4] ++ rg 6 49), [], ([0, 2, 3] ++ rg 5 50), [], []⟩
noncomputable def k78_2 : List PK := (ki 2 [.row sh8])
noncomputable def W78_2 (m : Nat) (k : Kont (Int × (List ty3))) : Cur k78_2 (Option (Int × (List ty3))) := L.markBoxS_l0 m (exF k (.exit 0) ⟨((.one (.unk)) :: hh :: (hu 53 [])), [], [(122, sh8, .own)]⟩ [.int .i64, .row sh8])
noncomputable def E78_2 (m : Nat) : List Prm → Kont (Int × (List ty3)) → Option (Int × (List ty3)) := eL k78_2 (W78_2 m)
theorem ev78_2 (m : Nat) (k : Kont (Int × (List ty3))) (a : Args k78_2) : evL Tryz.prog G78 loopNil c78_2 (turn Tryz.prog (0, 1) H78_2 (E78_2 m) k) (H78_2.sk.fl (encP k78_2 a)) = unc k78_2 (W78_2 (m + 1) k) a := by kernel_rfl
theorem ok78_2 (m : Nat) : LoopOk Tryz.prog (0, 1) c78_2 (enter Tryz.prog (0, 1) H78_2 (E78_2 m)) := loop_gen (Fl := W78_2) (G := G78) (L := loopNil) (envCons_good good158 (envCons_good good159 envNil_good)) (no_loops (c := c78_2) (by kernel_rfl)) (fun _ _ => by kernel_rfl) ev78_2 m
noncomputable def L78 : LEnv (Int × (List ty3)) := (loopCons 2 (enter Tryz.prog (0, 1) H78_2 (E78_2 fu)) loopNil)
theorem lq78 : loopsOf c78 = [c78_2] := by kernel_rfl
theorem fr78_2 : firstReg c78_2 = some 2 := by kernel_rfl
theorem le78_2 : L78 2 = enter Tryz.prog (0, 1) H78_2 (E78_2 fu) := by kernel_rfl
theorem lm78 : ∀ x ∈ [c78_2], ∀ id, firstReg x = some id → LoopOk Tryz.prog (0, 1) x (L78 id) := (loops_cons fr78_2 le78_2 (ok78_2 fu) loops_nil)
theorem lp78 : ∀ x ∈ loopsOf c78, ∀ id, firstReg x = some id → LoopOk Tryz.prog (0, 1) x (L78 id) := loops_eq lq78 lm78
noncomputable def sg78 : Sg := ⟨⟨[.one (.sl 0), hh], [], [(122, sh8, .own)]⟩, [.int .i64, .row sh8], ⟨[hh], [], [(122, sh8, .own)]⟩, [.int .i64, .row sh8]⟩
noncomputable def E78 : Fun2 := eOf sg78 L.markBoxS
theorem ev78 (a : Args sg78.ks) : evS Tryz.prog G78 L78 (0, 1) [] Tryz.f78 c78 (kOf sg78) (sg78.sk.fl (encP sg78.ks a)) = unc sg78.ks L.markBoxS a := by kernel_rfl
theorem good78 : Vm.Good Tryz.prog 78 E78 := good_gen (G := G78) (L := L78) (c := c78) (rn := []) (N := (0, 1)) (envCons_good good158 (envCons_good good159 envNil_good)) lp78 Tryz.func78 (by kernel_rfl) (by kernel_rfl) (fun _ => by kernel_rfl) ev78
noncomputable def G23 : Env := (envCons 22 [1, 4, 5, 6] E22 (envCons 76 [0] E76 (envCons 77 [1] E77 (envCons 14 [0] E14 (envCons 33 [0] E33 (envCons 78 [0] E78 envNil))))))
noncomputable def c23 : Code := bodyOf Tryz.f23
noncomputable def L.markEng (a1 a2 a3 a4 a5 : Int) (a6 : List Int) (a7 : List ty6) (a8 : List (Int × Int × Int)) (a9 : List ty10) (a10 : List (Int × Int × Int × Int)) (a11 : List (Int × Bool)) (a12 : List ty5) (a13 a14 : List Int) (a15 : List ty3) : Option (Int × List Int × (List ty6) × (List (Int × Int × Int)) × (List ty10) × (List (Int × Int × Int × Int)) × (List (Int × Bool)) × (List ty5) × List Int × List Int × (List ty3)) :=
(Option.bind (L.markConf a1 a2 a3 a5 a6 a7 a8 a9) fun r16 =>
(Option.bind (L.markPunctS r16.1 a10) fun r17 =>
(Option.bind (L.markMarks a4 r17.1 a11) fun r18 =>
(Option.bind (L.markCellS r18.1 a12) fun r19 =>
(Option.bind (L.markIntS r19.1 a13) fun r20 =>
(Option.bind (L.markIntS r20.1 a14) fun r21 =>
(Option.bind (L.markBoxS r21.1 a15) fun r22 =>
(some (r22.1, r16.2.1, r16.2.2.1, r16.2.2.2.1, r16.2.2.2.2, r17.2, r18.2, r19.2, r20.2, r21.2, r22.2)))))))))
noncomputable def sg23 : Sg := ⟨⟨[.agg ((.hole) :: (.sl 0) :: (ho 2 [.sl 1, .sl 2, .sl 3, .sl 4, .hole, .sl 5, .sl 6, .sl 7, .sl 8, .sl 9])), hh], [], [(87, (.int .u64), .own), (190, sh5, .own), (126, sh3, .own), (159, sh4, .own), (156, sh9, .own), (225, sh6, .own), (105, sh10, .own), (3, (.int .i64), .own), (3, (.int .i64), .own), (122, sh8, .own)]⟩, (ki 5 [.row (.int .u64), .row sh5, .row sh3, .row sh4, .row sh9, .row sh6, .row sh10, .row (.int .i64), .row (.int .i64), .row sh8]), ⟨[hh], [], [(87, (.int .u64), .own), (190, sh5, .own), (126, sh3, .own), (159, sh4, .own), (156, sh9, .own), (225, sh6, .own), (105, sh10, .own), (3, (.int .i64), .own), (3, (.int .i64), .own), (122, sh8, .own)]⟩, [.int .i64, .row (.int .u64), .row sh5, .row sh3, .row sh4, .row sh9, .row sh6, .row sh10, .row (.int .i64), .row (.int .i64), .row sh8]⟩
noncomputable def E23 : Fun2 := eOf sg23 L.markEng
theorem ev23 (a : Args sg23.ks) : evS Tryz.prog G23 loopNil (0, 10) [] Tryz.f23 c23 (kOf sg23) (sg23.sk.fl (encP sg23.ks a)) = unc sg23.ks L.markEng a := by kernel_rfl
theorem good23 : Vm.Good Tryz.prog 23 E23 := good_gen (G := G23) (L := loopNil) (c := c23) (rn := []) (N := (0, 10)) (envCons_good good22 (envCons_good good76 (envCons_good good77 (envCons_good good14 (envCons_good good33 (envCons_good good78 envNil_good)))))) (no_loops (c := c23) (by kernel_rfl)) Tryz.func23 (by kernel_rfl) (by kernel_rfl) (fun _ => by kernel_rfl) ev23
noncomputable def G236 : Env := envNil
noncomputable def c236 : Code := bodyOf Tryz.f236
noncomputable def c236_2 : Code := (loopsOf c236).getD 0 .skip
noncomputable def L.heldUint64S_l0 : Nat → (Int → Int → Option Int) → (Int → Option Int) → Int → Int → List Int → Option Int
  | 0, _, _, _, _, _ => none
  | m + 1, e2_0, e2_1, a3, a4, a5 =>
    (bif (decide (a4 < (a5.length : Int))) then
    (bif decide ((0 : Int) ≤ a4 ∧ a4 < (a5.length : Int)) then
    (bif ((nthI a5 a4 (0 : Int)) != (IntKind.wrap .u64 a3)) then
    (e2_0 a3 (-1))
    else
    (L.heldUint64S_l0 m e2_0 e2_1 (IntKind.wrap .i64 (a3 + 1)) (IntKind.wrap .i64 (a4 + 1)) a5))
    else
    none)
    else
    (e2_1 a3))
noncomputable def L.heldUint64S (a1 : Int) (a2 : List Int) : Option Int :=
(L.heldUint64S_l0 fu (fun y12 y13 =>
(some y13)) (fun y14 =>
(some y14)) a1 0 a2)
noncomputable def H236_2 : LoopH := ⟨⟨((.one (.sl 0)) :: hh :: (hu 3 (hh :: (hu 16 [])))), [], [(87, (.int .u64), .ro)]⟩, ([2, 3, 4] ++ rg 6 16), [], ([0, 2, 3] ++ rg 5 17), [], []⟩
noncomputable def k236_2 : List PK := (ki 2 [.row (.int .u64)])
noncomputable def W236_2 (m : Nat) (k : Kont Int) : Cur k236_2 (Option Int) := L.heldUint64S_l0 m (exF k .ret ⟨((.one (.unk)) :: hh :: (hu 2 (hh :: (hu 17 [])))), [], []⟩ (ki 2 [])) (exF k (.exit 0) ⟨((.one (.unk)) :: hh :: (hu 20 [])), [], []⟩ [.int .i64])
noncomputable def E236_2 (m : Nat) : List Prm → Kont Int → Option Int := eL k236_2 (W236_2 m)
theorem ev236_2 (m : Nat) (k : Kont Int) (a : Args k236_2) : evL Tryz.prog G236 loopNil c236_2 (turn Tryz.prog (0, 0) H236_2 (E236_2 m) k) (H236_2.sk.fl (encP k236_2 a)) = unc k236_2 (W236_2 (m + 1) k) a := by kernel_rfl
theorem ok236_2 (m : Nat) : LoopOk Tryz.prog (0, 0) c236_2 (enter Tryz.prog (0, 0) H236_2 (E236_2 m)) := loop_gen (Fl := W236_2) (G := G236) (L := loopNil) envNil_good (no_loops (c := c236_2) (by kernel_rfl)) (fun _ _ => by kernel_rfl) ev236_2 m
noncomputable def L236 : LEnv Int := (loopCons 2 (enter Tryz.prog (0, 0) H236_2 (E236_2 fu)) loopNil)
theorem lq236 : loopsOf c236 = [c236_2] := by kernel_rfl
theorem fr236_2 : firstReg c236_2 = some 2 := by kernel_rfl
theorem le236_2 : L236 2 = enter Tryz.prog (0, 0) H236_2 (E236_2 fu) := by kernel_rfl
theorem lm236 : ∀ x ∈ [c236_2], ∀ id, firstReg x = some id → LoopOk Tryz.prog (0, 0) x (L236 id) := (loops_cons fr236_2 le236_2 (ok236_2 fu) loops_nil)
theorem lp236 : ∀ x ∈ loopsOf c236, ∀ id, firstReg x = some id → LoopOk Tryz.prog (0, 0) x (L236 id) := loops_eq lq236 lm236
noncomputable def sg236 : Sg := ⟨⟨[.one (.sl 0), hh], [], [(87, (.int .u64), .ro)]⟩, [.int .i64, .row (.int .u64)], ⟨[hh], [], []⟩, [.int .i64]⟩
noncomputable def E236 : Fun2 := eOf sg236 L.heldUint64S
theorem ev236 (a : Args sg236.ks) : evS Tryz.prog G236 L236 (0, 0) [] Tryz.f236 c236 (kOf sg236) (sg236.sk.fl (encP sg236.ks a)) = unc sg236.ks L.heldUint64S a := by kernel_rfl
theorem good236 : Vm.Good Tryz.prog 236 E236 := good_gen (G := G236) (L := L236) (c := c236) (rn := []) (N := (0, 0)) envNil_good lp236 Tryz.func236 (by kernel_rfl) (by kernel_rfl) (fun _ => by kernel_rfl) ev236
noncomputable def G160 : Env := (envCons 236 [] E236 envNil)
noncomputable def c160 : Code := bodyOf Tryz.f160
noncomputable def L.heldLat (a1 a2 : Int) (a3 : List Int) : Option Int :=
(Option.bind (L.heldUint64S a2 a3) fun r4 =>
(bif (decide (r4 < 0)) then
(some (-1))
else
(some r4)))
noncomputable def sg160 : Sg := ⟨⟨[.agg [.hole, .sl 0], hh], [], [(87, (.int .u64), .ro)]⟩, (ki 2 [.row (.int .u64)]), ⟨[hh], [], []⟩, [.int .i64]⟩
noncomputable def E160 : Fun2 := eOf sg160 L.heldLat
theorem ev160 (a : Args sg160.ks) : evS Tryz.prog G160 loopNil (0, 0) [] Tryz.f160 c160 (kOf sg160) (sg160.sk.fl (encP sg160.ks a)) = unc sg160.ks L.heldLat a := by kernel_rfl
theorem good160 : Vm.Good Tryz.prog 160 E160 := good_gen (G := G160) (L := loopNil) (c := c160) (rn := []) (N := (0, 0)) (envCons_good good236 envNil_good) (no_loops (c := c160) (by kernel_rfl)) Tryz.func160 (by kernel_rfl) (by kernel_rfl) (fun _ => by kernel_rfl) ev160
noncomputable def G237 : Env := envNil
noncomputable def c237 : Code := bodyOf Tryz.f237
noncomputable def c237_2 : Code := (loopsOf c237).getD 0 .skip
noncomputable def L.heldTokS_l0 : Nat → (Int → Int → Option Int) → (Int → Option Int) → Int → Int → (List (Int × Int)) → Option Int
  | 0, _, _, _, _, _ => none
  | m + 1, e2_0, e2_1, a3, a4, a5 =>
    (bif (decide (a4 < (a5.length : Int))) then
    (bif decide ((0 : Int) ≤ a4 ∧ a4 < (a5.length : Int)) then
    (bif ((nthI a5 a4 df2).1 != a3) then
    (e2_0 a3 (-1))
    else
    (let v9 : Int := (IntKind.wrap .i64 (a3 + 1))
    (bif decide ((0 : Int) ≤ a4 ∧ a4 < (a5.length : Int)) then
    (bif ((nthI a5 a4 df2).2 != v9) then
    (e2_0 v9 (-1))
    else
    (L.heldTokS_l0 m e2_0 e2_1 (IntKind.wrap .i64 (v9 + 1)) (IntKind.wrap .i64 (a4 + 1)) a5))
    else
    none)))
    else
    none)
    else
    (e2_1 a3))
noncomputable def L.heldTokS (a1 : Int) (a2 : List (Int × Int)) : Option Int :=
(L.heldTokS_l0 fu (fun y13 y14 =>
(some y14)) (fun y15 =>
(some y15)) a1 0 a2)
noncomputable def H237_2 : LoopH := ⟨⟨((.one (.sl 0)) :: hh :: (hu 3 (hh :: (hu 25 [])))), [], [(255, sh1, .ro)]⟩, ([2, 3, 4] ++ rg 6 25), [], ([0, 2, 3] ++ rg 5 26), [], []⟩
noncomputable def k237_2 : List PK := (ki 2 [.row sh1])
noncomputable def W237_2 (m : Nat) (k : Kont Int) : Cur k237_2 (Option Int) := L.heldTokS_l0 m (exF k .ret ⟨((.one (.unk)) :: hh :: (hu 2 (hh :: (hu 26 [])))), [], []⟩ (ki 2 [])) (exF k (.exit 0) ⟨((.one (.unk)) :: hh :: (hu 29 [])), [], []⟩ [.int .i64])
noncomputable def E237_2 (m : Nat) : List Prm → Kont Int → Option Int := eL k237_2 (W237_2 m)
theorem ev237_2 (m : Nat) (k : Kont Int) (a : Args k237_2) : evL Tryz.prog G237 loopNil c237_2 (turn Tryz.prog (0, 0) H237_2 (E237_2 m) k) (H237_2.sk.fl (encP k237_2 a)) = unc k237_2 (W237_2 (m + 1) k) a := by kernel_rfl
theorem ok237_2 (m : Nat) : LoopOk Tryz.prog (0, 0) c237_2 (enter Tryz.prog (0, 0) H237_2 (E237_2 m)) := loop_gen (Fl := W237_2) (G := G237) (L := loopNil) envNil_good (no_loops (c := c237_2) (by kernel_rfl)) (fun _ _ => by kernel_rfl) ev237_2 m
noncomputable def L237 : LEnv Int := (loopCons 2 (enter Tryz.prog (0, 0) H237_2 (E237_2 fu)) loopNil)
theorem lq237 : loopsOf c237 = [c237_2] := by kernel_rfl
theorem fr237_2 : firstReg c237_2 = some 2 := by kernel_rfl
theorem le237_2 : L237 2 = enter Tryz.prog (0, 0) H237_2 (E237_2 fu) := by kernel_rfl
theorem lm237 : ∀ x ∈ [c237_2], ∀ id, firstReg x = some id → LoopOk Tryz.prog (0, 0) x (L237 id) := (loops_cons fr237_2 le237_2 (ok237_2 fu) loops_nil)
theorem lp237 : ∀ x ∈ loopsOf c237, ∀ id, firstReg x = some id → LoopOk Tryz.prog (0, 0) x (L237 id) := loops_eq lq237 lm237
noncomputable def sg237 : Sg := ⟨⟨[.one (.sl 0), hh], [], [(255, sh1, .ro)]⟩, [.int .i64, .row sh1], ⟨[hh], [], []⟩, [.int .i64]⟩
noncomputable def E237 : Fun2 := eOf sg237 L.heldTokS
theorem ev237 (a : Args sg237.ks) : evS Tryz.prog G237 L237 (0, 0) [] Tryz.f237 c237 (kOf sg237) (sg237.sk.fl (encP sg237.ks a)) = unc sg237.ks L.heldTokS a := by kernel_rfl
theorem good237 : Vm.Good Tryz.prog 237 E237 := good_gen (G := G237) (L := L237) (c := c237) (rn := []) (N := (0, 0)) envNil_good lp237 Tryz.func237 (by kernel_rfl) (by kernel_rfl) (fun _ => by kernel_rfl) ev237
noncomputable def G161 : Env := (envCons 237 [] E237 envNil)
noncomputable def c161 : Code := bodyOf Tryz.f161
noncomputable def c161_2 : Code := (loopsOf c161).getD 0 .skip
noncomputable def L.heldQueryS_l0 : Nat → (Int → Int → Option Int) → (Int → Option Int) → Int → Int → (List ty6) → Option Int
  | 0, _, _, _, _, _ => none
  | m + 1, e2_0, e2_1, a3, a4, a5 =>
    (bif (decide (a4 < (a5.length : Int))) then
    (bif decide ((0 : Int) ≤ a4 ∧ a4 < (a5.length : Int)) then
    (Option.bind (L.heldTokS a3 ((nthI a5 a4 ([], ([], (df1, df2)))).1)) fun r8 =>
    (bif (decide (r8 < 0)) then
    (e2_0 r8 (-1))
    else
    (bif decide ((0 : Int) ≤ a4 ∧ a4 < (a5.length : Int)) then
    (Option.bind (L.heldTokS r8 ((nthI a5 a4 ([], ([], (df1, df2)))).2.1)) fun r10 =>
    (bif (decide (r10 < 0)) then
    (e2_0 r10 (-1))
    else
    (bif decide ((0 : Int) ≤ a4 ∧ a4 < (a5.length : Int)) then
    (let v12 : Bool := ((nthI a5 a4 ([], ([], (df1, df2)))).2.2.1.1 != r10)
    (bif v12 then
    (e2_0 r10 (-1))
    else
    (let v13 : Int := (IntKind.wrap .i64 (r10 + 1))
    (bif decide ((0 : Int) ≤ a4 ∧ a4 < (a5.length : Int)) then
    (let v14 : Bool := ((nthI a5 a4 ([], ([], (df1, df2)))).2.2.1.2.1 != v13)
    (bif v14 then
    (e2_0 v13 (-1))
    else
    (let v15 : Int := (IntKind.wrap .i64 (v13 + 1))
    (bif decide ((0 : Int) ≤ a4 ∧ a4 < (a5.length : Int)) then
    (let v16 : Bool := ((nthI a5 a4 ([], ([], (df1, df2)))).2.2.1.2.2 != v15)
    (bif v16 then
    (e2_0 v15 (-1))
    else
    (let v17 : Int := (IntKind.wrap .i64 (v15 + 1))
    (bif decide ((0 : Int) ≤ a4 ∧ a4 < (a5.length : Int)) then
    (let v18 : Bool := ((nthI a5 a4 ([], ([], (df1, df2)))).2.2.2.1 != v17)
    (bif v18 then
    (e2_0 v17 (-1))
    else
    (let v19 : Int := (IntKind.wrap .i64 (v17 + 1))
    (bif decide ((0 : Int) ≤ a4 ∧ a4 < (a5.length : Int)) then
    (let v20 : Bool := ((nthI a5 a4 ([], ([], (df1, df2)))).2.2.2.2 != v19)
    (bif v20 then
    (e2_0 v19 (-1))
    else
    (L.heldQueryS_l0 m e2_0 e2_1 (IntKind.wrap .i64 (v19 + 1)) (IntKind.wrap .i64 (a4 + 1)) a5)))
    else
    none))))
    else
    none))))
    else
    none))))
    else
    none))))
    else
    none)))
    else
    none)))
    else
    none)
    else
    (e2_1 a3))
noncomputable def L.heldQueryS (a1 : Int) (a2 : List ty6) : Option Int :=
(L.heldQueryS_l0 fu (fun y23 y24 =>
(some y24)) (fun y25 =>
(some y25)) a1 0 a2)
noncomputable def H161_2 : LoopH := ⟨⟨((.one (.sl 0)) :: hh :: (hu 3 (hh :: (hu 73 [])))), [], [(190, sh5, .ro)]⟩, ([2, 3, 4] ++ rg 6 73), [], ([0, 2, 3] ++ rg 5 74), [], []⟩
noncomputable def k161_2 : List PK := (ki 2 [.row sh5])
noncomputable def W161_2 (m : Nat) (k : Kont Int) : Cur k161_2 (Option Int) := L.heldQueryS_l0 m (exF k .ret ⟨((.one (.unk)) :: hh :: (hu 2 (hh :: (hu 74 [])))), [], []⟩ (ki 2 [])) (exF k (.exit 0) ⟨((.one (.unk)) :: hh :: (hu 77 [])), [], []⟩ [.int .i64])
noncomputable def E161_2 (m : Nat) : List Prm → Kont Int → Option Int := eL k161_2 (W161_2 m)
theorem ev161_2 (m : Nat) (k : Kont Int) (a : Args k161_2) : evL Tryz.prog G161 loopNil c161_2 (turn Tryz.prog (0, 0) H161_2 (E161_2 m) k) (H161_2.sk.fl (encP k161_2 a)) = unc k161_2 (W161_2 (m + 1) k) a := by kernel_rfl
theorem ok161_2 (m : Nat) : LoopOk Tryz.prog (0, 0) c161_2 (enter Tryz.prog (0, 0) H161_2 (E161_2 m)) := loop_gen (Fl := W161_2) (G := G161) (L := loopNil) (envCons_good good237 envNil_good) (no_loops (c := c161_2) (by kernel_rfl)) (fun _ _ => by kernel_rfl) ev161_2 m
noncomputable def L161 : LEnv Int := (loopCons 2 (enter Tryz.prog (0, 0) H161_2 (E161_2 fu)) loopNil)
theorem lq161 : loopsOf c161 = [c161_2] := by kernel_rfl
theorem fr161_2 : firstReg c161_2 = some 2 := by kernel_rfl
theorem le161_2 : L161 2 = enter Tryz.prog (0, 0) H161_2 (E161_2 fu) := by kernel_rfl
theorem lm161 : ∀ x ∈ [c161_2], ∀ id, firstReg x = some id → LoopOk Tryz.prog (0, 0) x (L161 id) := (loops_cons fr161_2 le161_2 (ok161_2 fu) loops_nil)
theorem lp161 : ∀ x ∈ loopsOf c161, ∀ id, firstReg x = some id → LoopOk Tryz.prog (0, 0) x (L161 id) := loops_eq lq161 lm161
noncomputable def sg161 : Sg := ⟨⟨[.one (.sl 0), hh], [], [(190, sh5, .ro)]⟩, [.int .i64, .row sh5], ⟨[hh], [], []⟩, [.int .i64]⟩
noncomputable def E161 : Fun2 := eOf sg161 L.heldQueryS
theorem ev161 (a : Args sg161.ks) : evS Tryz.prog G161 L161 (0, 0) [] Tryz.f161 c161 (kOf sg161) (sg161.sk.fl (encP sg161.ks a)) = unc sg161.ks L.heldQueryS a := by kernel_rfl
theorem good161 : Vm.Good Tryz.prog 161 E161 := good_gen (G := G161) (L := L161) (c := c161) (rn := []) (N := (0, 0)) (envCons_good good237 envNil_good) lp161 Tryz.func161 (by kernel_rfl) (by kernel_rfl) (fun _ => by kernel_rfl) ev161
noncomputable def G162 : Env := envNil
noncomputable def c162 : Code := bodyOf Tryz.f162
noncomputable def c162_2 : Code := (loopsOf c162).getD 0 .skip
noncomputable def L.heldSubS_l0 : Nat → (Int → Int → Option Int) → (Int → Option Int) → Int → Int → (List (Int × Int × Int)) → Option Int
  | 0, _, _, _, _, _ => none
  | m + 1, e2_0, e2_1, a3, a4, a5 =>
    (bif (decide (a4 < (a5.length : Int))) then
    (bif decide ((0 : Int) ≤ a4 ∧ a4 < (a5.length : Int)) then
    (bif ((nthI a5 a4 df1).1 != a3) then
    (e2_0 a3 (-1))
    else
    (let v9 : Int := (IntKind.wrap .i64 (a3 + 1))
    (bif decide ((0 : Int) ≤ a4 ∧ a4 < (a5.length : Int)) then
    (bif ((nthI a5 a4 df1).2.1 != v9) then
    (e2_0 v9 (-1))
    else
    (let v11 : Int := (IntKind.wrap .i64 (v9 + 1))
    (bif decide ((0 : Int) ≤ a4 ∧ a4 < (a5.length : Int)) then
    (let v12 : Bool := ((nthI a5 a4 df1).2.2 != v11)
    (bif v12 then
    (e2_0 v11 (-1))
    else
    (L.heldSubS_l0 m e2_0 e2_1 (IntKind.wrap .i64 (v11 + 1)) (IntKind.wrap .i64 (a4 + 1)) a5)))
    else
    none)))
    else
    none)))
    else
    none)
    else
    (e2_1 a3))
noncomputable def L.heldSubS (a1 : Int) (a2 : List (Int × Int × Int)) : Option Int :=
(L.heldSubS_l0 fu (fun y15 y16 =>
(some y16)) (fun y17 =>
(some y17)) a1 0 a2)
noncomputable def H162_2 : LoopH := ⟨⟨((.one (.sl 0)) :: hh :: (hu 3 (hh :: (hu 34 [])))), [], [(126, sh3, .ro)]⟩, ([2, 3, 4] ++ rg 6 34), [], ([0, 2, 3] ++ rg 5 35), [], []⟩
noncomputable def k162_2 : List PK := (ki 2 [.row sh3])
noncomputable def W162_2 (m : Nat) (k : Kont Int) : Cur k162_2 (Option Int) := L.heldSubS_l0 m (exF k .ret ⟨((.one (.unk)) :: hh :: (hu 2 (hh :: (hu 35 [])))), [], []⟩ (ki 2 [])) (exF k (.exit 0) ⟨((.one (.unk)) :: hh :: (hu 38 [])), [], []⟩ [.int .i64])
noncomputable def E162_2 (m : Nat) : List Prm → Kont Int → Option Int := eL k162_2 (W162_2 m)
theorem ev162_2 (m : Nat) (k : Kont Int) (a : Args k162_2) : evL Tryz.prog G162 loopNil c162_2 (turn Tryz.prog (0, 0) H162_2 (E162_2 m) k) (H162_2.sk.fl (encP k162_2 a)) = unc k162_2 (W162_2 (m + 1) k) a := by kernel_rfl
theorem ok162_2 (m : Nat) : LoopOk Tryz.prog (0, 0) c162_2 (enter Tryz.prog (0, 0) H162_2 (E162_2 m)) := loop_gen (Fl := W162_2) (G := G162) (L := loopNil) envNil_good (no_loops (c := c162_2) (by kernel_rfl)) (fun _ _ => by kernel_rfl) ev162_2 m
noncomputable def L162 : LEnv Int := (loopCons 2 (enter Tryz.prog (0, 0) H162_2 (E162_2 fu)) loopNil)
theorem lq162 : loopsOf c162 = [c162_2] := by kernel_rfl
theorem fr162_2 : firstReg c162_2 = some 2 := by kernel_rfl
theorem le162_2 : L162 2 = enter Tryz.prog (0, 0) H162_2 (E162_2 fu) := by kernel_rfl
theorem lm162 : ∀ x ∈ [c162_2], ∀ id, firstReg x = some id → LoopOk Tryz.prog (0, 0) x (L162 id) := (loops_cons fr162_2 le162_2 (ok162_2 fu) loops_nil)
theorem lp162 : ∀ x ∈ loopsOf c162, ∀ id, firstReg x = some id → LoopOk Tryz.prog (0, 0) x (L162 id) := loops_eq lq162 lm162
noncomputable def sg162 : Sg := ⟨⟨[.one (.sl 0), hh], [], [(126, sh3, .ro)]⟩, [.int .i64, .row sh3], ⟨[hh], [], []⟩, [.int .i64]⟩
noncomputable def E162 : Fun2 := eOf sg162 L.heldSubS
theorem ev162 (a : Args sg162.ks) : evS Tryz.prog G162 L162 (0, 0) [] Tryz.f162 c162 (kOf sg162) (sg162.sk.fl (encP sg162.ks a)) = unc sg162.ks L.heldSubS a := by kernel_rfl
theorem good162 : Vm.Good Tryz.prog 162 E162 := good_gen (G := G162) (L := L162) (c := c162) (rn := []) (N := (0, 0)) envNil_good lp162 Tryz.func162 (by kernel_rfl) (by kernel_rfl) (fun _ => by kernel_rfl) ev162
noncomputable def G163 : Env := envNil
noncomputable def c163 : Code := bodyOf Tryz.f163
noncomputable def c163_2 : Code := (loopsOf c163).getD 0 .skip
noncomputable def L.heldRuleS_l0 : Nat → (Int → Int → Option Int) → (Int → Option Int) → Int → Int → (List ty10) → Option Int
  | 0, _, _, _, _, _ => none
  | m + 1, e2_0, e2_1, a3, a4, a5 =>
    (bif (decide (a4 < (a5.length : Int))) then
    (bif decide ((0 : Int) ≤ a4 ∧ a4 < (a5.length : Int)) then
    (let v8 : Bool := ((nthI a5 a4 df3).1 != a3)
    (bif v8 then
    (e2_0 a3 (-1))
    else
    (let v9 : Int := (IntKind.wrap .i64 (a3 + 1))
    (bif decide ((0 : Int) ≤ a4 ∧ a4 < (a5.length : Int)) then
    (let v10 : Bool := ((nthI a5 a4 df3).2.1 != v9)
    (bif v10 then
    (e2_0 v9 (-1))
    else
    (let v11 : Int := (IntKind.wrap .i64 (v9 + 1))
    (bif decide ((0 : Int) ≤ a4 ∧ a4 < (a5.length : Int)) then
    (let v12 : Bool := ((nthI a5 a4 df3).2.2.1 != v11)
    (bif v12 then
    (e2_0 v11 (-1))
    else
    (let v13 : Int := (IntKind.wrap .i64 (v11 + 1))
    (bif decide ((0 : Int) ≤ a4 ∧ a4 < (a5.length : Int)) then
    (let v14 : Bool := ((nthI a5 a4 df3).2.2.2.1 != v13)
    (bif v14 then
    (e2_0 v13 (-1))
    else
    (let v15 : Int := (IntKind.wrap .i64 (v13 + 1))
    (bif decide ((0 : Int) ≤ a4 ∧ a4 < (a5.length : Int)) then
    (let v16 : Bool := ((nthI a5 a4 df3).2.2.2.2 != v15)
    (bif v16 then
    (e2_0 v15 (-1))
    else
    (L.heldRuleS_l0 m e2_0 e2_1 (IntKind.wrap .i64 (v15 + 1)) (IntKind.wrap .i64 (a4 + 1)) a5)))
    else
    none))))
    else
    none))))
    else
    none))))
    else
    none))))
    else
    none)
    else
    (e2_1 a3))
noncomputable def L.heldRuleS (a1 : Int) (a2 : List ty10) : Option Int :=
(L.heldRuleS_l0 fu (fun y19 y20 =>
(some y20)) (fun y21 =>
(some y21)) a1 0 a2)
noncomputable def H163_2 : LoopH := ⟨⟨((.one (.sl 0)) :: hh :: (hu 3 (hh :: (hu 52 [])))), [], [(159, sh4, .ro)]⟩, ([2, 3, 4] ++ rg 6 52), [], ([0, 2, 3] ++ rg 5 53), [], []⟩
noncomputable def k163_2 : List PK := (ki 2 [.row sh4])
noncomputable def W163_2 (m : Nat) (k : Kont Int) : Cur k163_2 (Option Int) := L.heldRuleS_l0 m (exF k .ret ⟨((.one (.unk)) :: hh :: (hu 2 (hh :: (hu 53 [])))), [], []⟩ (ki 2 [])) (exF k (.exit 0) ⟨((.one (.unk)) :: hh :: (hu 56 [])), [], []⟩ [.int .i64])
noncomputable def E163_2 (m : Nat) : List Prm → Kont Int → Option Int := eL k163_2 (W163_2 m)
theorem ev163_2 (m : Nat) (k : Kont Int) (a : Args k163_2) : evL Tryz.prog G163 loopNil c163_2 (turn Tryz.prog (0, 0) H163_2 (E163_2 m) k) (H163_2.sk.fl (encP k163_2 a)) = unc k163_2 (W163_2 (m + 1) k) a := by kernel_rfl
theorem ok163_2 (m : Nat) : LoopOk Tryz.prog (0, 0) c163_2 (enter Tryz.prog (0, 0) H163_2 (E163_2 m)) := loop_gen (Fl := W163_2) (G := G163) (L := loopNil) envNil_good (no_loops (c := c163_2) (by kernel_rfl)) (fun _ _ => by kernel_rfl) ev163_2 m
noncomputable def L163 : LEnv Int := (loopCons 2 (enter Tryz.prog (0, 0) H163_2 (E163_2 fu)) loopNil)
theorem lq163 : loopsOf c163 = [c163_2] := by kernel_rfl
theorem fr163_2 : firstReg c163_2 = some 2 := by kernel_rfl
theorem le163_2 : L163 2 = enter Tryz.prog (0, 0) H163_2 (E163_2 fu) := by kernel_rfl
theorem lm163 : ∀ x ∈ [c163_2], ∀ id, firstReg x = some id → LoopOk Tryz.prog (0, 0) x (L163 id) := (loops_cons fr163_2 le163_2 (ok163_2 fu) loops_nil)
theorem lp163 : ∀ x ∈ loopsOf c163, ∀ id, firstReg x = some id → LoopOk Tryz.prog (0, 0) x (L163 id) := loops_eq lq163 lm163
noncomputable def sg163 : Sg := ⟨⟨[.one (.sl 0), hh], [], [(159, sh4, .ro)]⟩, [.int .i64, .row sh4], ⟨[hh], [], []⟩, [.int .i64]⟩
noncomputable def E163 : Fun2 := eOf sg163 L.heldRuleS
theorem ev163 (a : Args sg163.ks) : evS Tryz.prog G163 L163 (0, 0) [] Tryz.f163 c163 (kOf sg163) (sg163.sk.fl (encP sg163.ks a)) = unc sg163.ks L.heldRuleS a := by kernel_rfl
theorem good163 : Vm.Good Tryz.prog 163 E163 := good_gen (G := G163) (L := L163) (c := c163) (rn := []) (N := (0, 0)) envNil_good lp163 Tryz.func163 (by kernel_rfl) (by kernel_rfl) (fun _ => by kernel_rfl) ev163
noncomputable def G79 : Env := (envCons 160 [] E160 (envCons 161 [] E161 (envCons 162 [] E162 (envCons 163 [] E163 envNil))))
noncomputable def c79 : Code := bodyOf Tryz.f79
noncomputable def L.heldConf (a1 a2 a3 a4 : Int) (a5 : List Int) (a6 : List ty6) (a7 : List (Int × Int × Int)) (a8 : List ty10) : Option Int :=
(Option.bind (L.heldLat a1 a4 a5) fun r9 =>
(bif (decide (r9 < 0)) then
(some (-1))
else
(Option.bind (L.heldQueryS r9 a6) fun r11 =>
(bif (decide (r11 < 0)) then
(some (-1))
else
(Option.bind (L.heldSubS r11 a7) fun r13 =>
(bif (decide (r13 < 0)) then
(some (-1))
else
(Option.bind (L.heldRuleS r13 a8) fun r15 =>
(bif (decide (r15 < 0)) then
(some (-1))
else
(some r15)))))))))
noncomputable def sg79 : Sg := ⟨⟨[.agg ((.hole) :: (.sl 0) :: (ho 2 [.sl 1, .sl 2, .sl 3])), hh], [], [(87, (.int .u64), .ro), (190, sh5, .ro), (126, sh3, .ro), (159, sh4, .ro)]⟩, (ki 4 [.row (.int .u64), .row sh5, .row sh3, .row sh4]), ⟨[hh], [], []⟩, [.int .i64]⟩
noncomputable def E79 : Fun2 := eOf sg79 L.heldConf
theorem ev79 (a : Args sg79.ks) : evS Tryz.prog G79 loopNil (0, 0) [] Tryz.f79 c79 (kOf sg79) (sg79.sk.fl (encP sg79.ks a)) = unc sg79.ks L.heldConf a := by kernel_rfl
theorem good79 : Vm.Good Tryz.prog 79 E79 := good_gen (G := G79) (L := loopNil) (c := c79) (rn := []) (N := (0, 0)) (envCons_good good160 (envCons_good good161 (envCons_good good162 (envCons_good good163 envNil_good)))) (no_loops (c := c79) (by kernel_rfl)) Tryz.func79 (by kernel_rfl) (by kernel_rfl) (fun _ => by kernel_rfl) ev79
noncomputable def G80 : Env := envNil
noncomputable def c80 : Code := bodyOf Tryz.f80
noncomputable def c80_2 : Code := (loopsOf c80).getD 0 .skip
noncomputable def L.heldPunctS_l0 : Nat → (Int → Int → Option Int) → (Int → Option Int) → Int → Int → (List (Int × Int × Int × Int)) → Option Int
  | 0, _, _, _, _, _ => none
  | m + 1, e2_0, e2_1, a3, a4, a5 =>
    (bif (decide (a4 < (a5.length : Int))) then
    (bif decide ((0 : Int) ≤ a4 ∧ a4 < (a5.length : Int)) then
    (let v8 : Bool := ((nthI a5 a4 df4).1 != a3)
    (bif v8 then
    (e2_0 a3 (-1))
    else
    (let v9 : Int := (IntKind.wrap .i64 (a3 + 1))
    (bif decide ((0 : Int) ≤ a4 ∧ a4 < (a5.length : Int)) then
    (let v10 : Bool := ((nthI a5 a4 df4).2.1 != v9)
    (bif v10 then
    (e2_0 v9 (-1))
    else
    (let v11 : Int := (IntKind.wrap .i64 (v9 + 1))
    (bif decide ((0 : Int) ≤ a4 ∧ a4 < (a5.length : Int)) then
    (let v12 : Bool := ((nthI a5 a4 df4).2.2.1 != v11)
    (bif v12 then
    (e2_0 v11 (-1))
    else
    (let v13 : Int := (IntKind.wrap .i64 (v11 + 1))
    (bif decide ((0 : Int) ≤ a4 ∧ a4 < (a5.length : Int)) then
    (let v14 : Bool := ((nthI a5 a4 df4).2.2.2 != v13)
    (bif v14 then
    (e2_0 v13 (-1))
    else
    (L.heldPunctS_l0 m e2_0 e2_1 (IntKind.wrap .i64 (v13 + 1)) (IntKind.wrap .i64 (a4 + 1)) a5)))
    else
    none))))
    else
    none))))
    else
    none))))
    else
    none)
    else
    (e2_1 a3))
noncomputable def L.heldPunctS (a1 : Int) (a2 : List (Int × Int × Int × Int)) : Option Int :=
(L.heldPunctS_l0 fu (fun y17 y18 =>
(some y18)) (fun y19 =>
(some y19)) a1 0 a2)
noncomputable def H80_2 : LoopH := ⟨⟨((.one (.sl 0)) :: hh :: (hu 3 (hh :: (hu 43 [])))), [], [(156, sh9, .ro)]⟩, ([2, 3, 4] ++ rg 6 43), [], ([0, 2, 3] ++ rg 5 44), [], []⟩
noncomputable def k80_2 : List PK := (ki 2 [.row sh9])
noncomputable def W80_2 (m : Nat) (k : Kont Int) : Cur k80_2 (Option Int) := L.heldPunctS_l0 m (exF k .ret ⟨((.one (.unk)) :: hh :: (hu 2 (hh :: (hu 44 [])))), [], []⟩ (ki 2 [])) (exF k (.exit 0) ⟨((.one (.unk)) :: hh :: (hu 47 [])), [], []⟩ [.int .i64])
noncomputable def E80_2 (m : Nat) : List Prm → Kont Int → Option Int := eL k80_2 (W80_2 m)
theorem ev80_2 (m : Nat) (k : Kont Int) (a : Args k80_2) : evL Tryz.prog G80 loopNil c80_2 (turn Tryz.prog (0, 0) H80_2 (E80_2 m) k) (H80_2.sk.fl (encP k80_2 a)) = unc k80_2 (W80_2 (m + 1) k) a := by kernel_rfl
theorem ok80_2 (m : Nat) : LoopOk Tryz.prog (0, 0) c80_2 (enter Tryz.prog (0, 0) H80_2 (E80_2 m)) := loop_gen (Fl := W80_2) (G := G80) (L := loopNil) envNil_good (no_loops (c := c80_2) (by kernel_rfl)) (fun _ _ => by kernel_rfl) ev80_2 m
noncomputable def L80 : LEnv Int := (loopCons 2 (enter Tryz.prog (0, 0) H80_2 (E80_2 fu)) loopNil)
theorem lq80 : loopsOf c80 = [c80_2] := by kernel_rfl
theorem fr80_2 : firstReg c80_2 = some 2 := by kernel_rfl
theorem le80_2 : L80 2 = enter Tryz.prog (0, 0) H80_2 (E80_2 fu) := by kernel_rfl
theorem lm80 : ∀ x ∈ [c80_2], ∀ id, firstReg x = some id → LoopOk Tryz.prog (0, 0) x (L80 id) := (loops_cons fr80_2 le80_2 (ok80_2 fu) loops_nil)
theorem lp80 : ∀ x ∈ loopsOf c80, ∀ id, firstReg x = some id → LoopOk Tryz.prog (0, 0) x (L80 id) := loops_eq lq80 lm80
noncomputable def sg80 : Sg := ⟨⟨[.one (.sl 0), hh], [], [(156, sh9, .ro)]⟩, [.int .i64, .row sh9], ⟨[hh], [], []⟩, [.int .i64]⟩
noncomputable def E80 : Fun2 := eOf sg80 L.heldPunctS
theorem ev80 (a : Args sg80.ks) : evS Tryz.prog G80 L80 (0, 0) [] Tryz.f80 c80 (kOf sg80) (sg80.sk.fl (encP sg80.ks a)) = unc sg80.ks L.heldPunctS a := by kernel_rfl
theorem good80 : Vm.Good Tryz.prog 80 E80 := good_gen (G := G80) (L := L80) (c := c80) (rn := []) (N := (0, 0)) envNil_good lp80 Tryz.func80 (by kernel_rfl) (by kernel_rfl) (fun _ => by kernel_rfl) ev80
noncomputable def G164 : Env := envNil
noncomputable def c164 : Code := bodyOf Tryz.f164
noncomputable def c164_2 : Code := (loopsOf c164).getD 0 .skip
noncomputable def L.heldMarkS_l0 : Nat → (Int → Int → Option Int) → (Int → Option Int) → Int → Int → (List (Int × Bool)) → Option Int
  | 0, _, _, _, _, _ => none
  | m + 1, e2_0, e2_1, a3, a4, a5 =>
    (bif (decide (a4 < (a5.length : Int))) then
    (bif decide ((0 : Int) ≤ a4 ∧ a4 < (a5.length : Int)) then
    (bif ((nthI a5 a4 df5).1 != a3) then
    (e2_0 a3 (-1))
    else
    (let v9 : Int := (IntKind.wrap .i64 (a3 + 1))
    (bif decide ((0 : Int) ≤ a4 ∧ a4 < (a5.length : Int)) then
    (bif decide (3 = 0) then
    none
    else
    (bif (!((nthI a5 a4 df5).2 == ((Int.tmod v9 3) == 0))) then
    (e2_0 v9 (-1))
    else
    (L.heldMarkS_l0 m e2_0 e2_1 (IntKind.wrap .i64 (v9 + 1)) (IntKind.wrap .i64 (a4 + 1)) a5)))
    else
    none)))
    else
    none)
    else
    (e2_1 a3))
noncomputable def L.heldMarkS (a1 : Int) (a2 : List (Int × Bool)) : Option Int :=
(L.heldMarkS_l0 fu (fun y14 y15 =>
(some y15)) (fun y16 =>
(some y16)) a1 0 a2)
noncomputable def H164_2 : LoopH := ⟨⟨((.one (.sl 0)) :: hh :: (hu 3 (hh :: (hu 27 [])))), [], [(225, sh6, .ro)]⟩, ([2, 3, 4] ++ rg 6 27), [], ([0, 2, 3] ++ rg 5 28), [], []⟩
noncomputable def k164_2 : List PK := (ki 2 [.row sh6])
noncomputable def W164_2 (m : Nat) (k : Kont Int) : Cur k164_2 (Option Int) := L.heldMarkS_l0 m (exF k .ret ⟨((.one (.unk)) :: hh :: (hu 2 (hh :: (hu 28 [])))), [], []⟩ (ki 2 [])) (exF k (.exit 0) ⟨((.one (.unk)) :: hh :: (hu 31 [])), [], []⟩ [.int .i64])
noncomputable def E164_2 (m : Nat) : List Prm → Kont Int → Option Int := eL k164_2 (W164_2 m)
theorem ev164_2 (m : Nat) (k : Kont Int) (a : Args k164_2) : evL Tryz.prog G164 loopNil c164_2 (turn Tryz.prog (0, 0) H164_2 (E164_2 m) k) (H164_2.sk.fl (encP k164_2 a)) = unc k164_2 (W164_2 (m + 1) k) a := by kernel_rfl
theorem ok164_2 (m : Nat) : LoopOk Tryz.prog (0, 0) c164_2 (enter Tryz.prog (0, 0) H164_2 (E164_2 m)) := loop_gen (Fl := W164_2) (G := G164) (L := loopNil) envNil_good (no_loops (c := c164_2) (by kernel_rfl)) (fun _ _ => by kernel_rfl) ev164_2 m
noncomputable def L164 : LEnv Int := (loopCons 2 (enter Tryz.prog (0, 0) H164_2 (E164_2 fu)) loopNil)
theorem lq164 : loopsOf c164 = [c164_2] := by kernel_rfl
theorem fr164_2 : firstReg c164_2 = some 2 := by kernel_rfl
theorem le164_2 : L164 2 = enter Tryz.prog (0, 0) H164_2 (E164_2 fu) := by kernel_rfl
theorem lm164 : ∀ x ∈ [c164_2], ∀ id, firstReg x = some id → LoopOk Tryz.prog (0, 0) x (L164 id) := (loops_cons fr164_2 le164_2 (ok164_2 fu) loops_nil)
theorem lp164 : ∀ x ∈ loopsOf c164, ∀ id, firstReg x = some id → LoopOk Tryz.prog (0, 0) x (L164 id) := loops_eq lq164 lm164
noncomputable def sg164 : Sg := ⟨⟨[.one (.sl 0), hh], [], [(225, sh6, .ro)]⟩, [.int .i64, .row sh6], ⟨[hh], [], []⟩, [.int .i64]⟩
noncomputable def E164 : Fun2 := eOf sg164 L.heldMarkS
theorem ev164 (a : Args sg164.ks) : evS Tryz.prog G164 L164 (0, 0) [] Tryz.f164 c164 (kOf sg164) (sg164.sk.fl (encP sg164.ks a)) = unc sg164.ks L.heldMarkS a := by kernel_rfl
theorem good164 : Vm.Good Tryz.prog 164 E164 := good_gen (G := G164) (L := L164) (c := c164) (rn := []) (N := (0, 0)) envNil_good lp164 Tryz.func164 (by kernel_rfl) (by kernel_rfl) (fun _ => by kernel_rfl) ev164
noncomputable def G81 : Env := (envCons 164 [] E164 envNil)
noncomputable def c81 : Code := bodyOf Tryz.f81
noncomputable def L.heldMarks (a1 a2 : Int) (a3 : List (Int × Bool)) : Option Int :=
(Option.bind (L.heldMarkS a2 a3) fun r4 =>
(bif (decide (r4 < 0)) then
(some (-1))
else
(some r4)))
noncomputable def sg81 : Sg := ⟨⟨[.agg [.hole, .sl 0], hh], [], [(225, sh6, .ro)]⟩, (ki 2 [.row sh6]), ⟨[hh], [], []⟩, [.int .i64]⟩
noncomputable def E81 : Fun2 := eOf sg81 L.heldMarks
theorem ev81 (a : Args sg81.ks) : evS Tryz.prog G81 loopNil (0, 0) [] Tryz.f81 c81 (kOf sg81) (sg81.sk.fl (encP sg81.ks a)) = unc sg81.ks L.heldMarks a := by kernel_rfl
theorem good81 : Vm.Good Tryz.prog 81 E81 := good_gen (G := G81) (L := loopNil) (c := c81) (rn := []) (N := (0, 0)) (envCons_good good164 envNil_good) (no_loops (c := c81) (by kernel_rfl)) Tryz.func81 (by kernel_rfl) (by kernel_rfl) (fun _ => by kernel_rfl) ev81
noncomputable def G54 : Env := envNil
noncomputable def c54 : Code := bodyOf Tryz.f54
noncomputable def c54_2 : Code := (loopsOf c54).getD 0 .skip
noncomputable def L.heldIntS_l0 : Nat → (Int → Int → Option Int) → (Int → Option Int) → Int → Int → List Int → Option Int
  | 0, _, _, _, _, _ => none
  | m + 1, e2_0, e2_1, a3, a4, a5 =>
    (bif (decide (a4 < (a5.length : Int))) then
    (bif decide ((0 : Int) ≤ a4 ∧ a4 < (a5.length : Int)) then
    (bif ((nthI a5 a4 (0 : Int)) != a3) then
    (e2_0 a3 (-1))
    else
    (L.heldIntS_l0 m e2_0 e2_1 (IntKind.wrap .i64 (a3 + 1)) (IntKind.wrap .i64 (a4 + 1)) a5))
    else
    none)
    else
    (e2_1 a3))
noncomputable def L.heldIntS (a1 : Int) (a2 : List Int) : Option Int :=
(L.heldIntS_l0 fu (fun y11 y12 =>
(some y12)) (fun y13 =>
(some y13)) a1 0 a2)
noncomputable def H54_2 : LoopH := ⟨⟨((.one (.sl 0)) :: hh :: (hu 3 (hh :: (hu 15 [])))), [], [(3, (.int .i64), .ro)]⟩, ([2, 3, 4] ++ rg 6 15), [], ([0, 2, 3] ++ rg 5 16), [], []⟩
noncomputable def k54_2 : List PK := (ki 2 [.row (.int .i64)])
noncomputable def W54_2 (m : Nat) (k : Kont Int) : Cur k54_2 (Option Int) := L.heldIntS_l0 m (exF k .ret ⟨((.one (.unk)) :: hh :: (hu 2 (hh :: (hu 16 [])))), [], []⟩ (ki 2 [])) (exF k (.exit 0) ⟨((.one (.unk)) :: hh :: (hu 19 [])), [], []⟩ [.int .i64])
noncomputable def E54_2 (m : Nat) : List Prm → Kont Int → Option Int := eL k54_2 (W54_2 m)
theorem ev54_2 (m : Nat) (k : Kont Int) (a : Args k54_2) : evL Tryz.prog G54 loopNil c54_2 (turn Tryz.prog (0, 0) H54_2 (E54_2 m) k) (H54_2.sk.fl (encP k54_2 a)) = unc k54_2 (W54_2 (m + 1) k) a := by kernel_rfl
theorem ok54_2 (m : Nat) : LoopOk Tryz.prog (0, 0) c54_2 (enter Tryz.prog (0, 0) H54_2 (E54_2 m)) := loop_gen (Fl := W54_2) (G := G54) (L := loopNil) envNil_good (no_loops (c := c54_2) (by kernel_rfl)) (fun _ _ => by kernel_rfl) ev54_2 m
noncomputable def L54 : LEnv Int := (loopCons 2 (enter Tryz.prog (0, 0) H54_2 (E54_2 fu)) loopNil)
theorem lq54 : loopsOf c54 = [c54_2] := by kernel_rfl
theorem fr54_2 : firstReg c54_2 = some 2 := by kernel_rfl
theorem le54_2 : L54 2 = enter Tryz.prog (0, 0) H54_2 (E54_2 fu) := by kernel_rfl
theorem lm54 : ∀ x ∈ [c54_2], ∀ id, firstReg x = some id → LoopOk Tryz.prog (0, 0) x (L54 id) := (loops_cons fr54_2 le54_2 (ok54_2 fu) loops_nil)
theorem lp54 : ∀ x ∈ loopsOf c54, ∀ id, firstReg x = some id → LoopOk Tryz.prog (0, 0) x (L54 id) := loops_eq lq54 lm54
noncomputable def sg54 : Sg := ⟨⟨[.one (.sl 0), hh], [], [(3, (.int .i64), .ro)]⟩, [.int .i64, .row (.int .i64)], ⟨[hh], [], []⟩, [.int .i64]⟩
noncomputable def E54 : Fun2 := eOf sg54 L.heldIntS
theorem ev54 (a : Args sg54.ks) : evS Tryz.prog G54 L54 (0, 0) [] Tryz.f54 c54 (kOf sg54) (sg54.sk.fl (encP sg54.ks a)) = unc sg54.ks L.heldIntS a := by kernel_rfl
theorem good54 : Vm.Good Tryz.prog 54 E54 := good_gen (G := G54) (L := L54) (c := c54) (rn := []) (N := (0, 0)) envNil_good lp54 Tryz.func54 (by kernel_rfl) (by kernel_rfl) (fun _ => by kernel_rfl) ev54
noncomputable def G15 : Env := (envCons 54 [] E54 envNil)
noncomputable def c15 : Code := bodyOf Tryz.f15
noncomputable def c15_2 : Code := (loopsOf c15).getD 0 .skip
noncomputable def L.heldCellS_l0 : Nat → (Int → Int → Option Int) → (Int → Option Int) → Int → Int → (List ty5) → Option Int
  | 0, _, _, _, _, _ => none
  | m + 1, e2_0, e2_1, a3, a4, a5 =>
    (bif (decide (a4 < (a5.length : Int))) then
    (bif decide ((0 : Int) ≤ a4 ∧ a4 < (a5.length : Int)) then
    (let v8 : Bool := ((nthI a5 a4 df6).1 != a3)
    (bif v8 then
    (e2_0 a3 (-1))
    else
    (let v9 : Int := (IntKind.wrap .i64 (a3 + 1))
    (bif decide ((0 : Int) ≤ a4 ∧ a4 < (a5.length : Int)) then
    (let v10 : Bool := ((nthI a5 a4 df6).2.1 != v9)
    (bif v10 then
    (e2_0 v9 (-1))
    else
    (let v11 : Int := (IntKind.wrap .i64 (v9 + 1))
    (bif decide ((0 : Int) ≤ a4 ∧ a4 < (a5.length : Int)) then
    (let v12 : Bool := ((nthI a5 a4 df6).2.2.1 != v11)
    (bif v12 then
    (e2_0 v11 (-1))
    else
    (let v13 : Int := (IntKind.wrap .i64 (v11 + 1))
    (bif decide ((0 : Int) ≤ a4 ∧ a4 < (a5.length : Int)) then
    (let v14 : Bool := ((nthI a5 a4 df6).2.2.2.1 != v13)
    (bif v14 then
    (e2_0 v13 (-1))
    else
    (let v15 : Int := (IntKind.wrap .i64 (v13 + 1))
    (bif decide ((0 : Int) ≤ a4 ∧ a4 < (a5.length : Int)) then
    (let v16 : Bool := ((nthI a5 a4 df6).2.2.2.2.1 != v15)
    (bif v16 then
    (e2_0 v15 (-1))
    else
    (let v17 : Int := (IntKind.wrap .i64 (v15 + 1))
    (bif decide ((0 : Int) ≤ a4 ∧ a4 < (a5.length : Int)) then
    (let v18 : Bool := ((nthI a5 a4 df6).2.2.2.2.2.1 != v17)
    (bif v18 then
    (e2_0 v17 (-1))
    else
    (let v19 : Int := (IntKind.wrap .i64 (v17 + 1))
    (bif decide ((0 : Int) ≤ a4 ∧ a4 < (a5.length : Int)) then
    (let v20 : Bool := ((nthI a5 a4 df6).2.2.2.2.2.2.1.1 != v19)
    (bif v20 then
    (e2_0 v19 (-1))
    else
    (let v21 : Int := (IntKind.wrap .i64 (v19 + 1))
    (bif decide ((0 : Int) ≤ a4 ∧ a4 < (a5.length : Int)) then
    (let v23 : Bool := ((nthI a5 a4 df6).2.2.2.2.2.2.1.2 != (IntKind.wrap .u64 v21))
    (bif v23 then
    (e2_0 v21 (-1))
    else
    (let v24 : Int := (IntKind.wrap .i64 (v21 + 1))
    (bif decide ((0 : Int) ≤ a4 ∧ a4 < (a5.length : Int)) then
    (let v25 : Bool := ((nthI a5 a4 df6).2.2.2.2.2.2.2.1 != v24)
    (bif v25 then
    (e2_0 v24 (-1))
    else
    (let v26 : Int := (IntKind.wrap .i64 (v24 + 1))
    (bif decide ((0 : Int) ≤ a4 ∧ a4 < (a5.length : Int)) then
    (let v27 : Bool := ((nthI a5 a4 df6).2.2.2.2.2.2.2.2.1 != v26)
    (bif v27 then
    (e2_0 v26 (-1))
    else
    (bif decide ((0 : Int) ≤ a4 ∧ a4 < (a5.length : Int)) then
    (Option.bind (L.heldIntS (IntKind.wrap .i64 (v26 + 1)) ((nthI a5 a4 df6).2.2.2.2.2.2.2.2.2)) fun r29 =>
    (bif (decide (r29 < 0)) then
    (e2_0 r29 (-1))
    else
    (L.heldCellS_l0 m e2_0 e2_1 r29 (IntKind.wrap .i64 (a4 + 1)) a5)))
    else
    none)))
    else
    none))))
    else
    none))))
    else
    none))))
    else
    none))))
    else
    none))))
    else
    none))))
    else
    none))))
    else
    none))))
    else
    none))))
    else
    none)
    else
    (e2_1 a3))
noncomputable def L.heldCellS (a1 : Int) (a2 : List ty5) : Option Int :=
(L.heldCellS_l0 fu (fun y32 y33 =>
(some y33)) (fun y34 =>
(some y34)) a1 0 a2)
noncomputable def H15_2 : LoopH := ⟨⟨((.one (.sl 0)) :: hh :: (hu 3 (hh :: (hu 115 [])))), [], [(105, sh10, .ro)]⟩, ([2, 3, 4] ++ rg 6 115), [], ([0, 2, 3] ++ rg 5 116), [], []⟩
noncomputable def k15_2 : List PK := (ki 2 [.row sh10])
noncomputable def W15_2 (m : Nat) (k : Kont Int) : Cur k15_2 (Option Int) := L.heldCellS_l0 m (exF k .ret ⟨((.one (.unk)) :: hh :: (hu 2 (hh :: (hu 116 [])))), [], []⟩ (ki 2 [])) (exF k (.exit 0) ⟨((.one (.unk)) :: hh :: (hu 119 [])), [], []⟩ [.int .i64])
noncomputable def E15_2 (m : Nat) : List Prm → Kont Int → Option Int := eL k15_2 (W15_2 m)
theorem ev15_2 (m : Nat) (k : Kont Int) (a : Args k15_2) : evL Tryz.prog G15 loopNil c15_2 (turn Tryz.prog (0, 0) H15_2 (E15_2 m) k) (H15_2.sk.fl (encP k15_2 a)) = unc k15_2 (W15_2 (m + 1) k) a := by kernel_rfl
theorem ok15_2 (m : Nat) : LoopOk Tryz.prog (0, 0) c15_2 (enter Tryz.prog (0, 0) H15_2 (E15_2 m)) := loop_gen (Fl := W15_2) (G := G15) (L := loopNil) (envCons_good good54 envNil_good) (no_loops (c := c15_2) (by kernel_rfl)) (fun _ _ => by kernel_rfl) ev15_2 m
noncomputable def L15 : LEnv Int := (loopCons 2 (enter Tryz.prog (0, 0) H15_2 (E15_2 fu)) loopNil)
theorem lq15 : loopsOf c15 = [c15_2] := by kernel_rfl
theorem fr15_2 : firstReg c15_2 = some 2 := by kernel_rfl
theorem le15_2 : L15 2 = enter Tryz.prog (0, 0) H15_2 (E15_2 fu) := by kernel_rfl
theorem lm15 : ∀ x ∈ [c15_2], ∀ id, firstReg x = some id → LoopOk Tryz.prog (0, 0) x (L15 id) := (loops_cons fr15_2 le15_2 (ok15_2 fu) loops_nil)
theorem lp15 : ∀ x ∈ loopsOf c15, ∀ id, firstReg x = some id → LoopOk Tryz.prog (0, 0) x (L15 id) := loops_eq lq15 lm15
noncomputable def sg15 : Sg := ⟨⟨[.one (.sl 0), hh], [], [(105, sh10, .ro)]⟩, [.int .i64, .row sh10], ⟨[hh], [], []⟩, [.int .i64]⟩
noncomputable def E15 : Fun2 := eOf sg15 L.heldCellS
theorem ev15 (a : Args sg15.ks) : evS Tryz.prog G15 L15 (0, 0) [] Tryz.f15 c15 (kOf sg15) (sg15.sk.fl (encP sg15.ks a)) = unc sg15.ks L.heldCellS a := by kernel_rfl
theorem good15 : Vm.Good Tryz.prog 15 E15 := good_gen (G := G15) (L := L15) (c := c15) (rn := []) (N := (0, 0)) (envCons_good good54 envNil_good) lp15 Tryz.func15 (by kernel_rfl) (by kernel_rfl) (fun _ => by kernel_rfl) ev15
noncomputable def G165 : Env := (envCons 54 [] E54 envNil)
noncomputable def c165 : Code := bodyOf Tryz.f165
noncomputable def c165_2 : Code := (loopsOf c165).getD 0 .skip
noncomputable def L.heldItemS_l0 : Nat → (Int → Int → Option Int) → (Int → Option Int) → Int → Int → (List ty7) → Option Int
  | 0, _, _, _, _, _ => none
  | m + 1, e2_0, e2_1, a3, a4, a5 =>
    (bif (decide (a4 < (a5.length : Int))) then
    (bif decide ((0 : Int) ≤ a4 ∧ a4 < (a5.length : Int)) then
    (let v8 : Bool := ((nthI a5 a4 df7).1 != a3)
    (bif v8 then
    (e2_0 a3 (-1))
    else
    (let v9 : Int := (IntKind.wrap .i64 (a3 + 1))
    (bif decide ((0 : Int) ≤ a4 ∧ a4 < (a5.length : Int)) then
    (let v10 : Bool := ((nthI a5 a4 df7).2.1 != v9)
    (bif v10 then
    (e2_0 v9 (-1))
    else
    (let v11 : Int := (IntKind.wrap .i64 (v9 + 1))
    (bif decide ((0 : Int) ≤ a4 ∧ a4 < (a5.length : Int)) then
    (let v12 : Bool := ((nthI a5 a4 df7).2.2.1 != v11)
    (bif v12 then
    (e2_0 v11 (-1))
    else
    (let v13 : Int := (IntKind.wrap .i64 (v11 + 1))
    (bif decide ((0 : Int) ≤ a4 ∧ a4 < (a5.length : Int)) then
    (let v14 : Bool := ((nthI a5 a4 df7).2.2.2.1 != v13)
    (bif v14 then
    (e2_0 v13 (-1))
    else
    (let v15 : Int := (IntKind.wrap .i64 (v13 + 1))
    (bif decide ((0 : Int) ≤ a4 ∧ a4 < (a5.length : Int)) then
    (let v16 : Bool := ((nthI a5 a4 df7).2.2.2.2.1 != v15)
    (bif v16 then
    (e2_0 v15 (-1))
    else
    (let v17 : Int := (IntKind.wrap .i64 (v15 + 1))
    (bif decide ((0 : Int) ≤ a4 ∧ a4 < (a5.length : Int)) then
    (let v18 : Bool := ((nthI a5 a4 df7).2.2.2.2.2.1 != v17)
    (bif v18 then
    (e2_0 v17 (-1))
    else
    (let v19 : Int := (IntKind.wrap .i64 (v17 + 1))
    (bif decide ((0 : Int) ≤ a4 ∧ a4 < (a5.length : Int)) then
    (let v20 : Bool := ((nthI a5 a4 df7).2.2.2.2.2.2.1 != v19)
    (bif v20 then
    (e2_0 v19 (-1))
    else
    (let v21 : Int := (IntKind.wrap .i64 (v19 + 1))
    (bif decide ((0 : Int) ≤ a4 ∧ a4 < (a5.length : Int)) then
    (let v22 : Bool := ((nthI a5 a4 df7).2.2.2.2.2.2.2.1 != v21)
    (bif v22 then
    (e2_0 v21 (-1))
    else
    (bif decide ((0 : Int) ≤ a4 ∧ a4 < (a5.length : Int)) then
    (Option.bind (L.heldIntS (IntKind.wrap .i64 (v21 + 1)) ((nthI a5 a4 df7).2.2.2.2.2.2.2.2.1)) fun r24 =>
    (bif (decide (r24 < 0)) then
    (e2_0 r24 (-1))
    else
    (bif decide ((0 : Int) ≤ a4 ∧ a4 < (a5.length : Int)) then
    (bif decide (3 = 0) then
    none
    else
    (let v27 : Bool := (!((nthI a5 a4 df7).2.2.2.2.2.2.2.2.2 == ((Int.tmod r24 3) == 0)))
    (bif v27 then
    (e2_0 r24 (-1))
    else
    (L.heldItemS_l0 m e2_0 e2_1 (IntKind.wrap .i64 (r24 + 1)) (IntKind.wrap .i64 (a4 + 1)) a5))))
    else
    none)))
    else
    none)))
    else
    none))))
    else
    none))))
    else
    none))))
    else
    none))))
    else
    none))))
    else
    none))))
    else
    none))))
    else
    none)
    else
    (e2_1 a3))
noncomputable def L.heldItemS (a1 : Int) (a2 : List ty7) : Option Int :=
(L.heldItemS_l0 fu (fun y30 y31 =>
(some y31)) (fun y32 =>
(some y32)) a1 0 a2)
noncomputable def H165_2 : LoopH := ⟨⟨((.one (.sl 0)) :: hh :: (hu 3 (hh :: (hu 107 [])))), [], [(230, sh7, .ro)]⟩, ([2, 3, 4] ++ rg 6 107), [], ([0, 2, 3] ++ rg 5 108), [], []⟩
noncomputable def k165_2 : List PK := (ki 2 [.row sh7])
noncomputable def W165_2 (m : Nat) (k : Kont Int) : Cur k165_2 (Option Int) := L.heldItemS_l0 m (exF k .ret ⟨((.one (.unk)) :: hh :: (hu 2 (hh :: (hu 108 [])))), [], []⟩ (ki 2 [])) (exF k (.exit 0) ⟨((.one (.unk)) :: hh :: (hu 111 [])), [], []⟩ [.int .i64])
noncomputable def E165_2 (m : Nat) : List Prm → Kont Int → Option Int := eL k165_2 (W165_2 m)
theorem ev165_2 (m : Nat) (k : Kont Int) (a : Args k165_2) : evL Tryz.prog G165 loopNil c165_2 (turn Tryz.prog (0, 0) H165_2 (E165_2 m) k) (H165_2.sk.fl (encP k165_2 a)) = unc k165_2 (W165_2 (m + 1) k) a := by kernel_rfl
theorem ok165_2 (m : Nat) : LoopOk Tryz.prog (0, 0) c165_2 (enter Tryz.prog (0, 0) H165_2 (E165_2 m)) := loop_gen (Fl := W165_2) (G := G165) (L := loopNil) (envCons_good good54 envNil_good) (no_loops (c := c165_2) (by kernel_rfl)) (fun _ _ => by kernel_rfl) ev165_2 m
noncomputable def L165 : LEnv Int := (loopCons 2 (enter Tryz.prog (0, 0) H165_2 (E165_2 fu)) loopNil)
theorem lq165 : loopsOf c165 = [c165_2] := by kernel_rfl
theorem fr165_2 : firstReg c165_2 = some 2 := by kernel_rfl
theorem le165_2 : L165 2 = enter Tryz.prog (0, 0) H165_2 (E165_2 fu) := by kernel_rfl
theorem lm165 : ∀ x ∈ [c165_2], ∀ id, firstReg x = some id → LoopOk Tryz.prog (0, 0) x (L165 id) := (loops_cons fr165_2 le165_2 (ok165_2 fu) loops_nil)
theorem lp165 : ∀ x ∈ loopsOf c165, ∀ id, firstReg x = some id → LoopOk Tryz.prog (0, 0) x (L165 id) := loops_eq lq165 lm165
noncomputable def sg165 : Sg := ⟨⟨[.one (.sl 0), hh], [], [(230, sh7, .ro)]⟩, [.int .i64, .row sh7], ⟨[hh], [], []⟩, [.int .i64]⟩
noncomputable def E165 : Fun2 := eOf sg165 L.heldItemS
theorem ev165 (a : Args sg165.ks) : evS Tryz.prog G165 L165 (0, 0) [] Tryz.f165 c165 (kOf sg165) (sg165.sk.fl (encP sg165.ks a)) = unc sg165.ks L.heldItemS a := by kernel_rfl
theorem good165 : Vm.Good Tryz.prog 165 E165 := good_gen (G := G165) (L := L165) (c := c165) (rn := []) (N := (0, 0)) (envCons_good good54 envNil_good) lp165 Tryz.func165 (by kernel_rfl) (by kernel_rfl) (fun _ => by kernel_rfl) ev165
noncomputable def G166 : Env := envNil
noncomputable def c166 : Code := bodyOf Tryz.f166
noncomputable def c166_2 : Code := (loopsOf c166).getD 0 .skip
noncomputable def L.heldRecS_l0 : Nat → (Int → Int → Option Int) → (Int → Option Int) → Int → Int → (List (Int × Int × Int)) → Option Int
  | 0, _, _, _, _, _ => none
  | m + 1, e2_0, e2_1, a3, a4, a5 =>
    (bif (decide (a4 < (a5.length : Int))) then
    (bif decide ((0 : Int) ≤ a4 ∧ a4 < (a5.length : Int)) then
    (bif ((nthI a5 a4 df1).1 != a3) then
    (e2_0 a3 (-1))
    else
    (let v9 : Int := (IntKind.wrap .i64 (a3 + 1))
    (bif decide ((0 : Int) ≤ a4 ∧ a4 < (a5.length : Int)) then
    (bif ((nthI a5 a4 df1).2.1 != v9) then
    (e2_0 v9 (-1))
    else
    (let v11 : Int := (IntKind.wrap .i64 (v9 + 1))
    (bif decide ((0 : Int) ≤ a4 ∧ a4 < (a5.length : Int)) then
    (let v12 : Bool := ((nthI a5 a4 df1).2.2 != v11)
    (bif v12 then
    (e2_0 v11 (-1))
    else
    (L.heldRecS_l0 m e2_0 e2_1 (IntKind.wrap .i64 (v11 + 1)) (IntKind.wrap .i64 (a4 + 1)) a5)))
    else
    none)))
    else
    none)))
    else
    none)
    else
    (e2_1 a3))
noncomputable def L.heldRecS (a1 : Int) (a2 : List (Int × Int × Int)) : Option Int :=
(L.heldRecS_l0 fu (fun y15 y16 =>
(some y16)) (fun y17 =>
(some y17)) a1 0 a2)
noncomputable def H166_2 : LoopH := ⟨⟨((.one (.sl 0)) :: hh :: (hu 3 (hh :: (hu 34 [])))), [], [(233, sh3, .ro)]⟩, ([2, 3, 4] ++ rg 6 34), [], ([0, 2, 3] ++ rg 5 35), [], []⟩
noncomputable def k166_2 : List PK := (ki 2 [.row sh3])
noncomputable def W166_2 (m : Nat) (k : Kont Int) : Cur k166_2 (Option Int) := L.heldRecS_l0 m (exF k .ret ⟨((.one (.unk)) :: hh :: (hu 2 (hh :: (hu 35 [])))), [], []⟩ (ki 2 [])) (exF k (.exit 0) ⟨((.one (.unk)) :: hh :: (hu 38 [])), [], []⟩ [.int .i64])
noncomputable def E166_2 (m : Nat) : List Prm → Kont Int → Option Int := eL k166_2 (W166_2 m)
theorem ev166_2 (m : Nat) (k : Kont Int) (a : Args k166_2) : evL Tryz.prog G166 loopNil c166_2 (turn Tryz.prog (0, 0) H166_2 (E166_2 m) k) (H166_2.sk.fl (encP k166_2 a)) = unc k166_2 (W166_2 (m + 1) k) a := by kernel_rfl
theorem ok166_2 (m : Nat) : LoopOk Tryz.prog (0, 0) c166_2 (enter Tryz.prog (0, 0) H166_2 (E166_2 m)) := loop_gen (Fl := W166_2) (G := G166) (L := loopNil) envNil_good (no_loops (c := c166_2) (by kernel_rfl)) (fun _ _ => by kernel_rfl) ev166_2 m
noncomputable def L166 : LEnv Int := (loopCons 2 (enter Tryz.prog (0, 0) H166_2 (E166_2 fu)) loopNil)
theorem lq166 : loopsOf c166 = [c166_2] := by kernel_rfl
theorem fr166_2 : firstReg c166_2 = some 2 := by kernel_rfl
theorem le166_2 : L166 2 = enter Tryz.prog (0, 0) H166_2 (E166_2 fu) := by kernel_rfl
theorem lm166 : ∀ x ∈ [c166_2], ∀ id, firstReg x = some id → LoopOk Tryz.prog (0, 0) x (L166 id) := (loops_cons fr166_2 le166_2 (ok166_2 fu) loops_nil)
theorem lp166 : ∀ x ∈ loopsOf c166, ∀ id, firstReg x = some id → LoopOk Tryz.prog (0, 0) x (L166 id) := loops_eq lq166 lm166
noncomputable def sg166 : Sg := ⟨⟨[.one (.sl 0), hh], [], [(233, sh3, .ro)]⟩, [.int .i64, .row sh3], ⟨[hh], [], []⟩, [.int .i64]⟩
noncomputable def E166 : Fun2 := eOf sg166 L.heldRecS
theorem ev166 (a : Args sg166.ks) : evS Tryz.prog G166 L166 (0, 0) [] Tryz.f166 c166 (kOf sg166) (sg166.sk.fl (encP sg166.ks a)) = unc sg166.ks L.heldRecS a := by kernel_rfl
theorem good166 : Vm.Good Tryz.prog 166 E166 := good_gen (G := G166) (L := L166) (c := c166) (rn := []) (N := (0, 0)) envNil_good lp166 Tryz.func166 (by kernel_rfl) (by kernel_rfl) (fun _ => by kernel_rfl) ev166
noncomputable def G82 : Env := (envCons 165 [] E165 (envCons 166 [] E166 envNil))
noncomputable def c82 : Code := bodyOf Tryz.f82
noncomputable def c82_2 : Code := (loopsOf c82).getD 0 .skip
noncomputable def L.heldBoxS_l0 : Nat → (Int → Int → Option Int) → (Int → Option Int) → Int → Int → (List ty3) → Option Int
  | 0, _, _, _, _, _ => none
  | m + 1, e2_0, e2_1, a3, a4, a5 =>
    (bif (decide (a4 < (a5.length : Int))) then
    (bif decide ((0 : Int) ≤ a4 ∧ a4 < (a5.length : Int)) then
    (let v8 : Bool := ((nthI a5 a4 df8).1 != a3)
    (bif v8 then
    (e2_0 a3 (-1))
    else
    (let v9 : Int := (IntKind.wrap .i64 (a3 + 1))
    (bif decide ((0 : Int) ≤ a4 ∧ a4 < (a5.length : Int)) then
    (let v10 : Bool := ((nthI a5 a4 df8).2.1 != v9)
    (bif v10 then
    (e2_0 v9 (-1))
    else
    (let v11 : Int := (IntKind.wrap .i64 (v9 + 1))
    (bif decide ((0 : Int) ≤ a4 ∧ a4 < (a5.length : Int)) then
    (let v12 : Bool := ((nthI a5 a4 df8).2.2.1 != v11)
    (bif v12 then
    (e2_0 v11 (-1))
    else
    (let v13 : Int := (IntKind.wrap .i64 (v11 + 1))
    (bif decide ((0 : Int) ≤ a4 ∧ a4 < (a5.length : Int)) then
    (let v14 : Bool := ((nthI a5 a4 df8).2.2.2.1 != v13)
    (bif v14 then
    (e2_0 v13 (-1))
    else
    (bif decide ((0 : Int) ≤ a4 ∧ a4 < (a5.length : Int)) then
    (Option.bind (L.heldItemS (IntKind.wrap .i64 (v13 + 1)) ((nthI a5 a4 df8).2.2.2.2.1)) fun r16 =>
    (bif (decide (r16 < 0)) then
    (e2_0 r16 (-1))
    else
    (bif decide ((0 : Int) ≤ a4 ∧ a4 < (a5.length : Int)) then
    (Option.bind (L.heldRecS r16 ((nthI a5 a4 df8).2.2.2.2.2)) fun r18 =>
    (bif (decide (r18 < 0)) then
    (e2_0 r18 (-1))
    else
    (L.heldBoxS_l0 m e2_0 e2_1 r18 (IntKind.wrap .i64 (a4 + 1)) a5)))
    else
    none)))
    else
    none)))
    else
    none))))
    else
    none))))
    else
    none))))
    else
    none)
    else
    (e2_1 a3))
noncomputable def L.heldBoxS (a1 : Int) (a2 : List ty3) : Option Int :=
(L.heldBoxS_l0 fu (fun y21 y22 =>
(some y22)) (fun y23 =>
(some y23)) a1 0 a2)
noncomputable def H82_2 : LoopH := ⟨⟨((.one (.sl 0)) :: hh :: (hu 3 (hh :: (hu 61 [])))), [], [(122, sh8, .ro)]⟩, ([2, 3, 4] ++ rg 6 61), [], ([0, 2, 3] ++ rg 5 62), [], []⟩
noncomputable def k82_2 : List PK := (ki 2 [.row sh8])
noncomputable def W82_2 (m : Nat) (k : Kont Int) : Cur k82_2 (Option Int) := L.heldBoxS_l0 m (exF k .ret ⟨((.one (.unk)) :: hh :: (hu 2 (hh :: (hu 62 [])))), [], []⟩ (ki 2 [])) (exF k (.exit 0) ⟨((.one (.unk)) :: hh :: (hu 65 [])), [], []⟩ [.int .i64])
noncomputable def E82_2 (m : Nat) : List Prm → Kont Int → Option Int := eL k82_2 (W82_2 m)
theorem ev82_2 (m : Nat) (k : Kont Int) (a : Args k82_2) : evL Tryz.prog G82 loopNil c82_2 (turn Tryz.prog (0, 0) H82_2 (E82_2 m) k) (H82_2.sk.fl (encP k82_2 a)) = unc k82_2 (W82_2 (m + 1) k) a := by kernel_rfl
theorem ok82_2 (m : Nat) : LoopOk Tryz.prog (0, 0) c82_2 (enter Tryz.prog (0, 0) H82_2 (E82_2 m)) := loop_gen (Fl := W82_2) (G := G82) (L := loopNil) (envCons_good good165 (envCons_good good166 envNil_good)) (no_loops (c := c82_2) (by kernel_rfl)) (fun _ _ => by kernel_rfl) ev82_2 m
noncomputable def L82 : LEnv Int := (loopCons 2 (enter Tryz.prog (0, 0) H82_2 (E82_2 fu)) loopNil)
theorem lq82 : loopsOf c82 = [c82_2] := by kernel_rfl
theorem fr82_2 : firstReg c82_2 = some 2 := by kernel_rfl
theorem le82_2 : L82 2 = enter Tryz.prog (0, 0) H82_2 (E82_2 fu) := by kernel_rfl
theorem lm82 : ∀ x ∈ [c82_2], ∀ id, firstReg x = some id → LoopOk Tryz.prog (0, 0) x (L82 id) := (loops_cons fr82_2 le82_2 (ok82_2 fu) loops_nil)
theorem lp82 : ∀ x ∈ loopsOf c82, ∀ id, firstReg x = some id → LoopOk Tryz.prog (0, 0) x (L82 id) := loops_eq lq82 lm82
noncomputable def sg82 : Sg := ⟨⟨[.one (.sl 0), hh], [], [(122, sh8, .ro)]⟩, [.int .i64, .row sh8], ⟨[hh], [], []⟩, [.int .i64]⟩
noncomputable def E82 : Fun2 := eOf sg82 L.heldBoxS
theorem ev82 (a : Args sg82.ks) : evS Tryz.prog G82 L82 (0, 0) [] Tryz.f82 c82 (kOf sg82) (sg82.sk.fl (encP sg82.ks a)) = unc sg82.ks L.heldBoxS a := by kernel_rfl
theorem good82 : Vm.Good Tryz.prog 82 E82 := good_gen (G := G82) (L := L82) (c := c82) (rn := []) (N := (0, 0)) (envCons_good good165 (envCons_good good166 envNil_good)) lp82 Tryz.func82 (by kernel_rfl) (by kernel_rfl) (fun _ => by kernel_rfl) ev82
noncomputable def G24 : Env := (envCons 79 [] E79 (envCons 80 [] E80 (envCons 81 [] E81 (envCons 15 [] E15 (envCons 54 [] E54 (envCons 82 [] E82 envNil))))))
noncomputable def c24 : Code := bodyOf Tryz.f24
noncomputable def L.heldEng (a1 a2 a3 a4 a5 : Int) (a6 : List Int) (a7 : List ty6) (a8 : List (Int × Int × Int)) (a9 : List ty10) (a10 : List (Int × Int × Int × Int)) (a11 : List (Int × Bool)) (a12 : List ty5) (a13 a14 : List Int) (a15 : List ty3) : Option Int :=
(Option.bind (L.heldConf a1 a2 a3 a5 a6 a7 a8 a9) fun r16 =>
(bif (decide (r16 < 0)) then
(some (-1))
else
(Option.bind (L.heldPunctS r16 a10) fun r18 =>
(bif (decide (r18 < 0)) then
(some (-1))
else
(Option.bind (L.heldMarks a4 r18 a11) fun r20 =>
(bif (decide (r20 < 0)) then
(some (-1))
else
(Option.bind (L.heldCellS r20 a12) fun r22 =>
(bif (decide (r22 < 0)) then
(some (-1))
else
(Option.bind (L.heldIntS r22 a13) fun r24 =>
(bif (decide (r24 < 0)) then
(some (-1))
else
(Option.bind (L.heldIntS r24 a14) fun r26 =>
(bif (decide (r26 < 0)) then
(some (-1))
else
(Option.bind (L.heldBoxS r26 a15) fun r28 =>
(bif (decide (r28 < 0)) then
(some (-1))
else
(some r28)))))))))))))))
noncomputable def sg24 : Sg := ⟨⟨[.agg ((.hole) :: (.sl 0) :: (ho 2 [.sl 1, .sl 2, .sl 3, .sl 4, .hole, .sl 5, .sl 6, .sl 7, .sl 8, .sl 9])), hh], [], [(87, (.int .u64), .ro), (190, sh5, .ro), (126, sh3, .ro), (159, sh4, .ro), (156, sh9, .ro), (225, sh6, .ro), (105, sh10, .ro), (3, (.int .i64), .ro), (3, (.int .i64), .ro), (122, sh8, .ro)]⟩, (ki 5 [.row (.int .u64), .row sh5, .row sh3, .row sh4, .row sh9, .row sh6, .row sh10, .row (.int .i64), .row (.int .i64), .row sh8]), ⟨[hh], [], []⟩, [.int .i64]⟩
noncomputable def E24 : Fun2 := eOf sg24 L.heldEng
theorem ev24 (a : Args sg24.ks) : evS Tryz.prog G24 loopNil (0, 0) [] Tryz.f24 c24 (kOf sg24) (sg24.sk.fl (encP sg24.ks a)) = unc sg24.ks L.heldEng a := by kernel_rfl
theorem good24 : Vm.Good Tryz.prog 24 E24 := good_gen (G := G24) (L := loopNil) (c := c24) (rn := []) (N := (0, 0)) (envCons_good good79 (envCons_good good80 (envCons_good good81 (envCons_good good15 (envCons_good good54 (envCons_good good82 envNil_good)))))) (no_loops (c := c24) (by kernel_rfl)) Tryz.func24 (by kernel_rfl) (by kernel_rfl) (fun _ => by kernel_rfl) ev24
noncomputable def G4 : Env := (envCons 16 [] E16 (envCons 18 [] E18 (envCons 17 [] E17 (envCons 19 [] E19 (envCons 20 [] E20 (envCons 21 [] E21 (envCons 22 [1, 4, 5, 6] E22 (envCons 23 [1, 4, 5, 6, 7, 9, 10, 11, 12, 13] E23 (envCons 24 [] E24 envNil)))))))))
noncomputable def c4 : Code := bodyOf Tryz.f4
noncomputable def L.FnExactEngNew (a1 a2 a3 : Int) (a4 : List Int) (a5 : List ty6) (a6 : List (Int × Int × Int)) (a7 : List ty10) : Option Bool :=
(Option.bind (L.szConf a1 a2 a3 1048576 a4 a5 a6 a7) fun r8 =>
(bif (decide (r8 < 0)) then
(some true)
else
(Option.bind (L.toConf a1 a2 a3 a4 a5 a6 a7) fun r10 =>
(Option.bind (S.EngNew r10.1 r10.2.1 r10.2.2.1 r10.2.2.2.1 r10.2.2.2.2.1 r10.2.2.2.2.2.1 r10.2.2.2.2.2.2) fun r11 =>
(Option.bind (L.toConf a1 a2 a3 a4 a5 a6 a7) fun r12 =>
(Option.bind (I.EngNew r12.1 r12.2.1 r12.2.2.1 r12.2.2.2.1 r12.2.2.2.2.1 r12.2.2.2.2.2.1 r12.2.2.2.2.2.2) fun r13 =>
(Option.bind (L.eqEng r13.1 r13.2.1 r13.2.2.1 r13.2.2.2.1 r11.1 r11.2.1 r11.2.2.1 r11.2.2.2.1 r13.2.2.2.2.2.1 r13.2.2.2.2.2.2.1 r13.2.2.2.2.2.2.2.1 r13.2.2.2.2.2.2.2.2.1 r13.2.2.2.2.2.2.2.2.2.1 r13.2.2.2.2.2.2.2.2.2.2.1 r13.2.2.2.2.2.2.2.2.2.2.2.1 r13.2.2.2.2.2.2.2.2.2.2.2.2.1 r13.2.2.2.2.2.2.2.2.2.2.2.2.2.1 r13.2.2.2.2.2.2.2.2.2.2.2.2.2.2 r11.2.2.2.2.2.1 r11.2.2.2.2.2.2.1 r11.2.2.2.2.2.2.2.1 r11.2.2.2.2.2.2.2.2.1 r11.2.2.2.2.2.2.2.2.2.1 r11.2.2.2.2.2.2.2.2.2.2.1 r11.2.2.2.2.2.2.2.2.2.2.2.1 r11.2.2.2.2.2.2.2.2.2.2.2.2.1 r11.2.2.2.2.2.2.2.2.2.2.2.2.2.1 r11.2.2.2.2.2.2.2.2.2.2.2.2.2.2) fun r14 =>
(bif (!r14) then
(some false)
else
(bif (!(r13.2.2.2.2.1 == r11.2.2.2.2.1)) then
(some false)
else
(Option.bind (L.toConf a1 a2 a3 a4 a5 a6 a7) fun r16 =>
(Option.bind (L.eqConf r12.1 r12.2.1 r12.2.2.1 r16.1 r16.2.1 r16.2.2.1 r12.2.2.2.1 r12.2.2.2.2.1 r12.2.2.2.2.2.1 r12.2.2.2.2.2.2 r16.2.2.2.1 r16.2.2.2.2.1 r16.2.2.2.2.2.1 r16.2.2.2.2.2.2) fun r17 =>
(bif (!r17) then
(some false)
else
(Option.bind (L.markConf r12.1 r12.2.1 r12.2.2.1 1 r12.2.2.2.1 r12.2.2.2.2.1 r12.2.2.2.2.2.1 r12.2.2.2.2.2.2) fun r18 =>
(bif (decide (r18.1 < 0)) then
(some false)
else
(Option.bind (L.eqEng r13.1 r13.2.1 r13.2.2.1 r13.2.2.2.1 r11.1 r11.2.1 r11.2.2.1 r11.2.2.2.1 r13.2.2.2.2.2.1 r13.2.2.2.2.2.2.1 r13.2.2.2.2.2.2.2.1 r13.2.2.2.2.2.2.2.2.1 r13.2.2.2.2.2.2.2.2.2.1 r13.2.2.2.2.2.2.2.2.2.2.1 r13.2.2.2.2.2.2.2.2.2.2.2.1 r13.2.2.2.2.2.2.2.2.2.2.2.2.1 r13.2.2.2.2.2.2.2.2.2.2.2.2.2.1 r13.2.2.2.2.2.2.2.2.2.2.2.2.2.2 r11.2.2.2.2.2.1 r11.2.2.2.2.2.2.1 r11.2.2.2.2.2.2.2.1 r11.2.2.2.2.2.2.2.2.1 r11.2.2.2.2.2.2.2.2.2.1 r11.2.2.2.2.2.2.2.2.2.2.1 r11.2.2.2.2.2.2.2.2.2.2.2.1 r11.2.2.2.2.2.2.2.2.2.2.2.2.1 r11.2.2.2.2.2.2.2.2.2.2.2.2.2.1 r11.2.2.2.2.2.2.2.2.2.2.2.2.2.2) fun r20 =>
(bif (!r20) then
(some false)
else
(bif (!(r13.2.2.2.2.1 == r11.2.2.2.2.1)) then
(some false)
else
(Option.bind (L.markEng r13.1 r13.2.1 r13.2.2.1 r13.2.2.2.1 1 r13.2.2.2.2.2.1 r13.2.2.2.2.2.2.1 r13.2.2.2.2.2.2.2.1 r13.2.2.2.2.2.2.2.2.1 r13.2.2.2.2.2.2.2.2.2.1 r13.2.2.2.2.2.2.2.2.2.2.1 r13.2.2.2.2.2.2.2.2.2.2.2.1 r13.2.2.2.2.2.2.2.2.2.2.2.2.1 r13.2.2.2.2.2.2.2.2.2.2.2.2.2.1 r13.2.2.2.2.2.2.2.2.2.2.2.2.2.2) fun r22 =>
(Option.bind (L.heldEng r13.1 r13.2.1 r13.2.2.1 r13.2.2.2.1 1 r22.2.1 r22.2.2.1 r22.2.2.2.1 r22.2.2.2.2.1 r22.2.2.2.2.2.1 r22.2.2.2.2.2.2.1 r22.2.2.2.2.2.2.2.1 r22.2.2.2.2.2.2.2.2.1 r22.2.2.2.2.2.2.2.2.2.1 r22.2.2.2.2.2.2.2.2.2.2) fun r23 =>
(bif (decide (r23 < 0)) then
(some false)
else
(bif (r23 != r22.1) then
(some false)
else
(Option.bind (L.toConf a1 a2 a3 a4 a5 a6 a7) fun r25 =>
(Option.bind (I.EngNew r25.1 r25.2.1 r25.2.2.1 r25.2.2.2.1 r25.2.2.2.2.1 r25.2.2.2.2.2.1 r25.2.2.2.2.2.2) fun r26 =>
(Option.bind (L.eqEng r26.1 r26.2.1 r26.2.2.1 r26.2.2.2.1 r11.1 r11.2.1 r11.2.2.1 r11.2.2.2.1 r26.2.2.2.2.2.1 r26.2.2.2.2.2.2.1 r26.2.2.2.2.2.2.2.1 r26.2.2.2.2.2.2.2.2.1 r26.2.2.2.2.2.2.2.2.2.1 r26.2.2.2.2.2.2.2.2.2.2.1 r26.2.2.2.2.2.2.2.2.2.2.2.1 r26.2.2.2.2.2.2.2.2.2.2.2.2.1 r26.2.2.2.2.2.2.2.2.2.2.2.2.2.1 r26.2.2.2.2.2.2.2.2.2.2.2.2.2.2 r11.2.2.2.2.2.1 r11.2.2.2.2.2.2.1 r11.2.2.2.2.2.2.2.1 r11.2.2.2.2.2.2.2.2.1 r11.2.2.2.2.2.2.2.2.2.1 r11.2.2.2.2.2.2.2.2.2.2.1 r11.2.2.2.2.2.2.2.2.2.2.2.1 r11.2.2.2.2.2.2.2.2.2.2.2.2.1 r11.2.2.2.2.2.2.2.2.2.2.2.2.2.1 r11.2.2.2.2.2.2.2.2.2.2.2.2.2.2) fun r27 =>
(bif (!r27) then
(some false)
else
(bif (!(r26.2.2.2.2.1 == r11.2.2.2.2.1)) then
(some false)
else
(Option.bind (L.heldEng r13.1 r13.2.1 r13.2.2.1 r13.2.2.2.1 1 r22.2.1 r22.2.2.1 r22.2.2.2.1 r22.2.2.2.2.1 r22.2.2.2.2.2.1 r22.2.2.2.2.2.2.1 r22.2.2.2.2.2.2.2.1 r22.2.2.2.2.2.2.2.2.1 r22.2.2.2.2.2.2.2.2.2.1 r22.2.2.2.2.2.2.2.2.2.2) fun r29 =>
(bif (decide (r29 < 0)) then
(some false)
else
(bif (r29 != r22.1) then
(some false)
else
(some true))))))))))))))))))))))))))))))
noncomputable def sg4 : Sg := ⟨⟨[.agg ((.hole) :: (.sl 0) :: (ho 2 [.sl 1, .sl 2, .sl 3]))], [], [(87, (.int .u64), .ro), (185, sh2, .ro), (194, sh3, .ro), (196, sh4, .ro)]⟩, (ki 3 [.row (.int .u64), .row sh2, .row sh3, .row sh4]), ⟨[hh], [], []⟩, [.bool]⟩
noncomputable def E4 : Fun2 := eOf sg4 L.FnExactEngNew
theorem ev4 (a : Args sg4.ks) : evS Tryz.prog G4 loopNil (0, 0) [] Tryz.f4 c4 (kOf sg4) (sg4.sk.fl (encP sg4.ks a)) = unc sg4.ks L.FnExactEngNew a := by kernel_rfl
theorem good4 : Vm.Good Tryz.prog 4 E4 := good_gen (G := G4) (L := loopNil) (c := c4) (rn := []) (N := (0, 0)) (envCons_good good16 (envCons_good good18 (envCons_good good17 (envCons_good good19 (envCons_good good20 (envCons_good good21 (envCons_good good22 (envCons_good good23 (envCons_good good24 envNil_good))))))))) (no_loops (c := c4) (by kernel_rfl)) Tryz.func4 (by kernel_rfl) (by kernel_rfl) (fun _ => by kernel_rfl) ev4
end Go.Proofs.YtidojhgkpgomcaaGreat.Run
