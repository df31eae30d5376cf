import Derived.Test.YthddkomphkanbaaGnSeenByA
namespace Go.Proofs.Ythddkomphkanbaa.Run
open Go Go.RowKit Go.Proofs.YthddkomphkanbaaW.PrintWords Go.Proofs.Ythddkomphkanbaa.Vm
set_option linter.unusedVariables false
set_option maxRecDepth 100000

/-! ### I.isConf -/
noncomputable def G144 : Env := (envCons 107 [] E107 (envCons 178 [] E178 (envCons 165 [] E165 (envCons 145 [] E145 (envCons 177 [] E177 envNil)))))
noncomputable def c144 : Code := bodyOf Try.f144
noncomputable def c144_4 : Code := (loopsOf c144).getD 0 .skip
noncomputable def c144_10 : Code := (loopsOf c144).getD 1 .skip
noncomputable def c144_16 : Code := (loopsOf c144).getD 2 .skip
noncomputable def I.isConf_l0 : Nat → (Bool → Int → Int → Int → List Int → (List (List (Int × Int) × List (Int × Int) × (Int × Int × Int) × Int × Int)) → (List (Int × Int × Int)) → (List (Int × Int × Int × Int × Int)) → Option Bool) → (Int → Int → Int → List Int → (List (List (Int × Int) × List (Int × Int) × (Int × Int × Int) × Int × Int)) → (List (Int × Int × Int)) → (List (Int × Int × Int × Int × Int)) → Option Bool) → Int → Int → Int → Int → Int → (List (List (Int × Int) × List (Int × Int) × (Int × Int × Int) × Int × Int)) → List Int → (List (Int × Int × Int)) → (List (Int × Int × Int × Int × Int)) → Option Bool
  | 0, _, _, _, _, _, _, _, _, _, _, _ => none
  | m + 1, e4_0, e4_1, a18, a19, a20, a21, a22, a23, a24, a25, a26 =>
    (bif (decide (a19 < a18)) then
    (bif decide ((0 : Int) ≤ a19 ∧ a19 < (a23.length : Int)) then
    (Option.bind (I.isQuery ((nthI a23 a19 ([], ([], (((0 : Int), ((0 : Int), (0 : Int))), ((0 : Int), (0 : Int)))))).2.2.1.1) ((nthI a23 a19 ([], ([], (((0 : Int), ((0 : Int), (0 : Int))), ((0 : Int), (0 : Int)))))).2.2.1.2.1) ((nthI a23 a19 ([], ([], (((0 : Int), ((0 : Int), (0 : Int))), ((0 : Int), (0 : Int)))))).2.2.1.2.2) ((nthI a23 a19 ([], ([], (((0 : Int), ((0 : Int), (0 : Int))), ((0 : Int), (0 : Int)))))).2.2.2.1) ((nthI a23 a19 ([], ([], (((0 : Int), ((0 : Int), (0 : Int))), ((0 : Int), (0 : Int)))))).2.2.2.2) ((nthI a23 a19 ([], ([], (((0 : Int), ((0 : Int), (0 : Int))), ((0 : Int), (0 : Int)))))).1) ((nthI a23 a19 ([], ([], (((0 : Int), ((0 : Int), (0 : Int))), ((0 : Int), (0 : Int)))))).2.1)) fun r28 =>
    (bif (!r28) then
    (e4_0 false a20 a21 a22 a24 a23 a25 a26)
    else
    (I.isConf_l0 m e4_0 e4_1 a18 (IntKind.wrap .i64 (a19 + 1)) a20 a21 a22 a23 a24 a25 a26)))
    else
    none)
    else
    (e4_1 a20 a21 a22 a24 a23 a25 a26))
noncomputable def I.isConf_l1 : Nat → (Bool → Int → Int → Int → List Int → (List (List (Int × Int) × List (Int × Int) × (Int × Int × Int) × Int × Int)) → (List (Int × Int × Int)) → (List (Int × Int × Int × Int × Int)) → Option Bool) → (Int → Int → Int → List Int → (List (List (Int × Int) × List (Int × Int) × (Int × Int × Int) × Int × Int)) → (List (Int × Int × Int)) → (List (Int × Int × Int × Int × Int)) → Option Bool) → Int → Int → Int → Int → Int → (List (Int × Int × Int)) → List Int → (List (List (Int × Int) × List (Int × Int) × (Int × Int × Int) × Int × Int)) → (List (Int × Int × Int × Int × Int)) → Option Bool
  | 0, _, _, _, _, _, _, _, _, _, _, _ => none
  | m + 1, e10_0, e10_1, a46, a47, a48, a49, a50, a51, a52, a53, a54 =>
    (bif (decide (a47 < a46)) then
    (bif decide ((0 : Int) ≤ a47 ∧ a47 < (a51.length : Int)) then
    (Option.bind (I.Lat_has a48 ((nthI a51 a47 ((0 : Int), ((0 : Int), (0 : Int)))).1) a52) fun r56 =>
    (bif (!r56) then
    (e10_0 false a48 a49 a50 a52 a53 a51 a54)
    else
    (Option.bind (I.isCap ((nthI a51 a47 ((0 : Int), ((0 : Int), (0 : Int)))).2.1)) fun r57 =>
    (bif (!r57) then
    (e10_0 false a48 a49 a50 a52 a53 a51 a54)
    else
    (Option.bind (I.isCap ((nthI a51 a47 ((0 : Int), ((0 : Int), (0 : Int)))).2.2)) fun r58 =>
    (bif (!r58) then
    (e10_0 false a48 a49 a50 a52 a53 a51 a54)
    else
    (I.isConf_l1 m e10_0 e10_1 a46 (IntKind.wrap .i64 (a47 + 1)) a48 a49 a50 a51 a52 a53 a54)))))))
    else
    none)
    else
    (e10_1 a48 a49 a50 a52 a53 a51 a54))
noncomputable def I.isConf_l2 : Nat → (Bool → Option Bool) → (Option Bool) → Int → Int → Int → Int → Int → (List (Int × Int × Int × Int × Int)) → List Int → (List (List (Int × Int) × List (Int × Int) × (Int × Int × Int) × Int × Int)) → (List (Int × Int × Int)) → Option Bool
  | 0, _, _, _, _, _, _, _, _, _, _, _ => none
  | m + 1, e16_0, e16_1, a76, a77, a78, a79, a80, a81, a82, a83, a84 =>
    (bif (decide (a77 < a76)) then
    (bif decide ((0 : Int) ≤ a77 ∧ a77 < (a81.length : Int)) then
    (Option.bind (I.in ((nthI a81 a77 ((0 : Int), ((0 : Int), ((0 : Int), ((0 : Int), (0 : Int)))))).1) 0 (IntKind.wrap .i64 ((a83.length : Int) - 1))) fun r88 =>
    (bif (!r88) then
    (e16_0 false)
    else
    (Option.bind (I.Lat_has a78 ((nthI a81 a77 ((0 : Int), ((0 : Int), ((0 : Int), ((0 : Int), (0 : Int)))))).2.1) a82) fun r89 =>
    (bif (!r89) then
    (e16_0 false)
    else
    (Option.bind (I.Lat_has a78 ((nthI a81 a77 ((0 : Int), ((0 : Int), ((0 : Int), ((0 : Int), (0 : Int)))))).2.2.1) a82) fun r90 =>
    (bif (!r90) then
    (e16_0 false)
    else
    (Option.bind (I.in ((nthI a81 a77 ((0 : Int), ((0 : Int), ((0 : Int), ((0 : Int), (0 : Int)))))).2.2.2.1) 1 1000000) fun r91 =>
    (bif (!r91) then
    (e16_0 false)
    else
    (Option.bind (I.in ((nthI a81 a77 ((0 : Int), ((0 : Int), ((0 : Int), ((0 : Int), (0 : Int)))))).2.2.2.2) 0 20) fun r92 =>
    (bif (!r92) then
    (e16_0 false)
    else
    (I.isConf_l2 m e16_0 e16_1 a76 (IntKind.wrap .i64 (a77 + 1)) a78 a79 a80 a81 a82 a83 a84)))))))))))
    else
    none)
    else
    e16_1)
noncomputable def I.isConf (a1 a2 a3 : Int) (a4 : List Int) (a5 : List (List (Int × Int) × List (Int × Int) × (Int × Int × Int) × Int × Int)) (a6 : List (Int × Int × Int)) (a7 : List (Int × Int × Int × Int × Int)) : Option Bool :=
(Option.bind (I.isLat a1 a4) fun r8 =>
(bif (!r8) then
(some false)
else
(Option.bind (I.in a2 1 4) fun r9 =>
(bif (!r9) then
(some false)
else
(Option.bind (I.in a3 1 30) fun r10 =>
(bif (!r10) then
(some false)
else
(Option.bind (I.in (a5.length : Int) 1 4) fun r12 =>
(bif (!r12) then
(some false)
else
(Option.bind (I.in (a6.length : Int) 1 4) fun r14 =>
(bif (!r14) then
(some false)
else
(bif (decide (3 < (a7.length : Int))) then
(some false)
else
(I.isConf_l0 fu (fun y30 y31 y32 y33 y34 y35 y36 y37 =>
(some y30)) (fun y38 y39 y40 y41 y42 y43 y44 =>
(I.isConf_l1 fu (fun y60 y61 y62 y63 y64 y65 y66 y67 =>
(some y60)) (fun y68 y69 y70 y71 y72 y73 y74 =>
(I.isConf_l2 fu (fun y94 =>
(some y94)) (some true) (y74.length : Int) 0 y68 y69 y70 y74 y71 y72 y73)) (y43.length : Int) 0 y38 y39 y40 y43 y41 y42 y44)) (a5.length : Int) 0 a1 a2 a3 a5 a4 a6 a7))))))))))))
noncomputable def H144_4 : LoopH := ⟨⟨((.one (.unk)) :: (.one (.ptr 0 0)) :: (hu 44 ((.one (.sl 0)) :: hh :: hh :: (hu 77 [])))), [(100, [.hole, .sl 1, .hole, .hole, .sl 0, .sl 2, .sl 3])], [(129, (.pair (.sl 275 (.pair (.int .i64) (.int .i64))) (.pair (.sl 275 (.pair (.int .i64) (.int .i64))) (.pair (.pair (.int .i64) (.pair (.int .i64) (.int .i64))) (.pair (.int .i64) (.int .i64))))), .ro), (117, (.int .u64), .ro), (250, (.pair (.int .i64) (.pair (.int .i64) (.int .i64))), .ro), (252, (.pair (.int .i64) (.pair (.int .i64) (.pair (.int .i64) (.pair (.int .i64) (.int .i64))))), .ro)]⟩, [0, 2, 3, 4, 5, 6, 7, 8, 9, 10, 11, 12, 13, 14, 15, 16, 17, 18, 19, 20, 21, 22, 23, 24, 25, 26, 27, 28, 29, 30, 31, 32, 33, 34, 35, 36, 37, 38, 39, 40, 41, 42, 43, 44, 45, 49, 50, 51, 52, 53, 54, 55, 56, 57, 58, 59, 60, 61, 62, 63, 64, 65, 66, 67, 68, 69, 70, 71, 72, 73, 74, 75, 76, 77, 78, 79, 80, 81, 82, 83, 84, 85, 86, 87, 88, 89, 90, 91, 92, 93, 94, 95, 96, 97, 98, 99, 100, 101, 102, 103, 104, 105, 106, 107, 108, 109, 110, 111, 112, 113, 114, 115, 116, 117, 118, 119, 120, 121, 122, 123, 124, 125], [], [0, 3, 4, 5, 6, 7, 8, 9, 10, 11, 12, 13, 14, 15, 16, 17, 18, 19, 20, 21, 22, 23, 24, 25, 26, 27, 28, 29, 30, 31, 32, 33, 34, 35, 36, 37, 38, 39, 40, 41, 42, 43, 44, 45, 46, 47, 48, 49, 50, 51, 52, 53, 54, 55, 56, 57, 58, 59, 60, 61, 62, 63, 64, 65, 66, 67, 68, 69, 70, 71, 72, 73, 74, 75, 76, 77, 78, 79, 80, 81, 82, 83, 84, 85, 86, 87, 88, 89, 90, 91, 92, 93, 94, 95, 96, 97, 98, 99, 100, 101, 102, 103, 104, 105, 106, 107, 108, 109, 110, 111, 112, 113, 114, 115, 116, 117, 118, 119, 120, 121, 122, 123, 124, 125]⟩
noncomputable def E144_4 (m : Nat) (ps : List Prm) (k : Kont Bool) : Option Bool :=
  match ps with
  | [.v (.int .i64 a18), .v (.int .i64 a19), .v (.int .i64 a20), .v (.int .i64 a21), .v (.int .i64 a22), .row (.pair (.sl 275 (.pair (.int .i64) (.int .i64))) (.pair (.sl 275 (.pair (.int .i64) (.int .i64))) (.pair (.pair (.int .i64) (.pair (.int .i64) (.int .i64))) (.pair (.int .i64) (.int .i64))))) a23, .row (.int .u64) a24, .row (.pair (.int .i64) (.pair (.int .i64) (.int .i64))) a25, .row (.pair (.int .i64) (.pair (.int .i64) (.pair (.int .i64) (.pair (.int .i64) (.int .i64))))) a26] => I.isConf_l0 m (fun z126 z127 z128 z129 z130 z131 z132 z133 => k .ret (⟨((.s1 (.one (.unk))) :: (vp 0 0) :: (vb z126) :: (vu 123 [])), [(100, [ai z127, .sl 0, ai z128, ai z129, .sl 1, .sl 2, .sl 3])], [⟨117, (.int .u64), z130, .ro⟩, ⟨129, (.pair (.sl 275 (.pair (.int .i64) (.int .i64))) (.pair (.sl 275 (.pair (.int .i64) (.int .i64))) (.pair (.pair (.int .i64) (.pair (.int .i64) (.int .i64))) (.pair (.int .i64) (.int .i64))))), z131, .ro⟩, ⟨250, (.pair (.int .i64) (.pair (.int .i64) (.int .i64))), z132, .ro⟩, ⟨252, (.pair (.int .i64) (.pair (.int .i64) (.pair (.int .i64) (.pair (.int .i64) (.int .i64))))), z133, .ro⟩]⟩ : St)) (fun z134 z135 z136 z137 z138 z139 z140 => k (.exit 0) (⟨((.s1 (.one (.unk))) :: (vp 0 0) :: (vu 124 [])), [(100, [ai z134, .sl 0, ai z135, ai z136, .sl 1, .sl 2, .sl 3])], [⟨117, (.int .u64), z137, .ro⟩, ⟨129, (.pair (.sl 275 (.pair (.int .i64) (.int .i64))) (.pair (.sl 275 (.pair (.int .i64) (.int .i64))) (.pair (.pair (.int .i64) (.pair (.int .i64) (.int .i64))) (.pair (.int .i64) (.int .i64))))), z138, .ro⟩, ⟨250, (.pair (.int .i64) (.pair (.int .i64) (.int .i64))), z139, .ro⟩, ⟨252, (.pair (.int .i64) (.pair (.int .i64) (.pair (.int .i64) (.pair (.int .i64) (.int .i64))))), z140, .ro⟩]⟩ : St)) a18 a19 a20 a21 a22 a23 a24 a25 a26
  | _ => none
noncomputable def S144_4 (a18 a19 a20 a21 a22 : Int) (a23 : List (List (Int × Int) × List (Int × Int) × (Int × Int × Int) × Int × Int)) (a24 : List Int) (a25 : List (Int × Int × Int)) (a26 : List (Int × Int × Int × Int × Int)) : St := (⟨((.s1 (.one (.unk))) :: (vp 0 0) :: (vu 44 ((vl 0) :: (vi a18) :: (vi a19) :: (vu 77 [])))), [(100, [ai a20, .sl 1, ai a21, ai a22, .sl 0, .sl 2, .sl 3])], [⟨129, (.pair (.sl 275 (.pair (.int .i64) (.int .i64))) (.pair (.sl 275 (.pair (.int .i64) (.int .i64))) (.pair (.pair (.int .i64) (.pair (.int .i64) (.int .i64))) (.pair (.int .i64) (.int .i64))))), a23, .ro⟩, ⟨117, (.int .u64), a24, .ro⟩, ⟨250, (.pair (.int .i64) (.pair (.int .i64) (.int .i64))), a25, .ro⟩, ⟨252, (.pair (.int .i64) (.pair (.int .i64) (.pair (.int .i64) (.pair (.int .i64) (.int .i64))))), a26, .ro⟩]⟩ : St)
theorem ev144_4 (m : Nat) (k : Kont Bool) (a18 a19 a20 a21 a22 : Int) (a23 : List (List (Int × Int) × List (Int × Int) × (Int × Int × Int) × Int × Int)) (a24 : List Int) (a25 : List (Int × Int × Int)) (a26 : List (Int × Int × Int × Int × Int)) : evC Try.prog G144 loopNil c144_4 (S144_4 a18 a19 a20 a21 a22 a23 a24 a25 a26) (turn Try.prog (0, 0) H144_4 (E144_4 m) k) = E144_4 (m + 1) [.v (.int .i64 a18), .v (.int .i64 a19), .v (.int .i64 a20), .v (.int .i64 a21), .v (.int .i64 a22), .row (.pair (.sl 275 (.pair (.int .i64) (.int .i64))) (.pair (.sl 275 (.pair (.int .i64) (.int .i64))) (.pair (.pair (.int .i64) (.pair (.int .i64) (.int .i64))) (.pair (.int .i64) (.int .i64))))) a23, .row (.int .u64) a24, .row (.pair (.int .i64) (.pair (.int .i64) (.int .i64))) a25, .row (.pair (.int .i64) (.pair (.int .i64) (.pair (.int .i64) (.pair (.int .i64) (.int .i64))))) a26] k := by kernel_rfl
theorem ok144_4 (m : Nat) : LoopOk Try.prog (0, 0) c144_4 (enter Try.prog (0, 0) H144_4 (E144_4 m)) := by
  refine loop_ok (G := G144) (L := loopNil) (envCons_good good107 (envCons_good good178 (envCons_good good165 (envCons_good good145 (envCons_good good177 envNil_good))))) (by intro x hx; simp [show loopsOf c144_4 = [] from by kernel_rfl] at hx) (fun ps k => by unfold E144_4; split <;> rfl) (fun m ps k r h => ?_) m
  have h0 := h
  unfold E144_4 at h
  split at h
  · exact ⟨S144_4 _ _ _ _ _ _ _ _ _, by kernel_rfl, (ev144_4 m k _ _ _ _ _ _ _ _ _).trans h0⟩
  · cases h
noncomputable def H144_10 : LoopH := ⟨⟨((.one (.unk)) :: (.one (.ptr 0 0)) :: (hu 55 ((.one (.sl 0)) :: hh :: hh :: (hu 66 [])))), [(100, [.hole, .sl 1, .hole, .hole, .sl 2, .sl 0, .sl 3])], [(250, (.pair (.int .i64) (.pair (.int .i64) (.int .i64))), .ro), (117, (.int .u64), .ro), (129, (.pair (.sl 275 (.pair (.int .i64) (.int .i64))) (.pair (.sl 275 (.pair (.int .i64) (.int .i64))) (.pair (.pair (.int .i64) (.pair (.int .i64) (.int .i64))) (.pair (.int .i64) (.int .i64))))), .ro), (252, (.pair (.int .i64) (.pair (.int .i64) (.pair (.int .i64) (.pair (.int .i64) (.int .i64))))), .ro)]⟩, [0, 2, 3, 4, 5, 6, 7, 8, 9, 10, 11, 12, 13, 14, 15, 16, 17, 18, 19, 20, 21, 22, 23, 24, 25, 26, 27, 28, 29, 30, 31, 32, 33, 34, 35, 36, 37, 38, 39, 40, 41, 42, 43, 44, 45, 46, 47, 48, 49, 50, 51, 52, 53, 54, 55, 56, 60, 61, 62, 63, 64, 65, 66, 67, 68, 69, 70, 71, 72, 73, 74, 75, 76, 77, 78, 79, 80, 81, 82, 83, 84, 85, 86, 87, 88, 89, 90, 91, 92, 93, 94, 95, 96, 97, 98, 99, 100, 101, 102, 103, 104, 105, 106, 107, 108, 109, 110, 111, 112, 113, 114, 115, 116, 117, 118, 119, 120, 121, 122, 123, 124, 125], [], [0, 3, 4, 5, 6, 7, 8, 9, 10, 11, 12, 13, 14, 15, 16, 17, 18, 19, 20, 21, 22, 23, 24, 25, 26, 27, 28, 29, 30, 31, 32, 33, 34, 35, 36, 37, 38, 39, 40, 41, 42, 43, 44, 45, 46, 47, 48, 49, 50, 51, 52, 53, 54, 55, 56, 57, 58, 59, 60, 61, 62, 63, 64, 65, 66, 67, 68, 69, 70, 71, 72, 73, 74, 75, 76, 77, 78, 79, 80, 81, 82, 83, 84, 85, 86, 87, 88, 89, 90, 91, 92, 93, 94, 95, 96, 97, 98, 99, 100, 101, 102, 103, 104, 105, 106, 107, 108, 109, 110, 111, 112, 113, 114, 115, 116, 117, 118, 119, 120, 121, 122, 123, 124, 125]⟩
noncomputable def E144_10 (m : Nat) (ps : List Prm) (k : Kont Bool) : Option Bool :=
  match ps with
  | [.v (.int .i64 a46), .v (.int .i64 a47), .v (.int .i64 a48), .v (.int .i64 a49), .v (.int .i64 a50), .row (.pair (.int .i64) (.pair (.int .i64) (.int .i64))) a51, .row (.int .u64) a52, .row (.pair (.sl 275 (.pair (.int .i64) (.int .i64))) (.pair (.sl 275 (.pair (.int .i64) (.int .i64))) (.pair (.pair (.int .i64) (.pair (.int .i64) (.int .i64))) (.pair (.int .i64) (.int .i64))))) a53, .row (.pair (.int .i64) (.pair (.int .i64) (.pair (.int .i64) (.pair (.int .i64) (.int .i64))))) a54] => I.isConf_l1 m (fun z141 z142 z143 z144 z145 z146 z147 z148 => k .ret (⟨((.s1 (.one (.unk))) :: (vp 0 0) :: (vb z141) :: (vu 123 [])), [(100, [ai z142, .sl 0, ai z143, ai z144, .sl 1, .sl 2, .sl 3])], [⟨117, (.int .u64), z145, .ro⟩, ⟨129, (.pair (.sl 275 (.pair (.int .i64) (.int .i64))) (.pair (.sl 275 (.pair (.int .i64) (.int .i64))) (.pair (.pair (.int .i64) (.pair (.int .i64) (.int .i64))) (.pair (.int .i64) (.int .i64))))), z146, .ro⟩, ⟨250, (.pair (.int .i64) (.pair (.int .i64) (.int .i64))), z147, .ro⟩, ⟨252, (.pair (.int .i64) (.pair (.int .i64) (.pair (.int .i64) (.pair (.int .i64) (.int .i64))))), z148, .ro⟩]⟩ : St)) (fun z149 z150 z151 z152 z153 z154 z155 => k (.exit 2) (⟨((.s1 (.one (.unk))) :: (vp 0 0) :: (vu 124 [])), [(100, [ai z149, .sl 0, ai z150, ai z151, .sl 1, .sl 2, .sl 3])], [⟨117, (.int .u64), z152, .ro⟩, ⟨129, (.pair (.sl 275 (.pair (.int .i64) (.int .i64))) (.pair (.sl 275 (.pair (.int .i64) (.int .i64))) (.pair (.pair (.int .i64) (.pair (.int .i64) (.int .i64))) (.pair (.int .i64) (.int .i64))))), z153, .ro⟩, ⟨250, (.pair (.int .i64) (.pair (.int .i64) (.int .i64))), z154, .ro⟩, ⟨252, (.pair (.int .i64) (.pair (.int .i64) (.pair (.int .i64) (.pair (.int .i64) (.int .i64))))), z155, .ro⟩]⟩ : St)) a46 a47 a48 a49 a50 a51 a52 a53 a54
  | _ => none
noncomputable def S144_10 (a46 a47 a48 a49 a50 : Int) (a51 : List (Int × Int × Int)) (a52 : List Int) (a53 : List (List (Int × Int) × List (Int × Int) × (Int × Int × Int) × Int × Int)) (a54 : List (Int × Int × Int × Int × Int)) : St := (⟨((.s1 (.one (.unk))) :: (vp 0 0) :: (vu 55 ((vl 0) :: (vi a46) :: (vi a47) :: (vu 66 [])))), [(100, [ai a48, .sl 1, ai a49, ai a50, .sl 2, .sl 0, .sl 3])], [⟨250, (.pair (.int .i64) (.pair (.int .i64) (.int .i64))), a51, .ro⟩, ⟨117, (.int .u64), a52, .ro⟩, ⟨129, (.pair (.sl 275 (.pair (.int .i64) (.int .i64))) (.pair (.sl 275 (.pair (.int .i64) (.int .i64))) (.pair (.pair (.int .i64) (.pair (.int .i64) (.int .i64))) (.pair (.int .i64) (.int .i64))))), a53, .ro⟩, ⟨252, (.pair (.int .i64) (.pair (.int .i64) (.pair (.int .i64) (.pair (.int .i64) (.int .i64))))), a54, .ro⟩]⟩ : St)
theorem ev144_10 (m : Nat) (k : Kont Bool) (a46 a47 a48 a49 a50 : Int) (a51 : List (Int × Int × Int)) (a52 : List Int) (a53 : List (List (Int × Int) × List (Int × Int) × (Int × Int × Int) × Int × Int)) (a54 : List (Int × Int × Int × Int × Int)) : evC Try.prog G144 loopNil c144_10 (S144_10 a46 a47 a48 a49 a50 a51 a52 a53 a54) (turn Try.prog (0, 0) H144_10 (E144_10 m) k) = E144_10 (m + 1) [.v (.int .i64 a46), .v (.int .i64 a47), .v (.int .i64 a48), .v (.int .i64 a49), .v (.int .i64 a50), .row (.pair (.int .i64) (.pair (.int .i64) (.int .i64))) a51, .row (.int .u64) a52, .row (.pair (.sl 275 (.pair (.int .i64) (.int .i64))) (.pair (.sl 275 (.pair (.int .i64) (.int .i64))) (.pair (.pair (.int .i64) (.pair (.int .i64) (.int .i64))) (.pair (.int .i64) (.int .i64))))) a53, .row (.pair (.int .i64) (.pair (.int .i64) (.pair (.int .i64) (.pair (.int .i64) (.int .i64))))) a54] k := by kernel_rfl
theorem ok144_10 (m : Nat) : LoopOk Try.prog (0, 0) c144_10 (enter Try.prog (0, 0) H144_10 (E144_10 m)) := by
  refine loop_ok (G := G144) (L := loopNil) (envCons_good good107 (envCons_good good178 (envCons_good good165 (envCons_good good145 (envCons_good good177 envNil_good))))) (by intro x hx; simp [show loopsOf c144_10 = [] from by kernel_rfl] at hx) (fun ps k => by unfold E144_10; split <;> rfl) (fun m ps k r h => ?_) m
  have h0 := h
  unfold E144_10 at h
  split at h
  · exact ⟨S144_10 _ _ _ _ _ _ _ _ _, by kernel_rfl, (ev144_10 m k _ _ _ _ _ _ _ _ _).trans h0⟩
  · cases h
noncomputable def H144_16 : LoopH := ⟨⟨((.one (.unk)) :: (.one (.ptr 0 0)) :: (hu 81 ((.one (.sl 0)) :: hh :: hh :: (hu 40 [])))), [(100, [.hole, .sl 1, .hole, .hole, .sl 2, .sl 3, .sl 0])], [(252, (.pair (.int .i64) (.pair (.int .i64) (.pair (.int .i64) (.pair (.int .i64) (.int .i64))))), .ro), (117, (.int .u64), .ro), (129, (.pair (.sl 275 (.pair (.int .i64) (.int .i64))) (.pair (.sl 275 (.pair (.int .i64) (.int .i64))) (.pair (.pair (.int .i64) (.pair (.int .i64) (.int .i64))) (.pair (.int .i64) (.int .i64))))), .ro), (250, (.pair (.int .i64) (.pair (.int .i64) (.int .i64))), .ro)]⟩, [0, 2, 3, 4, 5, 6, 7, 8, 9, 10, 11, 12, 13, 14, 15, 16, 17, 18, 19, 20, 21, 22, 23, 24, 25, 26, 27, 28, 29, 30, 31, 32, 33, 34, 35, 36, 37, 38, 39, 40, 41, 42, 43, 44, 45, 46, 47, 48, 49, 50, 51, 52, 53, 54, 55, 56, 57, 58, 59, 60, 61, 62, 63, 64, 65, 66, 67, 68, 69, 70, 71, 72, 73, 74, 75, 76, 77, 78, 79, 80, 81, 82, 86, 87, 88, 89, 90, 91, 92, 93, 94, 95, 96, 97, 98, 99, 100, 101, 102, 103, 104, 105, 106, 107, 108, 109, 110, 111, 112, 113, 114, 115, 116, 117, 118, 119, 120, 121, 122, 123, 124, 125], [], [0, 1, 3, 4, 5, 6, 7, 8, 9, 10, 11, 12, 13, 14, 15, 16, 17, 18, 19, 20, 21, 22, 23, 24, 25, 26, 27, 28, 29, 30, 31, 32, 33, 34, 35, 36, 37, 38, 39, 40, 41, 42, 43, 44, 45, 46, 47, 48, 49, 50, 51, 52, 53, 54, 55, 56, 57, 58, 59, 60, 61, 62, 63, 64, 65, 66, 67, 68, 69, 70, 71, 72, 73, 74, 75, 76, 77, 78, 79, 80, 81, 82, 83, 84, 85, 86, 87, 88, 89, 90, 91, 92, 93, 94, 95, 96, 97, 98, 99, 100, 101, 102, 103, 104, 105, 106, 107, 108, 109, 110, 111, 112, 113, 114, 115, 116, 117, 118, 119, 120, 121, 122, 123, 124, 125]⟩
noncomputable def E144_16 (m : Nat) (ps : List Prm) (k : Kont Bool) : Option Bool :=
  match ps with
  | [.v (.int .i64 a76), .v (.int .i64 a77), .v (.int .i64 a78), .v (.int .i64 a79), .v (.int .i64 a80), .row (.pair (.int .i64) (.pair (.int .i64) (.pair (.int .i64) (.pair (.int .i64) (.int .i64))))) a81, .row (.int .u64) a82, .row (.pair (.sl 275 (.pair (.int .i64) (.int .i64))) (.pair (.sl 275 (.pair (.int .i64) (.int .i64))) (.pair (.pair (.int .i64) (.pair (.int .i64) (.int .i64))) (.pair (.int .i64) (.int .i64))))) a83, .row (.pair (.int .i64) (.pair (.int .i64) (.int .i64))) a84] => I.isConf_l2 m (fun z156 => k .ret (⟨(vu 2 ((vb z156) :: (vu 123 []))), [], []⟩ : St)) (k (.exit 4) (⟨(vu 126 []), [], []⟩ : St)) a76 a77 a78 a79 a80 a81 a82 a83 a84
  | _ => none
noncomputable def S144_16 (a76 a77 a78 a79 a80 : Int) (a81 : List (Int × Int × Int × Int × Int)) (a82 : List Int) (a83 : List (List (Int × Int) × List (Int × Int) × (Int × Int × Int) × Int × Int)) (a84 : List (Int × Int × Int)) : St := (⟨((.s1 (.one (.unk))) :: (vp 0 0) :: (vu 81 ((vl 0) :: (vi a76) :: (vi a77) :: (vu 40 [])))), [(100, [ai a78, .sl 1, ai a79, ai a80, .sl 2, .sl 3, .sl 0])], [⟨252, (.pair (.int .i64) (.pair (.int .i64) (.pair (.int .i64) (.pair (.int .i64) (.int .i64))))), a81, .ro⟩, ⟨117, (.int .u64), a82, .ro⟩, ⟨129, (.pair (.sl 275 (.pair (.int .i64) (.int .i64))) (.pair (.sl 275 (.pair (.int .i64) (.int .i64))) (.pair (.pair (.int .i64) (.pair (.int .i64) (.int .i64))) (.pair (.int .i64) (.int .i64))))), a83, .ro⟩, ⟨250, (.pair (.int .i64) (.pair (.int .i64) (.int .i64))), a84, .ro⟩]⟩ : St)
theorem ev144_16 (m : Nat) (k : Kont Bool) (a76 a77 a78 a79 a80 : Int) (a81 : List (Int × Int × Int × Int × Int)) (a82 : List Int) (a83 : List (List (Int × Int) × List (Int × Int) × (Int × Int × Int) × Int × Int)) (a84 : List (Int × Int × Int)) : evC Try.prog G144 loopNil c144_16 (S144_16 a76 a77 a78 a79 a80 a81 a82 a83 a84) (turn Try.prog (0, 0) H144_16 (E144_16 m) k) = E144_16 (m + 1) [.v (.int .i64 a76), .v (.int .i64 a77), .v (.int .i64 a78), .v (.int .i64 a79), .v (.int .i64 a80), .row (.pair (.int .i64) (.pair (.int .i64) (.pair (.int .i64) (.pair (.int .i64) (.int .i64))))) a81, .row (.int .u64) a82, .row (.pair (.sl 275 (.pair (.int .i64) (.int .i64))) (.pair (.sl 275 (.pair (.int .i64) (.int .i64))) (.pair (.pair (.int .i64) (.pair (.int .i64) (.int .i64))) (.pair (.int .i64) (.int .i64))))) a83, .row (.pair (.int .i64) (.pair (.int .i64) (.int .i64))) a84] k := by kernel_rfl
theorem ok144_16 (m : Nat) : LoopOk Try.prog (0, 0) c144_16 (enter Try.prog (0, 0) H144_16 (E144_16 m)) := by
  refine loop_ok (G := G144) (L := loopNil) (envCons_good good107 (envCons_good good178 (envCons_good good165 (envCons_good good145 (envCons_good good177 envNil_good))))) (by intro x hx; simp [show loopsOf c144_16 = [] from by kernel_rfl] at hx) (fun ps k => by unfold E144_16; split <;> rfl) (fun m ps k r h => ?_) m
  have h0 := h
  unfold E144_16 at h
  split at h
  · exact ⟨S144_16 _ _ _ _ _ _ _ _ _, by kernel_rfl, (ev144_16 m k _ _ _ _ _ _ _ _ _).trans h0⟩
  · cases h
noncomputable def L144 : LEnv Bool := (loopCons 4 (enter Try.prog (0, 0) H144_4 (E144_4 fu)) (loopCons 10 (enter Try.prog (0, 0) H144_10 (E144_10 fu)) (loopCons 16 (enter Try.prog (0, 0) H144_16 (E144_16 fu)) loopNil)))
theorem lq144 : loopsOf c144 = [c144_4, c144_10, c144_16] := by kernel_rfl
theorem fr144_4 : firstReg c144_4 = some 4 := by kernel_rfl
theorem le144_4 : L144 4 = enter Try.prog (0, 0) H144_4 (E144_4 fu) := by kernel_rfl
theorem fr144_10 : firstReg c144_10 = some 10 := by kernel_rfl
theorem le144_10 : L144 10 = enter Try.prog (0, 0) H144_10 (E144_10 fu) := by kernel_rfl
theorem fr144_16 : firstReg c144_16 = some 16 := by kernel_rfl
theorem le144_16 : L144 16 = enter Try.prog (0, 0) H144_16 (E144_16 fu) := by kernel_rfl
theorem lm144 : ∀ x ∈ [c144_4, c144_10, c144_16], ∀ id, firstReg x = some id → LoopOk Try.prog (0, 0) x (L144 id) := (loops_cons fr144_4 le144_4 (ok144_4 fu) (loops_cons fr144_10 le144_10 (ok144_10 fu) (loops_cons fr144_16 le144_16 (ok144_16 fu) loops_nil)))
theorem lp144 : ∀ x ∈ loopsOf c144, ∀ id, firstReg x = some id → LoopOk Try.prog (0, 0) x (L144 id) := loops_eq lq144 lm144
noncomputable def R144 (x : Bool) : Res := ⟨[.one (ab x)], [], []⟩
noncomputable def K144 (r : Res) : Option Bool :=
  match r with
  | ⟨[.one (.val (.bool v1))], [], []⟩ => some (v1)
  | _ => none
noncomputable def E144 : Fun2 := fun args bs rs =>
  match args, bs, rs with
  | [.s1 (.agg [.val (.int .i64 a1), .sl 0, .val (.int .i64 a2), .val (.int .i64 a3), .sl 1, .sl 2, .sl 3])], [], [⟨117, (.int .u64), a4, .ro⟩, ⟨129, (.pair (.sl 275 (.pair (.int .i64) (.int .i64))) (.pair (.sl 275 (.pair (.int .i64) (.int .i64))) (.pair (.pair (.int .i64) (.pair (.int .i64) (.int .i64))) (.pair (.int .i64) (.int .i64))))), a5, .ro⟩, ⟨250, (.pair (.int .i64) (.pair (.int .i64) (.int .i64))), a6, .ro⟩, ⟨252, (.pair (.int .i64) (.pair (.int .i64) (.pair (.int .i64) (.pair (.int .i64) (.int .i64))))), a7, .ro⟩] => some ⟨Bool, I.isConf a1 a2 a3 a4 a5 a6 a7, R144⟩
  | _, _, _ => none
theorem ev144 (a1 a2 a3 : Int) (a4 : List Int) (a5 : List (List (Int × Int) × List (Int × Int) × (Int × Int × Int) × Int × Int)) (a6 : List (Int × Int × Int)) (a7 : List (Int × Int × Int × Int × Int)) : evF Try.prog G144 L144 (0, 0) Try.f144 c144 [.s1 (.agg [ai a1, .sl 0, ai a2, ai a3, .sl 1, .sl 2, .sl 3])] [] [⟨117, (.int .u64), a4, .ro⟩, ⟨129, (.pair (.sl 275 (.pair (.int .i64) (.int .i64))) (.pair (.sl 275 (.pair (.int .i64) (.int .i64))) (.pair (.pair (.int .i64) (.pair (.int .i64) (.int .i64))) (.pair (.int .i64) (.int .i64))))), a5, .ro⟩, ⟨250, (.pair (.int .i64) (.pair (.int .i64) (.int .i64))), a6, .ro⟩, ⟨252, (.pair (.int .i64) (.pair (.int .i64) (.pair (.int .i64) (.pair (.int .i64) (.int .i64))))), a7, .ro⟩] K144 = I.isConf a1 a2 a3 a4 a5 a6 a7 := by kernel_rfl
theorem good144 : Vm.Good Try.prog 144 E144 := by
  refine evF_good (G := G144) (c := c144) (envCons_good good107 (envCons_good good178 (envCons_good good165 (envCons_good good145 (envCons_good good177 envNil_good))))) Try.func144 (by kernel_rfl) (by kernel_rfl) (0, 0) (fun args bs rs out t h h2 => ?_)
  unfold E144 at h
  split at h
  · injection h with h
    subst h
    exact ⟨rfl, L144, K144, lp144, (fun r t h => by unfold K144 at h; split at h; (injection h with h; subst h; rfl); cases h), (ev144 _ _ _ _ _ _ _).trans h2⟩
  · cases h
/-! ### I.SeenBy -/
noncomputable def G66 : Env := (envCons 144 [] E144 (envCons 145 [] E145 (envCons 146 [] E146 envNil)))
noncomputable def c66 : Code := bodyOf Try.f66
noncomputable def c66_5 : Code := (loopsOf c66).getD 0 .skip
noncomputable def I.SeenBy_l0 : Nat → ((List (Int × (Int × Int × Int × Int) × Int)) → Option ((List (Int × (Int × Int × Int × Int) × Int)))) → Int → Int → Int → Int → Int → Int → (List (Int × (Int × Int × Int × Int) × Int)) → (List (Int × (Int × Int × Int × Int) × Int)) → List Int → (List (List (Int × Int) × List (Int × Int) × (Int × Int × Int) × Int × Int)) → (List (Int × Int × Int)) → (List (Int × Int × Int × Int × Int)) → Option ((List (Int × (Int × Int × Int × Int) × Int)))
  | 0, _, _, _, _, _, _, _, _, _, _, _, _, _ => none
  | m + 1, e5_0, a13, a14, a15, a16, a17, a18, a19, a20, a21, a22, a23, a24 =>
    (bif (decide (a15 < a14)) then
    (bif decide ((0 : Int) ≤ a15 ∧ a15 < (a20.length : Int)) then
    (Option.bind (I.Lat_has a16 ((nthI a20 a15 ((0 : Int), (((0 : Int), ((0 : Int), ((0 : Int), (0 : Int)))), (0 : Int)))).2.2) a21) fun r26 =>
    (bif r26 then
    (Option.bind (I.Lat_le a16 ((nthI a20 a15 ((0 : Int), (((0 : Int), ((0 : Int), ((0 : Int), (0 : Int)))), (0 : Int)))).2.2) a13 a21) fun r27 =>
    (bif r27 then
    (let v28 : List (Int × (Int × Int × Int × Int) × Int) := [((nthI a20 a15 ((0 : Int), (((0 : Int), ((0 : Int), ((0 : Int), (0 : Int)))), (0 : Int)))).1, (((nthI a20 a15 ((0 : Int), (((0 : Int), ((0 : Int), ((0 : Int), (0 : Int)))), (0 : Int)))).2.1.1, ((nthI a20 a15 ((0 : Int), (((0 : Int), ((0 : Int), ((0 : Int), (0 : Int)))), (0 : Int)))).2.1.2.1, ((nthI a20 a15 ((0 : Int), (((0 : Int), ((0 : Int), ((0 : Int), (0 : Int)))), (0 : Int)))).2.1.2.2.1, (nthI a20 a15 ((0 : Int), (((0 : Int), ((0 : Int), ((0 : Int), (0 : Int)))), (0 : Int)))).2.1.2.2.2))), (nthI a20 a15 ((0 : Int), (((0 : Int), ((0 : Int), ((0 : Int), (0 : Int)))), (0 : Int)))).2.2))]
    (bif decide ((a19.length + v28.length) * 48 ≤ 140737488355328) then
    (I.SeenBy_l0 m e5_0 a13 a14 (IntKind.wrap .i64 (a15 + 1)) a16 a17 a18 (a19 ++ v28) a20 a21 a22 a23 a24)
    else
    none))
    else
    (I.SeenBy_l0 m e5_0 a13 a14 (IntKind.wrap .i64 (a15 + 1)) a16 a17 a18 a19 a20 a21 a22 a23 a24)))
    else
    (I.SeenBy_l0 m e5_0 a13 a14 (IntKind.wrap .i64 (a15 + 1)) a16 a17 a18 a19 a20 a21 a22 a23 a24)))
    else
    none)
    else
    (e5_0 a19))
noncomputable def I.SeenBy (a1 a2 a3 a4 : Int) (a5 : List Int) (a6 : List (List (Int × Int) × List (Int × Int) × (Int × Int × Int) × Int × Int)) (a7 : List (Int × Int × Int)) (a8 : List (Int × Int × Int × Int × Int)) (a9 : List (Int × (Int × Int × Int × Int) × Int)) : Option ((List (Int × (Int × Int × Int × Int) × Int))) :=
(Option.bind (I.isConf a1 a2 a3 a5 a6 a7 a8) fun r10 =>
(bif (!r10) then
(some [])
else
(Option.bind (I.Lat_has a1 a4 a5) fun r11 =>
(bif (!r11) then
(some [])
else
(I.SeenBy_l0 fu (fun y32 =>
(some y32)) a4 (a9.length : Int) 0 a1 a2 a3 [] a9 a5 a6 a7 a8)))))
noncomputable def H66_5 : LoopH := ⟨⟨(hu 2 (hh :: (.one (.ptr 0 0)) :: (hu 3 ((.one (.sl 0)) :: (hu 13 ((.one (.sl 1)) :: hh :: hh :: (hu 22 []))))))), [(100, [.hole, .sl 2, .hole, .hole, .sl 3, .sl 4, .sl 5])], [(196, (.pair (.int .i64) (.pair (.pair (.int .i64) (.pair (.int .i64) (.pair (.int .i64) (.int .i64)))) (.int .i64))), .own), (196, (.pair (.int .i64) (.pair (.pair (.int .i64) (.pair (.int .i64) (.pair (.int .i64) (.int .i64)))) (.int .i64))), .ro), (117, (.int .u64), .ro), (129, (.pair (.sl 275 (.pair (.int .i64) (.int .i64))) (.pair (.sl 275 (.pair (.int .i64) (.int .i64))) (.pair (.pair (.int .i64) (.pair (.int .i64) (.int .i64))) (.pair (.int .i64) (.int .i64))))), .ro), (250, (.pair (.int .i64) (.pair (.int .i64) (.int .i64))), .ro), (252, (.pair (.int .i64) (.pair (.int .i64) (.pair (.int .i64) (.pair (.int .i64) (.int .i64))))), .ro)]⟩, [0, 1, 4, 5, 6, 8, 9, 10, 11, 12, 13, 14, 15, 16, 17, 18, 19, 20, 24, 25, 26, 27, 28, 29, 30, 31, 32, 33, 34, 35, 36, 37, 38, 39, 40, 41, 42, 43, 44, 45], [], [0, 1, 2, 3, 4, 5, 8, 9, 10, 11, 12, 13, 14, 15, 16, 17, 18, 19, 20, 21, 22, 23, 24, 25, 26, 27, 28, 29, 30, 31, 32, 33, 34, 35, 36, 37, 38, 39, 40, 41, 42, 43, 44, 45]⟩
noncomputable def E66_5 (m : Nat) (ps : List Prm) (k : Kont ((List (Int × (Int × Int × Int × Int) × Int)))) : Option ((List (Int × (Int × Int × Int × Int) × Int))) :=
  match ps with
  | [.v (.int .i64 a13), .v (.int .i64 a14), .v (.int .i64 a15), .v (.int .i64 a16), .v (.int .i64 a17), .v (.int .i64 a18), .row (.pair (.int .i64) (.pair (.pair (.int .i64) (.pair (.int .i64) (.pair (.int .i64) (.int .i64)))) (.int .i64))) a19, .row (.pair (.int .i64) (.pair (.pair (.int .i64) (.pair (.int .i64) (.pair (.int .i64) (.int .i64)))) (.int .i64))) a20, .row (.int .u64) a21, .row (.pair (.sl 275 (.pair (.int .i64) (.int .i64))) (.pair (.sl 275 (.pair (.int .i64) (.int .i64))) (.pair (.pair (.int .i64) (.pair (.int .i64) (.int .i64))) (.pair (.int .i64) (.int .i64))))) a22, .row (.pair (.int .i64) (.pair (.int .i64) (.int .i64))) a23, .row (.pair (.int .i64) (.pair (.int .i64) (.pair (.int .i64) (.pair (.int .i64) (.int .i64))))) a24] => I.SeenBy_l0 m (fun z34 => k (.exit 0) (⟨(vu 7 ((vl 0) :: (vu 38 []))), [], [⟨196, (.pair (.int .i64) (.pair (.pair (.int .i64) (.pair (.int .i64) (.pair (.int .i64) (.int .i64)))) (.int .i64))), z34, .own⟩]⟩ : St)) a13 a14 a15 a16 a17 a18 a19 a20 a21 a22 a23 a24
  | _ => none
noncomputable def S66_5 (a13 a14 a15 a16 a17 a18 : Int) (a19 a20 : List (Int × (Int × Int × Int × Int) × Int)) (a21 : List Int) (a22 : List (List (Int × Int) × List (Int × Int) × (Int × Int × Int) × Int × Int)) (a23 : List (Int × Int × Int)) (a24 : List (Int × Int × Int × Int × Int)) : St := (⟨(vu 2 ((vi a13) :: (vp 0 0) :: (vu 3 ((vl 0) :: (vu 13 ((vl 1) :: (vi a14) :: (vi a15) :: (vu 22 []))))))), [(100, [ai a16, .sl 2, ai a17, ai a18, .sl 3, .sl 4, .sl 5])], [⟨196, (.pair (.int .i64) (.pair (.pair (.int .i64) (.pair (.int .i64) (.pair (.int .i64) (.int .i64)))) (.int .i64))), a19, .own⟩, ⟨196, (.pair (.int .i64) (.pair (.pair (.int .i64) (.pair (.int .i64) (.pair (.int .i64) (.int .i64)))) (.int .i64))), a20, .ro⟩, ⟨117, (.int .u64), a21, .ro⟩, ⟨129, (.pair (.sl 275 (.pair (.int .i64) (.int .i64))) (.pair (.sl 275 (.pair (.int .i64) (.int .i64))) (.pair (.pair (.int .i64) (.pair (.int .i64) (.int .i64))) (.pair (.int .i64) (.int .i64))))), a22, .ro⟩, ⟨250, (.pair (.int .i64) (.pair (.int .i64) (.int .i64))), a23, .ro⟩, ⟨252, (.pair (.int .i64) (.pair (.int .i64) (.pair (.int .i64) (.pair (.int .i64) (.int .i64))))), a24, .ro⟩]⟩ : St)
theorem ev66_5 (m : Nat) (k : Kont ((List (Int × (Int × Int × Int × Int) × Int)))) (a13 a14 a15 a16 a17 a18 : Int) (a19 a20 : List (Int × (Int × Int × Int × Int) × Int)) (a21 : List Int) (a22 : List (List (Int × Int) × List (Int × Int) × (Int × Int × Int) × Int × Int)) (a23 : List (Int × Int × Int)) (a24 : List (Int × Int × Int × Int × Int)) : evC Try.prog G66 loopNil c66_5 (S66_5 a13 a14 a15 a16 a17 a18 a19 a20 a21 a22 a23 a24) (turn Try.prog (0, 0) H66_5 (E66_5 m) k) = E66_5 (m + 1) [.v (.int .i64 a13), .v (.int .i64 a14), .v (.int .i64 a15), .v (.int .i64 a16), .v (.int .i64 a17), .v (.int .i64 a18), .row (.pair (.int .i64) (.pair (.pair (.int .i64) (.pair (.int .i64) (.pair (.int .i64) (.int .i64)))) (.int .i64))) a19, .row (.pair (.int .i64) (.pair (.pair (.int .i64) (.pair (.int .i64) (.pair (.int .i64) (.int .i64)))) (.int .i64))) a20, .row (.int .u64) a21, .row (.pair (.sl 275 (.pair (.int .i64) (.int .i64))) (.pair (.sl 275 (.pair (.int .i64) (.int .i64))) (.pair (.pair (.int .i64) (.pair (.int .i64) (.int .i64))) (.pair (.int .i64) (.int .i64))))) a22, .row (.pair (.int .i64) (.pair (.int .i64) (.int .i64))) a23, .row (.pair (.int .i64) (.pair (.int .i64) (.pair (.int .i64) (.pair (.int .i64) (.int .i64))))) a24] k := by kernel_rfl
theorem ok66_5 (m : Nat) : LoopOk Try.prog (0, 0) c66_5 (enter Try.prog (0, 0) H66_5 (E66_5 m)) := by
  refine loop_ok (G := G66) (L := loopNil) (envCons_good good144 (envCons_good good145 (envCons_good good146 envNil_good))) (by intro x hx; simp [show loopsOf c66_5 = [] from by kernel_rfl] at hx) (fun ps k => by unfold E66_5; split <;> rfl) (fun m ps k r h => ?_) m
  have h0 := h
  unfold E66_5 at h
  split at h
  · exact ⟨S66_5 _ _ _ _ _ _ _ _ _ _ _ _, by kernel_rfl, (ev66_5 m k _ _ _ _ _ _ _ _ _ _ _ _).trans h0⟩
  · cases h
noncomputable def L66 : LEnv ((List (Int × (Int × Int × Int × Int) × Int))) := (loopCons 5 (enter Try.prog (0, 0) H66_5 (E66_5 fu)) loopNil)
theorem lq66 : loopsOf c66 = [c66_5] := by kernel_rfl
theorem fr66_5 : firstReg c66_5 = some 5 := by kernel_rfl
theorem le66_5 : L66 5 = enter Try.prog (0, 0) H66_5 (E66_5 fu) := by kernel_rfl
theorem lm66 : ∀ x ∈ [c66_5], ∀ id, firstReg x = some id → LoopOk Try.prog (0, 0) x (L66 id) := (loops_cons fr66_5 le66_5 (ok66_5 fu) loops_nil)
theorem lp66 : ∀ x ∈ loopsOf c66, ∀ id, firstReg x = some id → LoopOk Try.prog (0, 0) x (L66 id) := loops_eq lq66 lm66
noncomputable def R66 (x : (List (Int × (Int × Int × Int × Int) × Int))) : Res := ⟨[.one (.sl 0)], [], [⟨196, (.pair (.int .i64) (.pair (.pair (.int .i64) (.pair (.int .i64) (.pair (.int .i64) (.int .i64)))) (.int .i64))), x, .own⟩]⟩
noncomputable def K66 (r : Res) : Option ((List (Int × (Int × Int × Int × Int) × Int))) :=
  match r with
  | ⟨[.one (.sl 0)], [], [⟨196, (.pair (.int .i64) (.pair (.pair (.int .i64) (.pair (.int .i64) (.pair (.int .i64) (.int .i64)))) (.int .i64))), v1, .own⟩]⟩ => some (v1)
  | _ => none
noncomputable def E66 : Fun2 := fun args bs rs =>
  match args, bs, rs with
  | [.s1 (.agg [.val (.int .i64 a1), .sl 0, .val (.int .i64 a2), .val (.int .i64 a3), .sl 1, .sl 2, .sl 3]), .s1 (.one (.sl 4)), .s1 (.one (.val (.int .i64 a4)))], [], [⟨117, (.int .u64), a5, .ro⟩, ⟨129, (.pair (.sl 275 (.pair (.int .i64) (.int .i64))) (.pair (.sl 275 (.pair (.int .i64) (.int .i64))) (.pair (.pair (.int .i64) (.pair (.int .i64) (.int .i64))) (.pair (.int .i64) (.int .i64))))), a6, .ro⟩, ⟨250, (.pair (.int .i64) (.pair (.int .i64) (.int .i64))), a7, .ro⟩, ⟨252, (.pair (.int .i64) (.pair (.int .i64) (.pair (.int .i64) (.pair (.int .i64) (.int .i64))))), a8, .ro⟩, ⟨196, (.pair (.int .i64) (.pair (.pair (.int .i64) (.pair (.int .i64) (.pair (.int .i64) (.int .i64)))) (.int .i64))), a9, .ro⟩] => some ⟨(List (Int × (Int × Int × Int × Int) × Int)), I.SeenBy a1 a2 a3 a4 a5 a6 a7 a8 a9, R66⟩
  | _, _, _ => none
theorem ev66 (a1 a2 a3 a4 : Int) (a5 : List Int) (a6 : List (List (Int × Int) × List (Int × Int) × (Int × Int × Int) × Int × Int)) (a7 : List (Int × Int × Int)) (a8 : List (Int × Int × Int × Int × Int)) (a9 : List (Int × (Int × Int × Int × Int) × Int)) : evF Try.prog G66 L66 (0, 0) Try.f66 c66 [.s1 (.agg [ai a1, .sl 0, ai a2, ai a3, .sl 1, .sl 2, .sl 3]), vl 4, vi a4] [] [⟨117, (.int .u64), a5, .ro⟩, ⟨129, (.pair (.sl 275 (.pair (.int .i64) (.int .i64))) (.pair (.sl 275 (.pair (.int .i64) (.int .i64))) (.pair (.pair (.int .i64) (.pair (.int .i64) (.int .i64))) (.pair (.int .i64) (.int .i64))))), a6, .ro⟩, ⟨250, (.pair (.int .i64) (.pair (.int .i64) (.int .i64))), a7, .ro⟩, ⟨252, (.pair (.int .i64) (.pair (.int .i64) (.pair (.int .i64) (.pair (.int .i64) (.int .i64))))), a8, .ro⟩, ⟨196, (.pair (.int .i64) (.pair (.pair (.int .i64) (.pair (.int .i64) (.pair (.int .i64) (.int .i64)))) (.int .i64))), a9, .ro⟩] K66 = I.SeenBy a1 a2 a3 a4 a5 a6 a7 a8 a9 := by kernel_rfl
theorem good66 : Vm.Good Try.prog 66 E66 := by
  refine evF_good (G := G66) (c := c66) (envCons_good good144 (envCons_good good145 (envCons_good good146 envNil_good))) Try.func66 (by kernel_rfl) (by kernel_rfl) (0, 0) (fun args bs rs out t h h2 => ?_)
  unfold E66 at h
  split at h
  · injection h with h
    subst h
    exact ⟨rfl, L66, K66, lp66, (fun r t h => by unfold K66 at h; split at h; (injection h with h; subst h; rfl); cases h), (ev66 _ _ _ _ _ _ _ _ _).trans h2⟩
  · cases h
/-! ### L.eqElem -/
noncomputable def G205 : Env := envNil
noncomputable def c205 : Code := bodyOf Try.f205
noncomputable def L.eqElem (a1 a2 a3 a4 a5 a6 a7 a8 : Int) : Option Bool :=
(bif (a1 != a5) then
(some false)
else
(bif (a2 != a6) then
(some false)
else
(bif (a3 != a7) then
(some false)
else
(bif (a4 != a8) then
(some false)
else
(some true)))))
noncomputable def R205 (x : Bool) : Res := ⟨[.one (ab x)], [], []⟩
noncomputable def K205 (r : Res) : Option Bool :=
  match r with
  | ⟨[.one (.val (.bool v1))], [], []⟩ => some (v1)
  | _ => none
noncomputable def E205 : Fun2 := fun args bs rs =>
  match args, bs, rs with
  | [.s1 (.agg [.val (.int .i64 a1), .val (.int .i64 a2), .val (.int .i64 a3), .val (.int .i64 a4)]), .s1 (.agg [.val (.int .i64 a5), .val (.int .i64 a6), .val (.int .i64 a7), .val (.int .i64 a8)])], [], [] => some ⟨Bool, L.eqElem a1 a2 a3 a4 a5 a6 a7 a8, R205⟩
  | _, _, _ => none
theorem ev205 (a1 a2 a3 a4 a5 a6 a7 a8 : Int) : evF Try.prog G205 loopNil (0, 0) Try.f205 c205 [.s1 (.agg [ai a1, ai a2, ai a3, ai a4]), .s1 (.agg [ai a5, ai a6, ai a7, ai a8])] [] [] K205 = L.eqElem a1 a2 a3 a4 a5 a6 a7 a8 := by kernel_rfl
theorem good205 : Vm.Good Try.prog 205 E205 := by
  refine evF_good (G := G205) (c := c205) envNil_good Try.func205 (by kernel_rfl) (by kernel_rfl) (0, 0) (fun args bs rs out t h h2 => ?_)
  unfold E205 at h
  split at h
  · injection h with h
    subst h
    exact ⟨rfl, loopNil, K205, (by intro x hx; simp [show loopsOf c205 = [] from by kernel_rfl] at hx), (fun r t h => by unfold K205 at h; split at h; (injection h with h; subst h; rfl); cases h), (ev205 _ _ _ _ _ _ _ _).trans h2⟩
  · cases h
/-! ### L.eqTaken -/
noncomputable def G147 : Env := (envCons 205 [] E205 envNil)
noncomputable def c147 : Code := bodyOf Try.f147
noncomputable def L.eqTaken (a1 a2 a3 a4 a5 a6 a7 a8 a9 a10 a11 a12 : Int) : Option Bool :=
(bif (a1 != a7) then
(some false)
else
(Option.bind (L.eqElem a2 a3 a4 a5 a8 a9 a10 a11) fun r13 =>
(bif (!r13) then
(some false)
else
(bif (a6 != a12) then
(some false)
else
(some true)))))
noncomputable def R147 (x : Bool) : Res := ⟨[.one (ab x)], [], []⟩
noncomputable def K147 (r : Res) : Option Bool :=
  match r with
  | ⟨[.one (.val (.bool v1))], [], []⟩ => some (v1)
  | _ => none
noncomputable def E147 : Fun2 := fun args bs rs =>
  match args, bs, rs with
  | [.s1 (.agg [.val (.int .i64 a1), .val (.int .i64 a2), .val (.int .i64 a3), .val (.int .i64 a4), .val (.int .i64 a5), .val (.int .i64 a6)]), .s1 (.agg [.val (.int .i64 a7), .val (.int .i64 a8), .val (.int .i64 a9), .val (.int .i64 a10), .val (.int .i64 a11), .val (.int .i64 a12)])], [], [] => some ⟨Bool, L.eqTaken a1 a2 a3 a4 a5 a6 a7 a8 a9 a10 a11 a12, R147⟩
  | _, _, _ => none
theorem ev147 (a1 a2 a3 a4 a5 a6 a7 a8 a9 a10 a11 a12 : Int) : evF Try.prog G147 loopNil (0, 0) Try.f147 c147 [.s1 (.agg [ai a1, ai a2, ai a3, ai a4, ai a5, ai a6]), .s1 (.agg [ai a7, ai a8, ai a9, ai a10, ai a11, ai a12])] [] [] K147 = L.eqTaken a1 a2 a3 a4 a5 a6 a7 a8 a9 a10 a11 a12 := by kernel_rfl
theorem good147 : Vm.Good Try.prog 147 E147 := by
  refine evF_good (G := G147) (c := c147) (envCons_good good205 envNil_good) Try.func147 (by kernel_rfl) (by kernel_rfl) (0, 0) (fun args bs rs out t h h2 => ?_)
  unfold E147 at h
  split at h
  · injection h with h
    subst h
    exact ⟨rfl, loopNil, K147, (by intro x hx; simp [show loopsOf c147 = [] from by kernel_rfl] at hx), (fun r t h => by unfold K147 at h; split at h; (injection h with h; subst h; rfl); cases h), (ev147 _ _ _ _ _ _ _ _ _ _ _ _).trans h2⟩
  · cases h
/-! ### L.eqTakenS -/
noncomputable def G67 : Env := (envCons 147 [] E147 envNil)
noncomputable def c67 : Code := bodyOf Try.f67
noncomputable def c67_4 : Code := (loopsOf c67).getD 0 .skip
noncomputable def L.eqTakenS_l0 : Nat → (Bool → Option Bool) → (Option Bool) → Int → (List (Int × (Int × Int × Int × Int) × Int)) → (List (Int × (Int × Int × Int × Int) × Int)) → Option Bool
  | 0, _, _, _, _, _ => none
  | m + 1, e4_0, e4_1, a5, a6, a7 =>
    (bif (decide (a5 < (a6.length : Int))) then
    (bif decide ((0 : Int) ≤ a5 ∧ a5 < (a6.length : Int)) then
    (bif decide ((0 : Int) ≤ a5 ∧ a5 < (a7.length : Int)) then
    (Option.bind (L.eqTaken ((nthI a6 a5 ((0 : Int), (((0 : Int), ((0 : Int), ((0 : Int), (0 : Int)))), (0 : Int)))).1) ((nthI a6 a5 ((0 : Int), (((0 : Int), ((0 : Int), ((0 : Int), (0 : Int)))), (0 : Int)))).2.1.1) ((nthI a6 a5 ((0 : Int), (((0 : Int), ((0 : Int), ((0 : Int), (0 : Int)))), (0 : Int)))).2.1.2.1) ((nthI a6 a5 ((0 : Int), (((0 : Int), ((0 : Int), ((0 : Int), (0 : Int)))), (0 : Int)))).2.1.2.2.1) ((nthI a6 a5 ((0 : Int), (((0 : Int), ((0 : Int), ((0 : Int), (0 : Int)))), (0 : Int)))).2.1.2.2.2) ((nthI a6 a5 ((0 : Int), (((0 : Int), ((0 : Int), ((0 : Int), (0 : Int)))), (0 : Int)))).2.2) ((nthI a7 a5 ((0 : Int), (((0 : Int), ((0 : Int), ((0 : Int), (0 : Int)))), (0 : Int)))).1) ((nthI a7 a5 ((0 : Int), (((0 : Int), ((0 : Int), ((0 : Int), (0 : Int)))), (0 : Int)))).2.1.1) ((nthI a7 a5 ((0 : Int), (((0 : Int), ((0 : Int), ((0 : Int), (0 : Int)))), (0 : Int)))).2.1.2.1) ((nthI a7 a5 ((0 : Int), (((0 : Int), ((0 : Int), ((0 : Int), (0 : Int)))), (0 : Int)))).2.1.2.2.1) ((nthI a7 a5 ((0 : Int), (((0 : Int), ((0 : Int), ((0 : Int), (0 : Int)))), (0 : Int)))).2.1.2.2.2) ((nthI a7 a5 ((0 : Int), (((0 : Int), ((0 : Int), ((0 : Int), (0 : Int)))), (0 : Int)))).2.2)) fun r10 =>
    (bif (!r10) then
    (e4_0 false)
    else
    (L.eqTakenS_l0 m e4_0 e4_1 (IntKind.wrap .i64 (a5 + 1)) a6 a7)))
    else
    none)
    else
    none)
    else
    e4_1)
noncomputable def L.eqTakenS (a1 a2 : List (Int × (Int × Int × Int × Int) × Int)) : Option Bool :=
(bif ((a1.length : Int) != (a2.length : Int)) then
(some false)
else
(L.eqTakenS_l0 fu (fun y12 =>
(some y12)) (some true) 0 a1 a2))
noncomputable def H67_4 : LoopH := ⟨⟨((.one (.sl 0)) :: (.one (.sl 1)) :: (hu 3 (hh :: (hu 21 [])))), [], [(196, (.pair (.int .i64) (.pair (.pair (.int .i64) (.pair (.int .i64) (.pair (.int .i64) (.int .i64)))) (.int .i64))), .ro), (196, (.pair (.int .i64) (.pair (.pair (.int .i64) (.pair (.int .i64) (.pair (.int .i64) (.int .i64)))) (.int .i64))), .ro)]⟩, [2, 3, 4, 6, 7, 8, 9, 10, 11, 12, 13, 14, 15, 16, 17, 18, 19, 20, 21, 22, 23, 24, 25, 26], [], [0, 1, 2, 3, 5, 6, 7, 8, 9, 10, 11, 12, 13, 14, 15, 16, 17, 18, 19, 20, 21, 22, 23, 24, 25, 26]⟩
noncomputable def E67_4 (m : Nat) (ps : List Prm) (k : Kont Bool) : Option Bool :=
  match ps with
  | [.v (.int .i64 a5), .row (.pair (.int .i64) (.pair (.pair (.int .i64) (.pair (.int .i64) (.pair (.int .i64) (.int .i64)))) (.int .i64))) a6, .row (.pair (.int .i64) (.pair (.pair (.int .i64) (.pair (.int .i64) (.pair (.int .i64) (.int .i64)))) (.int .i64))) a7] => L.eqTakenS_l0 m (fun z14 => k .ret (⟨(vu 4 ((vb z14) :: (vu 22 []))), [], []⟩ : St)) (k (.exit 0) (⟨(vu 27 []), [], []⟩ : St)) a5 a6 a7
  | _ => none
noncomputable def S67_4 (a5 : Int) (a6 a7 : List (Int × (Int × Int × Int × Int) × Int)) : St := (⟨((vl 0) :: (vl 1) :: (vu 3 ((vi a5) :: (vu 21 [])))), [], [⟨196, (.pair (.int .i64) (.pair (.pair (.int .i64) (.pair (.int .i64) (.pair (.int .i64) (.int .i64)))) (.int .i64))), a6, .ro⟩, ⟨196, (.pair (.int .i64) (.pair (.pair (.int .i64) (.pair (.int .i64) (.pair (.int .i64) (.int .i64)))) (.int .i64))), a7, .ro⟩]⟩ : St)
theorem ev67_4 (m : Nat) (k : Kont Bool) (a5 : Int) (a6 a7 : List (Int × (Int × Int × Int × Int) × Int)) : evC Try.prog G67 loopNil c67_4 (S67_4 a5 a6 a7) (turn Try.prog (0, 0) H67_4 (E67_4 m) k) = E67_4 (m + 1) [.v (.int .i64 a5), .row (.pair (.int .i64) (.pair (.pair (.int .i64) (.pair (.int .i64) (.pair (.int .i64) (.int .i64)))) (.int .i64))) a6, .row (.pair (.int .i64) (.pair (.pair (.int .i64) (.pair (.int .i64) (.pair (.int .i64) (.int .i64)))) (.int .i64))) a7] k := by kernel_rfl
theorem ok67_4 (m : Nat) : LoopOk Try.prog (0, 0) c67_4 (enter Try.prog (0, 0) H67_4 (E67_4 m)) := by
  refine loop_ok (G := G67) (L := loopNil) (envCons_good good147 envNil_good) (by intro x hx; simp [show loopsOf c67_4 = [] from by kernel_rfl] at hx) (fun ps k => by unfold E67_4; split <;> rfl) (fun m ps k r h => ?_) m
  have h0 := h
  unfold E67_4 at h
  split at h
  · exact ⟨S67_4 _ _ _, by kernel_rfl, (ev67_4 m k _ _ _).trans h0⟩
  · cases h
noncomputable def L67 : LEnv Bool := (loopCons 4 (enter Try.prog (0, 0) H67_4 (E67_4 fu)) loopNil)
theorem lq67 : loopsOf c67 = [c67_4] := by kernel_rfl
theorem fr67_4 : firstReg c67_4 = some 4 := by kernel_rfl
theorem le67_4 : L67 4 = enter Try.prog (0, 0) H67_4 (E67_4 fu) := by kernel_rfl
theorem lm67 : ∀ x ∈ [c67_4], ∀ id, firstReg x = some id → LoopOk Try.prog (0, 0) x (L67 id) := (loops_cons fr67_4 le67_4 (ok67_4 fu) loops_nil)
theorem lp67 : ∀ x ∈ loopsOf c67, ∀ id, firstReg x = some id → LoopOk Try.prog (0, 0) x (L67 id) := loops_eq lq67 lm67
noncomputable def R67 (x : Bool) : Res := ⟨[.one (ab x)], [], []⟩
noncomputable def K67 (r : Res) : Option Bool :=
  match r with
  | ⟨[.one (.val (.bool v1))], [], []⟩ => some (v1)
  | _ => none
noncomputable def E67 : Fun2 := fun args bs rs =>
  match args, bs, rs with
  | [.s1 (.one (.sl 0)), .s1 (.one (.sl 1))], [], [⟨196, (.pair (.int .i64) (.pair (.pair (.int .i64) (.pair (.int .i64) (.pair (.int .i64) (.int .i64)))) (.int .i64))), a1, .ro⟩, ⟨196, (.pair (.int .i64) (.pair (.pair (.int .i64) (.pair (.int .i64) (.pair (.int .i64) (.int .i64)))) (.int .i64))), a2, .ro⟩] => some ⟨Bool, L.eqTakenS a1 a2, R67⟩
  | _, _, _ => none
theorem ev67 (a1 a2 : List (Int × (Int × Int × Int × Int) × Int)) : evF Try.prog G67 L67 (0, 0) Try.f67 c67 [vl 0, vl 1] [] [⟨196, (.pair (.int .i64) (.pair (.pair (.int .i64) (.pair (.int .i64) (.pair (.int .i64) (.int .i64)))) (.int .i64))), a1, .ro⟩, ⟨196, (.pair (.int .i64) (.pair (.pair (.int .i64) (.pair (.int .i64) (.pair (.int .i64) (.int .i64)))) (.int .i64))), a2, .ro⟩] K67 = L.eqTakenS a1 a2 := by kernel_rfl
theorem good67 : Vm.Good Try.prog 67 E67 := by
  refine evF_good (G := G67) (c := c67) (envCons_good good147 envNil_good) Try.func67 (by kernel_rfl) (by kernel_rfl) (0, 0) (fun args bs rs out t h h2 => ?_)
  unfold E67 at h
  split at h
  · injection h with h
    subst h
    exact ⟨rfl, L67, K67, lp67, (fun r t h => by unfold K67 at h; split at h; (injection h with h; subst h; rfl); cases h), (ev67 _ _).trans h2⟩
  · cases h
/-! ### L.eqUint64S -/
noncomputable def G112 : Env := envNil
noncomputable def c112 : Code := bodyOf Try.f112
noncomputable def c112_4 : Code := (loopsOf c112).getD 0 .skip
noncomputable def L.eqUint64S_l0 : Nat → (Bool → Option Bool) → (Option Bool) → Int → List Int → List Int → Option Bool
  | 0, _, _, _, _, _ => none
  | m + 1, e4_0, e4_1, a5, a6, a7 =>
    (bif (decide (a5 < (a6.length : Int))) then
    (bif decide ((0 : Int) ≤ a5 ∧ a5 < (a6.length : Int)) then
    (bif decide ((0 : Int) ≤ a5 ∧ a5 < (a7.length : Int)) then
    (bif ((nthI a6 a5 (0 : Int)) != (nthI a7 a5 (0 : Int))) then
    (e4_0 false)
    else
    (L.eqUint64S_l0 m e4_0 e4_1 (IntKind.wrap .i64 (a5 + 1)) a6 a7))
    else
    none)
    else
    none)
    else
    e4_1)
noncomputable def L.eqUint64S (a1 a2 : List Int) : Option Bool :=
(bif ((a1.length : Int) != (a2.length : Int)) then
(some false)
else
(L.eqUint64S_l0 fu (fun y12 =>
(some y12)) (some true) 0 a1 a2))
noncomputable def H112_4 : LoopH := ⟨⟨((.one (.sl 0)) :: (.one (.sl 1)) :: (hu 3 (hh :: (hu 20 [])))), [], [(117, (.int .u64), .ro), (117, (.int .u64), .ro)]⟩, [2, 3, 4, 6, 7, 8, 9, 10, 11, 12, 13, 14, 15, 16, 17, 18, 19, 20, 21, 22, 23, 24, 25], [], [0, 1, 2, 3, 5, 6, 7, 8, 9, 10, 11, 12, 13, 14, 15, 16, 17, 18, 19, 20, 21, 22, 23, 24, 25]⟩
noncomputable def E112_4 (m : Nat) (ps : List Prm) (k : Kont Bool) : Option Bool :=
  match ps with
  | [.v (.int .i64 a5), .row (.int .u64) a6, .row (.int .u64) a7] => L.eqUint64S_l0 m (fun z14 => k .ret (⟨(vu 4 ((vb z14) :: (vu 21 []))), [], []⟩ : St)) (k (.exit 0) (⟨(vu 26 []), [], []⟩ : St)) a5 a6 a7
  | _ => none
noncomputable def S112_4 (a5 : Int) (a6 a7 : List Int) : St := (⟨((vl 0) :: (vl 1) :: (vu 3 ((vi a5) :: (vu 20 [])))), [], [⟨117, (.int .u64), a6, .ro⟩, ⟨117, (.int .u64), a7, .ro⟩]⟩ : St)
theorem ev112_4 (m : Nat) (k : Kont Bool) (a5 : Int) (a6 a7 : List Int) : evC Try.prog G112 loopNil c112_4 (S112_4 a5 a6 a7) (turn Try.prog (0, 0) H112_4 (E112_4 m) k) = E112_4 (m + 1) [.v (.int .i64 a5), .row (.int .u64) a6, .row (.int .u64) a7] k := by kernel_rfl
theorem ok112_4 (m : Nat) : LoopOk Try.prog (0, 0) c112_4 (enter Try.prog (0, 0) H112_4 (E112_4 m)) := by
  refine loop_ok (G := G112) (L := loopNil) envNil_good (by intro x hx; simp [show loopsOf c112_4 = [] from by kernel_rfl] at hx) (fun ps k => by unfold E112_4; split <;> rfl) (fun m ps k r h => ?_) m
  have h0 := h
  unfold E112_4 at h
  split at h
  · exact ⟨S112_4 _ _ _, by kernel_rfl, (ev112_4 m k _ _ _).trans h0⟩
  · cases h
noncomputable def L112 : LEnv Bool := (loopCons 4 (enter Try.prog (0, 0) H112_4 (E112_4 fu)) loopNil)
theorem lq112 : loopsOf c112 = [c112_4] := by kernel_rfl
theorem fr112_4 : firstReg c112_4 = some 4 := by kernel_rfl
theorem le112_4 : L112 4 = enter Try.prog (0, 0) H112_4 (E112_4 fu) := by kernel_rfl
theorem lm112 : ∀ x ∈ [c112_4], ∀ id, firstReg x = some id → LoopOk Try.prog (0, 0) x (L112 id) := (loops_cons fr112_4 le112_4 (ok112_4 fu) loops_nil)
theorem lp112 : ∀ x ∈ loopsOf c112, ∀ id, firstReg x = some id → LoopOk Try.prog (0, 0) x (L112 id) := loops_eq lq112 lm112
noncomputable def R112 (x : Bool) : Res := ⟨[.one (ab x)], [], []⟩
noncomputable def K112 (r : Res) : Option Bool :=
  match r with
  | ⟨[.one (.val (.bool v1))], [], []⟩ => some (v1)
  | _ => none
noncomputable def E112 : Fun2 := fun args bs rs =>
  match args, bs, rs with
  | [.s1 (.one (.sl 0)), .s1 (.one (.sl 1))], [], [⟨117, (.int .u64), a1, .ro⟩, ⟨117, (.int .u64), a2, .ro⟩] => some ⟨Bool, L.eqUint64S a1 a2, R112⟩
  | _, _, _ => none
theorem ev112 (a1 a2 : List Int) : evF Try.prog G112 L112 (0, 0) Try.f112 c112 [vl 0, vl 1] [] [⟨117, (.int .u64), a1, .ro⟩, ⟨117, (.int .u64), a2, .ro⟩] K112 = L.eqUint64S a1 a2 := by kernel_rfl
theorem good112 : Vm.Good Try.prog 112 E112 := by
  refine evF_good (G := G112) (c := c112) envNil_good Try.func112 (by kernel_rfl) (by kernel_rfl) (0, 0) (fun args bs rs out t h h2 => ?_)
  unfold E112 at h
  split at h
  · injection h with h
    subst h
    exact ⟨rfl, L112, K112, lp112, (fun r t h => by unfold K112 at h; split at h; (injection h with h; subst h; rfl); cases h), (ev112 _ _).trans h2⟩
  · cases h
/-! ### L.eqLat -/
noncomputable def G36 : Env := (envCons 112 [] E112 envNil)
noncomputable def c36 : Code := bodyOf Try.f36
noncomputable def L.eqLat (a1 a2 : Int) (a3 a4 : List Int) : Option Bool :=
(bif (a1 != a2) then
(some false)
else
(Option.bind (L.eqUint64S a3 a4) fun r5 =>
(bif (!r5) then
(some false)
else
(some true))))
noncomputable def R36 (x : Bool) : Res := ⟨[.one (ab x)], [], []⟩
noncomputable def K36 (r : Res) : Option Bool :=
  match r with
  | ⟨[.one (.val (.bool v1))], [], []⟩ => some (v1)
  | _ => none
noncomputable def E36 : Fun2 := fun args bs rs =>
  match args, bs, rs with
  | [.s1 (.agg [.val (.int .i64 a1), .sl 0]), .s1 (.agg [.val (.int .i64 a2), .sl 1])], [], [⟨117, (.int .u64), a3, .ro⟩, ⟨117, (.int .u64), a4, .ro⟩] => some ⟨Bool, L.eqLat a1 a2 a3 a4, R36⟩
  | _, _, _ => none
theorem ev36 (a1 a2 : Int) (a3 a4 : List Int) : evF Try.prog G36 loopNil (0, 0) Try.f36 c36 [.s1 (.agg [ai a1, .sl 0]), .s1 (.agg [ai a2, .sl 1])] [] [⟨117, (.int .u64), a3, .ro⟩, ⟨117, (.int .u64), a4, .ro⟩] K36 = L.eqLat a1 a2 a3 a4 := by kernel_rfl
theorem good36 : Vm.Good Try.prog 36 E36 := by
  refine evF_good (G := G36) (c := c36) (envCons_good good112 envNil_good) Try.func36 (by kernel_rfl) (by kernel_rfl) (0, 0) (fun args bs rs out t h h2 => ?_)
  unfold E36 at h
  split at h
  · injection h with h
    subst h
    exact ⟨rfl, loopNil, K36, (by intro x hx; simp [show loopsOf c36 = [] from by kernel_rfl] at hx), (fun r t h => by unfold K36 at h; split at h; (injection h with h; subst h; rfl); cases h), (ev36 _ _ _ _).trans h2⟩
  · cases h
/-! ### L.eqTok -/
noncomputable def G232 : Env := envNil
noncomputable def c232 : Code := bodyOf Try.f232
noncomputable def L.eqTok (a1 a2 a3 a4 : Int) : Option Bool :=
(bif (a1 != a3) then
(some false)
else
(bif (a2 != a4) then
(some false)
else
(some true)))
noncomputable def R232 (x : Bool) : Res := ⟨[.one (ab x)], [], []⟩
noncomputable def K232 (r : Res) : Option Bool :=
  match r with
  | ⟨[.one (.val (.bool v1))], [], []⟩ => some (v1)
  | _ => none
noncomputable def E232 : Fun2 := fun args bs rs =>
  match args, bs, rs with
  | [.s1 (.agg [.val (.int .i64 a1), .val (.int .i64 a2)]), .s1 (.agg [.val (.int .i64 a3), .val (.int .i64 a4)])], [], [] => some ⟨Bool, L.eqTok a1 a2 a3 a4, R232⟩
  | _, _, _ => none
theorem ev232 (a1 a2 a3 a4 : Int) : evF Try.prog G232 loopNil (0, 0) Try.f232 c232 [.s1 (.agg [ai a1, ai a2]), .s1 (.agg [ai a3, ai a4])] [] [] K232 = L.eqTok a1 a2 a3 a4 := by kernel_rfl
theorem good232 : Vm.Good Try.prog 232 E232 := by
  refine evF_good (G := G232) (c := c232) envNil_good Try.func232 (by kernel_rfl) (by kernel_rfl) (0, 0) (fun args bs rs out t h h2 => ?_)
  unfold E232 at h
  split at h
  · injection h with h
    subst h
    exact ⟨rfl, loopNil, K232, (by intro x hx; simp [show loopsOf c232 = [] from by kernel_rfl] at hx), (fun r t h => by unfold K232 at h; split at h; (injection h with h; subst h; rfl); cases h), (ev232 _ _ _ _).trans h2⟩
  · cases h
/-! ### L.eqTokS -/
noncomputable def G168 : Env := (envCons 232 [] E232 envNil)
noncomputable def c168 : Code := bodyOf Try.f168
noncomputable def c168_4 : Code := (loopsOf c168).getD 0 .skip
noncomputable def L.eqTokS_l0 : Nat → (Bool → Option Bool) → (Option Bool) → Int → (List (Int × Int)) → (List (Int × Int)) → Option Bool
  | 0, _, _, _, _, _ => none
  | m + 1, e4_0, e4_1, a5, a6, a7 =>
    (bif (decide (a5 < (a6.length : Int))) then
    (bif decide ((0 : Int) ≤ a5 ∧ a5 < (a6.length : Int)) then
    (bif decide ((0 : Int) ≤ a5 ∧ a5 < (a7.length : Int)) then
    (Option.bind (L.eqTok ((nthI a6 a5 ((0 : Int), (0 : Int))).1) ((nthI a6 a5 ((0 : Int), (0 : Int))).2) ((nthI a7 a5 ((0 : Int), (0 : Int))).1) ((nthI a7 a5 ((0 : Int), (0 : Int))).2)) fun r10 =>
    (bif (!r10) then
    (e4_0 false)
    else
    (L.eqTokS_l0 m e4_0 e4_1 (IntKind.wrap .i64 (a5 + 1)) a6 a7)))
    else
    none)
    else
    none)
    else
    e4_1)
noncomputable def L.eqTokS (a1 a2 : List (Int × Int)) : Option Bool :=
(bif ((a1.length : Int) != (a2.length : Int)) then
(some false)
else
(L.eqTokS_l0 fu (fun y12 =>
(some y12)) (some true) 0 a1 a2))
noncomputable def H168_4 : LoopH := ⟨⟨((.one (.sl 0)) :: (.one (.sl 1)) :: (hu 3 (hh :: (hu 21 [])))), [], [(275, (.pair (.int .i64) (.int .i64)), .ro), (275, (.pair (.int .i64) (.int .i64)), .ro)]⟩, [2, 3, 4, 6, 7, 8, 9, 10, 11, 12, 13, 14, 15, 16, 17, 18, 19, 20, 21, 22, 23, 24, 25, 26], [], [0, 1, 2, 3, 5, 6, 7, 8, 9, 10, 11, 12, 13, 14, 15, 16, 17, 18, 19, 20, 21, 22, 23, 24, 25, 26]⟩
noncomputable def E168_4 (m : Nat) (ps : List Prm) (k : Kont Bool) : Option Bool :=
  match ps with
  | [.v (.int .i64 a5), .row (.pair (.int .i64) (.int .i64)) a6, .row (.pair (.int .i64) (.int .i64)) a7] => L.eqTokS_l0 m (fun z14 => k .ret (⟨(vu 4 ((vb z14) :: (vu 22 []))), [], []⟩ : St)) (k (.exit 0) (⟨(vu 27 []), [], []⟩ : St)) a5 a6 a7
  | _ => none
noncomputable def S168_4 (a5 : Int) (a6 a7 : List (Int × Int)) : St := (⟨((vl 0) :: (vl 1) :: (vu 3 ((vi a5) :: (vu 21 [])))), [], [⟨275, (.pair (.int .i64) (.int .i64)), a6, .ro⟩, ⟨275, (.pair (.int .i64) (.int .i64)), a7, .ro⟩]⟩ : St)
theorem ev168_4 (m : Nat) (k : Kont Bool) (a5 : Int) (a6 a7 : List (Int × Int)) : evC Try.prog G168 loopNil c168_4 (S168_4 a5 a6 a7) (turn Try.prog (0, 0) H168_4 (E168_4 m) k) = E168_4 (m + 1) [.v (.int .i64 a5), .row (.pair (.int .i64) (.int .i64)) a6, .row (.pair (.int .i64) (.int .i64)) a7] k := by kernel_rfl
theorem ok168_4 (m : Nat) : LoopOk Try.prog (0, 0) c168_4 (enter Try.prog (0, 0) H168_4 (E168_4 m)) := by
  refine loop_ok (G := G168) (L := loopNil) (envCons_good good232 envNil_good) (by intro x hx; simp [show loopsOf c168_4 = [] from by kernel_rfl] at hx) (fun ps k => by unfold E168_4; split <;> rfl) (fun m ps k r h => ?_) m
  have h0 := h
  unfold E168_4 at h
  split at h
  · exact ⟨S168_4 _ _ _, by kernel_rfl, (ev168_4 m k _ _ _).trans h0⟩
  · cases h
noncomputable def L168 : LEnv Bool := (loopCons 4 (enter Try.prog (0, 0) H168_4 (E168_4 fu)) loopNil)
theorem lq168 : loopsOf c168 = [c168_4] := by kernel_rfl
theorem fr168_4 : firstReg c168_4 = some 4 := by kernel_rfl
theorem le168_4 : L168 4 = enter Try.prog (0, 0) H168_4 (E168_4 fu) := by kernel_rfl
theorem lm168 : ∀ x ∈ [c168_4], ∀ id, firstReg x = some id → LoopOk Try.prog (0, 0) x (L168 id) := (loops_cons fr168_4 le168_4 (ok168_4 fu) loops_nil)
theorem lp168 : ∀ x ∈ loopsOf c168, ∀ id, firstReg x = some id → LoopOk Try.prog (0, 0) x (L168 id) := loops_eq lq168 lm168
noncomputable def R168 (x : Bool) : Res := ⟨[.one (ab x)], [], []⟩
noncomputable def K168 (r : Res) : Option Bool :=
  match r with
  | ⟨[.one (.val (.bool v1))], [], []⟩ => some (v1)
  | _ => none
noncomputable def E168 : Fun2 := fun args bs rs =>
  match args, bs, rs with
  | [.s1 (.one (.sl 0)), .s1 (.one (.sl 1))], [], [⟨275, (.pair (.int .i64) (.int .i64)), a1, .ro⟩, ⟨275, (.pair (.int .i64) (.int .i64)), a2, .ro⟩] => some ⟨Bool, L.eqTokS a1 a2, R168⟩
  | _, _, _ => none
theorem ev168 (a1 a2 : List (Int × Int)) : evF Try.prog G168 L168 (0, 0) Try.f168 c168 [vl 0, vl 1] [] [⟨275, (.pair (.int .i64) (.int .i64)), a1, .ro⟩, ⟨275, (.pair (.int .i64) (.int .i64)), a2, .ro⟩] K168 = L.eqTokS a1 a2 := by kernel_rfl
theorem good168 : Vm.Good Try.prog 168 E168 := by
  refine evF_good (G := G168) (c := c168) (envCons_good good232 envNil_good) Try.func168 (by kernel_rfl) (by kernel_rfl) (0, 0) (fun args bs rs out t h h2 => ?_)
  unfold E168 at h
  split at h
  · injection h with h
    subst h
    exact ⟨rfl, L168, K168, lp168, (fun r t h => by unfold K168 at h; split at h; (injection h with h; subst h; rfl); cases h), (ev168 _ _).trans h2⟩
  · cases h
/-! ### L.eqWinDef -/
noncomputable def G169 : Env := envNil
noncomputable def c169 : Code := bodyOf Try.f169
noncomputable def L.eqWinDef (a1 a2 a3 a4 a5 a6 : Int) : Option Bool :=
(bif (a1 != a4) then
(some false)
else
(bif (a2 != a5) then
(some false)
else
(bif (a3 != a6) then
(some false)
else
(some true))))
noncomputable def R169 (x : Bool) : Res := ⟨[.one (ab x)], [], []⟩
noncomputable def K169 (r : Res) : Option Bool :=
  match r with
  | ⟨[.one (.val (.bool v1))], [], []⟩ => some (v1)
  | _ => none
noncomputable def E169 : Fun2 := fun args bs rs =>
  match args, bs, rs with
  | [.s1 (.agg [.val (.int .i64 a1), .val (.int .i64 a2), .val (.int .i64 a3)]), .s1 (.agg [.val (.int .i64 a4), .val (.int .i64 a5), .val (.int .i64 a6)])], [], [] => some ⟨Bool, L.eqWinDef a1 a2 a3 a4 a5 a6, R169⟩
  | _, _, _ => none
theorem ev169 (a1 a2 a3 a4 a5 a6 : Int) : evF Try.prog G169 loopNil (0, 0) Try.f169 c169 [.s1 (.agg [ai a1, ai a2, ai a3]), .s1 (.agg [ai a4, ai a5, ai a6])] [] [] K169 = L.eqWinDef a1 a2 a3 a4 a5 a6 := by kernel_rfl
theorem good169 : Vm.Good Try.prog 169 E169 := by
  refine evF_good (G := G169) (c := c169) envNil_good Try.func169 (by kernel_rfl) (by kernel_rfl) (0, 0) (fun args bs rs out t h h2 => ?_)
  unfold E169 at h
  split at h
  · injection h with h
    subst h
    exact ⟨rfl, loopNil, K169, (by intro x hx; simp [show loopsOf c169 = [] from by kernel_rfl] at hx), (fun r t h => by unfold K169 at h; split at h; (injection h with h; subst h; rfl); cases h), (ev169 _ _ _ _ _ _).trans h2⟩
  · cases h
/-! ### L.eqQuery -/
noncomputable def G82 : Env := (envCons 168 [] E168 (envCons 169 [] E169 envNil))
noncomputable def c82 : Code := bodyOf Try.f82
noncomputable def L.eqQuery (a1 a2 a3 a4 a5 a6 a7 a8 a9 a10 : Int) (a11 a12 a13 a14 : List (Int × Int)) : Option Bool :=
(Option.bind (L.eqTokS a11 a13) fun r15 =>
(bif (!r15) then
(some false)
else
(Option.bind (L.eqTokS a12 a14) fun r16 =>
(bif (!r16) then
(some false)
else
(Option.bind (L.eqWinDef a1 a2 a3 a6 a7 a8) fun r17 =>
(bif (!r17) then
(some false)
else
(bif (a4 != a9) then
(some false)
else
(bif (a5 != a10) then
(some false)
else
(some true)))))))))
noncomputable def R82 (x : Bool) : Res := ⟨[.one (ab x)], [], []⟩
noncomputable def K82 (r : Res) : Option Bool :=
  match r with
  | ⟨[.one (.val (.bool v1))], [], []⟩ => some (v1)
  | _ => none
noncomputable def E82 : Fun2 := fun args bs rs =>
  match args, bs, rs with
  | [.s1 (.agg [.sl 0, .sl 1, .val (.int .i64 a1), .val (.int .i64 a2), .val (.int .i64 a3), .val (.int .i64 a4), .val (.int .i64 a5)]), .s1 (.agg [.sl 2, .sl 3, .val (.int .i64 a6), .val (.int .i64 a7), .val (.int .i64 a8), .val (.int .i64 a9), .val (.int .i64 a10)])], [], [⟨275, (.pair (.int .i64) (.int .i64)), a11, .ro⟩, ⟨275, (.pair (.int .i64) (.int .i64)), a12, .ro⟩, ⟨275, (.pair (.int .i64) (.int .i64)), a13, .ro⟩, ⟨275, (.pair (.int .i64) (.int .i64)), a14, .ro⟩] => some ⟨Bool, L.eqQuery a1 a2 a3 a4 a5 a6 a7 a8 a9 a10 a11 a12 a13 a14, R82⟩
  | _, _, _ => none
theorem ev82 (a1 a2 a3 a4 a5 a6 a7 a8 a9 a10 : Int) (a11 a12 a13 a14 : List (Int × Int)) : evF Try.prog G82 loopNil (0, 0) Try.f82 c82 [.s1 (.agg [.sl 0, .sl 1, ai a1, ai a2, ai a3, ai a4, ai a5]), .s1 (.agg [.sl 2, .sl 3, ai a6, ai a7, ai a8, ai a9, ai a10])] [] [⟨275, (.pair (.int .i64) (.int .i64)), a11, .ro⟩, ⟨275, (.pair (.int .i64) (.int .i64)), a12, .ro⟩, ⟨275, (.pair (.int .i64) (.int .i64)), a13, .ro⟩, ⟨275, (.pair (.int .i64) (.int .i64)), a14, .ro⟩] K82 = L.eqQuery a1 a2 a3 a4 a5 a6 a7 a8 a9 a10 a11 a12 a13 a14 := by kernel_rfl
theorem good82 : Vm.Good Try.prog 82 E82 := by
  refine evF_good (G := G82) (c := c82) (envCons_good good168 (envCons_good good169 envNil_good)) Try.func82 (by kernel_rfl) (by kernel_rfl) (0, 0) (fun args bs rs out t h h2 => ?_)
  unfold E82 at h
  split at h
  · injection h with h
    subst h
    exact ⟨rfl, loopNil, K82, (by intro x hx; simp [show loopsOf c82 = [] from by kernel_rfl] at hx), (fun r t h => by unfold K82 at h; split at h; (injection h with h; subst h; rfl); cases h), (ev82 _ _ _ _ _ _ _ _ _ _ _ _ _ _).trans h2⟩
  · cases h
/-! ### L.eqQueryS -/
noncomputable def G148 : Env := (envCons 82 [] E82 envNil)
noncomputable def c148 : Code := bodyOf Try.f148
noncomputable def c148_4 : Code := (loopsOf c148).getD 0 .skip
noncomputable def L.eqQueryS_l0 : Nat → (Bool → Option Bool) → (Option Bool) → Int → (List (List (Int × Int) × List (Int × Int) × (Int × Int × Int) × Int × Int)) → (List (List (Int × Int) × List (Int × Int) × (Int × Int × Int) × Int × Int)) → Option Bool
  | 0, _, _, _, _, _ => none
  | m + 1, e4_0, e4_1, a5, a6, a7 =>
    (bif (decide (a5 < (a6.length : Int))) then
    (bif decide ((0 : Int) ≤ a5 ∧ a5 < (a6.length : Int)) then
    (bif decide ((0 : Int) ≤ a5 ∧ a5 < (a7.length : Int)) then
    (Option.bind (L.eqQuery ((nthI a6 a5 ([], ([], (((0 : Int), ((0 : Int), (0 : Int))), ((0 : Int), (0 : Int)))))).2.2.1.1) ((nthI a6 a5 ([], ([], (((0 : Int), ((0 : Int), (0 : Int))), ((0 : Int), (0 : Int)))))).2.2.1.2.1) ((nthI a6 a5 ([], ([], (((0 : Int), ((0 : Int), (0 : Int))), ((0 : Int), (0 : Int)))))).2.2.1.2.2) ((nthI a6 a5 ([], ([], (((0 : Int), ((0 : Int), (0 : Int))), ((0 : Int), (0 : Int)))))).2.2.2.1) ((nthI a6 a5 ([], ([], (((0 : Int), ((0 : Int), (0 : Int))), ((0 : Int), (0 : Int)))))).2.2.2.2) ((nthI a7 a5 ([], ([], (((0 : Int), ((0 : Int), (0 : Int))), ((0 : Int), (0 : Int)))))).2.2.1.1) ((nthI a7 a5 ([], ([], (((0 : Int), ((0 : Int), (0 : Int))), ((0 : Int), (0 : Int)))))).2.2.1.2.1) ((nthI a7 a5 ([], ([], (((0 : Int), ((0 : Int), (0 : Int))), ((0 : Int), (0 : Int)))))).2.2.1.2.2) ((nthI a7 a5 ([], ([], (((0 : Int), ((0 : Int), (0 : Int))), ((0 : Int), (0 : Int)))))).2.2.2.1) ((nthI a7 a5 ([], ([], (((0 : Int), ((0 : Int), (0 : Int))), ((0 : Int), (0 : Int)))))).2.2.2.2) ((nthI a6 a5 ([], ([], (((0 : Int), ((0 : Int), (0 : Int))), ((0 : Int), (0 : Int)))))).1) ((nthI a6 a5 ([], ([], (((0 : Int), ((0 : Int), (0 : Int))), ((0 : Int), (0 : Int)))))).2.1) ((nthI a7 a5 ([], ([], (((0 : Int), ((0 : Int), (0 : Int))), ((0 : Int), (0 : Int)))))).1) ((nthI a7 a5 ([], ([], (((0 : Int), ((0 : Int), (0 : Int))), ((0 : Int), (0 : Int)))))).2.1)) fun r10 =>
    (bif (!r10) then
    (e4_0 false)
    else
    (L.eqQueryS_l0 m e4_0 e4_1 (IntKind.wrap .i64 (a5 + 1)) a6 a7)))
    else
    none)
    else
    none)
    else
    e4_1)
noncomputable def L.eqQueryS (a1 a2 : List (List (Int × Int) × List (Int × Int) × (Int × Int × Int) × Int × Int)) : Option Bool :=
(bif ((a1.length : Int) != (a2.length : Int)) then
(some false)
else
(L.eqQueryS_l0 fu (fun y12 =>
(some y12)) (some true) 0 a1 a2))
noncomputable def H148_4 : LoopH := ⟨⟨((.one (.sl 0)) :: (.one (.sl 1)) :: (hu 3 (hh :: (hu 21 [])))), [], [(129, (.pair (.sl 275 (.pair (.int .i64) (.int .i64))) (.pair (.sl 275 (.pair (.int .i64) (.int .i64))) (.pair (.pair (.int .i64) (.pair (.int .i64) (.int .i64))) (.pair (.int .i64) (.int .i64))))), .ro), (129, (.pair (.sl 275 (.pair (.int .i64) (.int .i64))) (.pair (.sl 275 (.pair (.int .i64) (.int .i64))) (.pair (.pair (.int .i64) (.pair (.int .i64) (.int .i64))) (.pair (.int .i64) (.int .i64))))), .ro)]⟩, [2, 3, 4, 6, 7, 8, 9, 10, 11, 12, 13, 14, 15, 16, 17, 18, 19, 20, 21, 22, 23, 24, 25, 26], [], [0, 1, 2, 3, 5, 6, 7, 8, 9, 10, 11, 12, 13, 14, 15, 16, 17, 18, 19, 20, 21, 22, 23, 24, 25, 26]⟩
noncomputable def E148_4 (m : Nat) (ps : List Prm) (k : Kont Bool) : Option Bool :=
  match ps with
  | [.v (.int .i64 a5), .row (.pair (.sl 275 (.pair (.int .i64) (.int .i64))) (.pair (.sl 275 (.pair (.int .i64) (.int .i64))) (.pair (.pair (.int .i64) (.pair (.int .i64) (.int .i64))) (.pair (.int .i64) (.int .i64))))) a6, .row (.pair (.sl 275 (.pair (.int .i64) (.int .i64))) (.pair (.sl 275 (.pair (.int .i64) (.int .i64))) (.pair (.pair (.int .i64) (.pair (.int .i64) (.int .i64))) (.pair (.int .i64) (.int .i64))))) a7] => L.eqQueryS_l0 m (fun z14 => k .ret (⟨(vu 4 ((vb z14) :: (vu 22 []))), [], []⟩ : St)) (k (.exit 0) (⟨(vu 27 []), [], []⟩ : St)) a5 a6 a7
  | _ => none
noncomputable def S148_4 (a5 : Int) (a6 a7 : List (List (Int × Int) × List (Int × Int) × (Int × Int × Int) × Int × Int)) : St := (⟨((vl 0) :: (vl 1) :: (vu 3 ((vi a5) :: (vu 21 [])))), [], [⟨129, (.pair (.sl 275 (.pair (.int .i64) (.int .i64))) (.pair (.sl 275 (.pair (.int .i64) (.int .i64))) (.pair (.pair (.int .i64) (.pair (.int .i64) (.int .i64))) (.pair (.int .i64) (.int .i64))))), a6, .ro⟩, ⟨129, (.pair (.sl 275 (.pair (.int .i64) (.int .i64))) (.pair (.sl 275 (.pair (.int .i64) (.int .i64))) (.pair (.pair (.int .i64) (.pair (.int .i64) (.int .i64))) (.pair (.int .i64) (.int .i64))))), a7, .ro⟩]⟩ : St)
theorem ev148_4 (m : Nat) (k : Kont Bool) (a5 : Int) (a6 a7 : List (List (Int × Int) × List (Int × Int) × (Int × Int × Int) × Int × Int)) : evC Try.prog G148 loopNil c148_4 (S148_4 a5 a6 a7) (turn Try.prog (0, 0) H148_4 (E148_4 m) k) = E148_4 (m + 1) [.v (.int .i64 a5), .row (.pair (.sl 275 (.pair (.int .i64) (.int .i64))) (.pair (.sl 275 (.pair (.int .i64) (.int .i64))) (.pair (.pair (.int .i64) (.pair (.int .i64) (.int .i64))) (.pair (.int .i64) (.int .i64))))) a6, .row (.pair (.sl 275 (.pair (.int .i64) (.int .i64))) (.pair (.sl 275 (.pair (.int .i64) (.int .i64))) (.pair (.pair (.int .i64) (.pair (.int .i64) (.int .i64))) (.pair (.int .i64) (.int .i64))))) a7] k := by kernel_rfl
theorem ok148_4 (m : Nat) : LoopOk Try.prog (0, 0) c148_4 (enter Try.prog (0, 0) H148_4 (E148_4 m)) := by
  refine loop_ok (G := G148) (L := loopNil) (envCons_good good82 envNil_good) (by intro x hx; simp [show loopsOf c148_4 = [] from by kernel_rfl] at hx) (fun ps k => by unfold E148_4; split <;> rfl) (fun m ps k r h => ?_) m
  have h0 := h
  unfold E148_4 at h
  split at h
  · exact ⟨S148_4 _ _ _, by kernel_rfl, (ev148_4 m k _ _ _).trans h0⟩
  · cases h
noncomputable def L148 : LEnv Bool := (loopCons 4 (enter Try.prog (0, 0) H148_4 (E148_4 fu)) loopNil)
theorem lq148 : loopsOf c148 = [c148_4] := by kernel_rfl
theorem fr148_4 : firstReg c148_4 = some 4 := by kernel_rfl
theorem le148_4 : L148 4 = enter Try.prog (0, 0) H148_4 (E148_4 fu) := by kernel_rfl
theorem lm148 : ∀ x ∈ [c148_4], ∀ id, firstReg x = some id → LoopOk Try.prog (0, 0) x (L148 id) := (loops_cons fr148_4 le148_4 (ok148_4 fu) loops_nil)
theorem lp148 : ∀ x ∈ loopsOf c148, ∀ id, firstReg x = some id → LoopOk Try.prog (0, 0) x (L148 id) := loops_eq lq148 lm148
noncomputable def R148 (x : Bool) : Res := ⟨[.one (ab x)], [], []⟩
noncomputable def K148 (r : Res) : Option Bool :=
  match r with
  | ⟨[.one (.val (.bool v1))], [], []⟩ => some (v1)
  | _ => none
noncomputable def E148 : Fun2 := fun args bs rs =>
  match args, bs, rs with
  | [.s1 (.one (.sl 0)), .s1 (.one (.sl 1))], [], [⟨129, (.pair (.sl 275 (.pair (.int .i64) (.int .i64))) (.pair (.sl 275 (.pair (.int .i64) (.int .i64))) (.pair (.pair (.int .i64) (.pair (.int .i64) (.int .i64))) (.pair (.int .i64) (.int .i64))))), a1, .ro⟩, ⟨129, (.pair (.sl 275 (.pair (.int .i64) (.int .i64))) (.pair (.sl 275 (.pair (.int .i64) (.int .i64))) (.pair (.pair (.int .i64) (.pair (.int .i64) (.int .i64))) (.pair (.int .i64) (.int .i64))))), a2, .ro⟩] => some ⟨Bool, L.eqQueryS a1 a2, R148⟩
  | _, _, _ => none
theorem ev148 (a1 a2 : List (List (Int × Int) × List (Int × Int) × (Int × Int × Int) × Int × Int)) : evF Try.prog G148 L148 (0, 0) Try.f148 c148 [vl 0, vl 1] [] [⟨129, (.pair (.sl 275 (.pair (.int .i64) (.int .i64))) (.pair (.sl 275 (.pair (.int .i64) (.int .i64))) (.pair (.pair (.int .i64) (.pair (.int .i64) (.int .i64))) (.pair (.int .i64) (.int .i64))))), a1, .ro⟩, ⟨129, (.pair (.sl 275 (.pair (.int .i64) (.int .i64))) (.pair (.sl 275 (.pair (.int .i64) (.int .i64))) (.pair (.pair (.int .i64) (.pair (.int .i64) (.int .i64))) (.pair (.int .i64) (.int .i64))))), a2, .ro⟩] K148 = L.eqQueryS a1 a2 := by kernel_rfl
theorem good148 : Vm.Good Try.prog 148 E148 := by
  refine evF_good (G := G148) (c := c148) (envCons_good good82 envNil_good) Try.func148 (by kernel_rfl) (by kernel_rfl) (0, 0) (fun args bs rs out t h h2 => ?_)
  unfold E148 at h
  split at h
  · injection h with h
    subst h
    exact ⟨rfl, L148, K148, lp148, (fun r t h => by unfold K148 at h; split at h; (injection h with h; subst h; rfl); cases h), (ev148 _ _).trans h2⟩
  · cases h
/-! ### L.eqSub -/
noncomputable def G206 : Env := envNil
noncomputable def c206 : Code := bodyOf Try.f206
noncomputable def L.eqSub (a1 a2 a3 a4 a5 a6 : Int) : Option Bool :=
(bif (a1 != a4) then
(some false)
else
(bif (a2 != a5) then
(some false)
else
(bif (a3 != a6) then
(some false)
else
(some true))))
noncomputable def R206 (x : Bool) : Res := ⟨[.one (ab x)], [], []⟩
noncomputable def K206 (r : Res) : Option Bool :=
  match r with
  | ⟨[.one (.val (.bool v1))], [], []⟩ => some (v1)
  | _ => none
noncomputable def E206 : Fun2 := fun args bs rs =>
  match args, bs, rs with
  | [.s1 (.agg [.val (.int .i64 a1), .val (.int .i64 a2), .val (.int .i64 a3)]), .s1 (.agg [.val (.int .i64 a4), .val (.int .i64 a5), .val (.int .i64 a6)])], [], [] => some ⟨Bool, L.eqSub a1 a2 a3 a4 a5 a6, R206⟩
  | _, _, _ => none
theorem ev206 (a1 a2 a3 a4 a5 a6 : Int) : evF Try.prog G206 loopNil (0, 0) Try.f206 c206 [.s1 (.agg [ai a1, ai a2, ai a3]), .s1 (.agg [ai a4, ai a5, ai a6])] [] [] K206 = L.eqSub a1 a2 a3 a4 a5 a6 := by kernel_rfl
theorem good206 : Vm.Good Try.prog 206 E206 := by
  refine evF_good (G := G206) (c := c206) envNil_good Try.func206 (by kernel_rfl) (by kernel_rfl) (0, 0) (fun args bs rs out t h h2 => ?_)
  unfold E206 at h
  split at h
  · injection h with h
    subst h
    exact ⟨rfl, loopNil, K206, (by intro x hx; simp [show loopsOf c206 = [] from by kernel_rfl] at hx), (fun r t h => by unfold K206 at h; split at h; (injection h with h; subst h; rfl); cases h), (ev206 _ _ _ _ _ _).trans h2⟩
  · cases h
/-! ### L.eqSubS -/
noncomputable def G149 : Env := (envCons 206 [] E206 envNil)
noncomputable def c149 : Code := bodyOf Try.f149
noncomputable def c149_4 : Code := (loopsOf c149).getD 0 .skip
noncomputable def L.eqSubS_l0 : Nat → (Bool → Option Bool) → (Option Bool) → Int → (List (Int × Int × Int)) → (List (Int × Int × Int)) → Option Bool
  | 0, _, _, _, _, _ => none
  | m + 1, e4_0, e4_1, a5, a6, a7 =>
    (bif (decide (a5 < (a6.length : Int))) then
    (bif decide ((0 : Int) ≤ a5 ∧ a5 < (a6.length : Int)) then
    (bif decide ((0 : Int) ≤ a5 ∧ a5 < (a7.length : Int)) then
    (Option.bind (L.eqSub ((nthI a6 a5 ((0 : Int), ((0 : Int), (0 : Int)))).1) ((nthI a6 a5 ((0 : Int), ((0 : Int), (0 : Int)))).2.1) ((nthI a6 a5 ((0 : Int), ((0 : Int), (0 : Int)))).2.2) ((nthI a7 a5 ((0 : Int), ((0 : Int), (0 : Int)))).1) ((nthI a7 a5 ((0 : Int), ((0 : Int), (0 : Int)))).2.1) ((nthI a7 a5 ((0 : Int), ((0 : Int), (0 : Int)))).2.2)) fun r10 =>
    (bif (!r10) then
    (e4_0 false)
    else
    (L.eqSubS_l0 m e4_0 e4_1 (IntKind.wrap .i64 (a5 + 1)) a6 a7)))
    else
    none)
    else
    none)
    else
    e4_1)
noncomputable def L.eqSubS (a1 a2 : List (Int × Int × Int)) : Option Bool :=
(bif ((a1.length : Int) != (a2.length : Int)) then
(some false)
else
(L.eqSubS_l0 fu (fun y12 =>
(some y12)) (some true) 0 a1 a2))
noncomputable def H149_4 : LoopH := ⟨⟨((.one (.sl 0)) :: (.one (.sl 1)) :: (hu 3 (hh :: (hu 21 [])))), [], [(250, (.pair (.int .i64) (.pair (.int .i64) (.int .i64))), .ro), (250, (.pair (.int .i64) (.pair (.int .i64) (.int .i64))), .ro)]⟩, [2, 3, 4, 6, 7, 8, 9, 10, 11, 12, 13, 14, 15, 16, 17, 18, 19, 20, 21, 22, 23, 24, 25, 26], [], [0, 1, 2, 3, 5, 6, 7, 8, 9, 10, 11, 12, 13, 14, 15, 16, 17, 18, 19, 20, 21, 22, 23, 24, 25, 26]⟩
noncomputable def E149_4 (m : Nat) (ps : List Prm) (k : Kont Bool) : Option Bool :=
  match ps with
  | [.v (.int .i64 a5), .row (.pair (.int .i64) (.pair (.int .i64) (.int .i64))) a6, .row (.pair (.int .i64) (.pair (.int .i64) (.int .i64))) a7] => L.eqSubS_l0 m (fun z14 => k .ret (⟨(vu 4 ((vb z14) :: (vu 22 []))), [], []⟩ : St)) (k (.exit 0) (⟨(vu 27 []), [], []⟩ : St)) a5 a6 a7
  | _ => none
noncomputable def S149_4 (a5 : Int) (a6 a7 : List (Int × Int × Int)) : St := (⟨((vl 0) :: (vl 1) :: (vu 3 ((vi a5) :: (vu 21 [])))), [], [⟨250, (.pair (.int .i64) (.pair (.int .i64) (.int .i64))), a6, .ro⟩, ⟨250, (.pair (.int .i64) (.pair (.int .i64) (.int .i64))), a7, .ro⟩]⟩ : St)
theorem ev149_4 (m : Nat) (k : Kont Bool) (a5 : Int) (a6 a7 : List (Int × Int × Int)) : evC Try.prog G149 loopNil c149_4 (S149_4 a5 a6 a7) (turn Try.prog (0, 0) H149_4 (E149_4 m) k) = E149_4 (m + 1) [.v (.int .i64 a5), .row (.pair (.int .i64) (.pair (.int .i64) (.int .i64))) a6, .row (.pair (.int .i64) (.pair (.int .i64) (.int .i64))) a7] k := by kernel_rfl
theorem ok149_4 (m : Nat) : LoopOk Try.prog (0, 0) c149_4 (enter Try.prog (0, 0) H149_4 (E149_4 m)) := by
  refine loop_ok (G := G149) (L := loopNil) (envCons_good good206 envNil_good) (by intro x hx; simp [show loopsOf c149_4 = [] from by kernel_rfl] at hx) (fun ps k => by unfold E149_4; split <;> rfl) (fun m ps k r h => ?_) m
  have h0 := h
  unfold E149_4 at h
  split at h
  · exact ⟨S149_4 _ _ _, by kernel_rfl, (ev149_4 m k _ _ _).trans h0⟩
  · cases h
noncomputable def L149 : LEnv Bool := (loopCons 4 (enter Try.prog (0, 0) H149_4 (E149_4 fu)) loopNil)
theorem lq149 : loopsOf c149 = [c149_4] := by kernel_rfl
theorem fr149_4 : firstReg c149_4 = some 4 := by kernel_rfl
theorem le149_4 : L149 4 = enter Try.prog (0, 0) H149_4 (E149_4 fu) := by kernel_rfl
theorem lm149 : ∀ x ∈ [c149_4], ∀ id, firstReg x = some id → LoopOk Try.prog (0, 0) x (L149 id) := (loops_cons fr149_4 le149_4 (ok149_4 fu) loops_nil)
theorem lp149 : ∀ x ∈ loopsOf c149, ∀ id, firstReg x = some id → LoopOk Try.prog (0, 0) x (L149 id) := loops_eq lq149 lm149
noncomputable def R149 (x : Bool) : Res := ⟨[.one (ab x)], [], []⟩
noncomputable def K149 (r : Res) : Option Bool :=
  match r with
  | ⟨[.one (.val (.bool v1))], [], []⟩ => some (v1)
  | _ => none
noncomputable def E149 : Fun2 := fun args bs rs =>
  match args, bs, rs with
  | [.s1 (.one (.sl 0)), .s1 (.one (.sl 1))], [], [⟨250, (.pair (.int .i64) (.pair (.int .i64) (.int .i64))), a1, .ro⟩, ⟨250, (.pair (.int .i64) (.pair (.int .i64) (.int .i64))), a2, .ro⟩] => some ⟨Bool, L.eqSubS a1 a2, R149⟩
  | _, _, _ => none
theorem ev149 (a1 a2 : List (Int × Int × Int)) : evF Try.prog G149 L149 (0, 0) Try.f149 c149 [vl 0, vl 1] [] [⟨250, (.pair (.int .i64) (.pair (.int .i64) (.int .i64))), a1, .ro⟩, ⟨250, (.pair (.int .i64) (.pair (.int .i64) (.int .i64))), a2, .ro⟩] K149 = L.eqSubS a1 a2 := by kernel_rfl
theorem good149 : Vm.Good Try.prog 149 E149 := by
  refine evF_good (G := G149) (c := c149) (envCons_good good206 envNil_good) Try.func149 (by kernel_rfl) (by kernel_rfl) (0, 0) (fun args bs rs out t h h2 => ?_)
  unfold E149 at h
  split at h
  · injection h with h
    subst h
    exact ⟨rfl, L149, K149, lp149, (fun r t h => by unfold K149 at h; split at h; (injection h with h; subst h; rfl); cases h), (ev149 _ _).trans h2⟩
  · cases h
/-! ### L.eqRule -/
noncomputable def G207 : Env := envNil
noncomputable def c207 : Code := bodyOf Try.f207
noncomputable def L.eqRule (a1 a2 a3 a4 a5 a6 a7 a8 a9 a10 : Int) : Option Bool :=
(bif (a1 != a6) then
(some false)
else
(bif (a2 != a7) then
(some false)
else
(bif (a3 != a8) then
(some false)
else
(bif (a4 != a9) then
(some false)
else
(bif (a5 != a10) then
(some false)
else
(some true))))))
noncomputable def R207 (x : Bool) : Res := ⟨[.one (ab x)], [], []⟩
noncomputable def K207 (r : Res) : Option Bool :=
  match r with
  | ⟨[.one (.val (.bool v1))], [], []⟩ => some (v1)
  | _ => none
noncomputable def E207 : Fun2 := fun args bs rs =>
  match args, bs, rs with
  | [.s1 (.agg [.val (.int .i64 a1), .val (.int .i64 a2), .val (.int .i64 a3), .val (.int .i64 a4), .val (.int .i64 a5)]), .s1 (.agg [.val (.int .i64 a6), .val (.int .i64 a7), .val (.int .i64 a8), .val (.int .i64 a9), .val (.int .i64 a10)])], [], [] => some ⟨Bool, L.eqRule a1 a2 a3 a4 a5 a6 a7 a8 a9 a10, R207⟩
  | _, _, _ => none
theorem ev207 (a1 a2 a3 a4 a5 a6 a7 a8 a9 a10 : Int) : evF Try.prog G207 loopNil (0, 0) Try.f207 c207 [.s1 (.agg [ai a1, ai a2, ai a3, ai a4, ai a5]), .s1 (.agg [ai a6, ai a7, ai a8, ai a9, ai a10])] [] [] K207 = L.eqRule a1 a2 a3 a4 a5 a6 a7 a8 a9 a10 := by kernel_rfl
theorem good207 : Vm.Good Try.prog 207 E207 := by
  refine evF_good (G := G207) (c := c207) envNil_good Try.func207 (by kernel_rfl) (by kernel_rfl) (0, 0) (fun args bs rs out t h h2 => ?_)
  unfold E207 at h
  split at h
  · injection h with h
    subst h
    exact ⟨rfl, loopNil, K207, (by intro x hx; simp [show loopsOf c207 = [] from by kernel_rfl] at hx), (fun r t h => by unfold K207 at h; split at h; (injection h with h; subst h; rfl); cases h), (ev207 _ _ _ _ _ _ _ _ _ _).trans h2⟩
  · cases h
/-! ### L.eqRuleS -/
noncomputable def G150 : Env := (envCons 207 [] E207 envNil)
noncomputable def c150 : Code := bodyOf Try.f150
noncomputable def c150_4 : Code := (loopsOf c150).getD 0 .skip
noncomputable def L.eqRuleS_l0 : Nat → (Bool → Option Bool) → (Option Bool) → Int → (List (Int × Int × Int × Int × Int)) → (List (Int × Int × Int × Int × Int)) → Option Bool
  | 0, _, _, _, _, _ => none
  | m + 1, e4_0, e4_1, a5, a6, a7 =>
    (bif (decide (a5 < (a6.length : Int))) then
    (bif decide ((0 : Int) ≤ a5 ∧ a5 < (a6.length : Int)) then
    (bif decide ((0 : Int) ≤ a5 ∧ a5 < (a7.length : Int)) then
    (Option.bind (L.eqRule ((nthI a6 a5 ((0 : Int), ((0 : Int), ((0 : Int), ((0 : Int), (0 : Int)))))).1) ((nthI a6 a5 ((0 : Int), ((0 : Int), ((0 : Int), ((0 : Int), (0 : Int)))))).2.1) ((nthI a6 a5 ((0 : Int), ((0 : Int), ((0 : Int), ((0 : Int), (0 : Int)))))).2.2.1) ((nthI a6 a5 ((0 : Int), ((0 : Int), ((0 : Int), ((0 : Int), (0 : Int)))))).2.2.2.1) ((nthI a6 a5 ((0 : Int), ((0 : Int), ((0 : Int), ((0 : Int), (0 : Int)))))).2.2.2.2) ((nthI a7 a5 ((0 : Int), ((0 : Int), ((0 : Int), ((0 : Int), (0 : Int)))))).1) ((nthI a7 a5 ((0 : Int), ((0 : Int), ((0 : Int), ((0 : Int), (0 : Int)))))).2.1) ((nthI a7 a5 ((0 : Int), ((0 : Int), ((0 : Int), ((0 : Int), (0 : Int)))))).2.2.1) ((nthI a7 a5 ((0 : Int), ((0 : Int), ((0 : Int), ((0 : Int), (0 : Int)))))).2.2.2.1) ((nthI a7 a5 ((0 : Int), ((0 : Int), ((0 : Int), ((0 : Int), (0 : Int)))))).2.2.2.2)) fun r10 =>
    (bif (!r10) then
    (e4_0 false)
    else
    (L.eqRuleS_l0 m e4_0 e4_1 (IntKind.wrap .i64 (a5 + 1)) a6 a7)))
    else
    none)
    else
    none)
    else
    e4_1)
noncomputable def L.eqRuleS (a1 a2 : List (Int × Int × Int × Int × Int)) : Option Bool :=
(bif ((a1.length : Int) != (a2.length : Int)) then
(some false)
else
(L.eqRuleS_l0 fu (fun y12 =>
(some y12)) (some true) 0 a1 a2))
noncomputable def H150_4 : LoopH := ⟨⟨((.one (.sl 0)) :: (.one (.sl 1)) :: (hu 3 (hh :: (hu 21 [])))), [], [(252, (.pair (.int .i64) (.pair (.int .i64) (.pair (.int .i64) (.pair (.int .i64) (.int .i64))))), .ro), (252, (.pair (.int .i64) (.pair (.int .i64) (.pair (.int .i64) (.pair (.int .i64) (.int .i64))))), .ro)]⟩, [2, 3, 4, 6, 7, 8, 9, 10, 11, 12, 13, 14, 15, 16, 17, 18, 19, 20, 21, 22, 23, 24, 25, 26], [], [0, 1, 2, 3, 5, 6, 7, 8, 9, 10, 11, 12, 13, 14, 15, 16, 17, 18, 19, 20, 21, 22, 23, 24, 25, 26]⟩
noncomputable def E150_4 (m : Nat) (ps : List Prm) (k : Kont Bool) : Option Bool :=
  match ps with
  | [.v (.int .i64 a5), .row (.pair (.int .i64) (.pair (.int .i64) (.pair (.int .i64) (.pair (.int .i64) (.int .i64))))) a6, .row (.pair (.int .i64) (.pair (.int .i64) (.pair (.int .i64) (.pair (.int .i64) (.int .i64))))) a7] => L.eqRuleS_l0 m (fun z14 => k .ret (⟨(vu 4 ((vb z14) :: (vu 22 []))), [], []⟩ : St)) (k (.exit 0) (⟨(vu 27 []), [], []⟩ : St)) a5 a6 a7
  | _ => none
noncomputable def S150_4 (a5 : Int) (a6 a7 : List (Int × Int × Int × Int × Int)) : St := (⟨((vl 0) :: (vl 1) :: (vu 3 ((vi a5) :: (vu 21 [])))), [], [⟨252, (.pair (.int .i64) (.pair (.int .i64) (.pair (.int .i64) (.pair (.int .i64) (.int .i64))))), a6, .ro⟩, ⟨252, (.pair (.int .i64) (.pair (.int .i64) (.pair (.int .i64) (.pair (.int .i64) (.int .i64))))), a7, .ro⟩]⟩ : St)
theorem ev150_4 (m : Nat) (k : Kont Bool) (a5 : Int) (a6 a7 : List (Int × Int × Int × Int × Int)) : evC Try.prog G150 loopNil c150_4 (S150_4 a5 a6 a7) (turn Try.prog (0, 0) H150_4 (E150_4 m) k) = E150_4 (m + 1) [.v (.int .i64 a5), .row (.pair (.int .i64) (.pair (.int .i64) (.pair (.int .i64) (.pair (.int .i64) (.int .i64))))) a6, .row (.pair (.int .i64) (.pair (.int .i64) (.pair (.int .i64) (.pair (.int .i64) (.int .i64))))) a7] k := by kernel_rfl
theorem ok150_4 (m : Nat) : LoopOk Try.prog (0, 0) c150_4 (enter Try.prog (0, 0) H150_4 (E150_4 m)) := by
  refine loop_ok (G := G150) (L := loopNil) (envCons_good good207 envNil_good) (by intro x hx; simp [show loopsOf c150_4 = [] from by kernel_rfl] at hx) (fun ps k => by unfold E150_4; split <;> rfl) (fun m ps k r h => ?_) m
  have h0 := h
  unfold E150_4 at h
  split at h
  · exact ⟨S150_4 _ _ _, by kernel_rfl, (ev150_4 m k _ _ _).trans h0⟩
  · cases h
noncomputable def L150 : LEnv Bool := (loopCons 4 (enter Try.prog (0, 0) H150_4 (E150_4 fu)) loopNil)
theorem lq150 : loopsOf c150 = [c150_4] := by kernel_rfl
theorem fr150_4 : firstReg c150_4 = some 4 := by kernel_rfl
theorem le150_4 : L150 4 = enter Try.prog (0, 0) H150_4 (E150_4 fu) := by kernel_rfl
theorem lm150 : ∀ x ∈ [c150_4], ∀ id, firstReg x = some id → LoopOk Try.prog (0, 0) x (L150 id) := (loops_cons fr150_4 le150_4 (ok150_4 fu) loops_nil)
theorem lp150 : ∀ x ∈ loopsOf c150, ∀ id, firstReg x = some id → LoopOk Try.prog (0, 0) x (L150 id) := loops_eq lq150 lm150
noncomputable def R150 (x : Bool) : Res := ⟨[.one (ab x)], [], []⟩
noncomputable def K150 (r : Res) : Option Bool :=
  match r with
  | ⟨[.one (.val (.bool v1))], [], []⟩ => some (v1)
  | _ => none
noncomputable def E150 : Fun2 := fun args bs rs =>
  match args, bs, rs with
  | [.s1 (.one (.sl 0)), .s1 (.one (.sl 1))], [], [⟨252, (.pair (.int .i64) (.pair (.int .i64) (.pair (.int .i64) (.pair (.int .i64) (.int .i64))))), a1, .ro⟩, ⟨252, (.pair (.int .i64) (.pair (.int .i64) (.pair (.int .i64) (.pair (.int .i64) (.int .i64))))), a2, .ro⟩] => some ⟨Bool, L.eqRuleS a1 a2, R150⟩
  | _, _, _ => none
theorem ev150 (a1 a2 : List (Int × Int × Int × Int × Int)) : evF Try.prog G150 L150 (0, 0) Try.f150 c150 [vl 0, vl 1] [] [⟨252, (.pair (.int .i64) (.pair (.int .i64) (.pair (.int .i64) (.pair (.int .i64) (.int .i64))))), a1, .ro⟩, ⟨252, (.pair (.int .i64) (.pair (.int .i64) (.pair (.int .i64) (.pair (.int .i64) (.int .i64))))), a2, .ro⟩] K150 = L.eqRuleS a1 a2 := by kernel_rfl
theorem good150 : Vm.Good Try.prog 150 E150 := by
  refine evF_good (G := G150) (c := c150) (envCons_good good207 envNil_good) Try.func150 (by kernel_rfl) (by kernel_rfl) (0, 0) (fun args bs rs out t h h2 => ?_)
  unfold E150 at h
  split at h
  · injection h with h
    subst h
    exact ⟨rfl, L150, K150, lp150, (fun r t h => by unfold K150 at h; split at h; (injection h with h; subst h; rfl); cases h), (ev150 _ _).trans h2⟩
  · cases h
/-! ### L.eqConf -/
noncomputable def G68 : Env := (envCons 36 [] E36 (envCons 148 [] E148 (envCons 149 [] E149 (envCons 150 [] E150 envNil))))
noncomputable def c68 : Code := bodyOf Try.f68
noncomputable def L.eqConf (a1 a2 a3 a4 a5 a6 : Int) (a7 : List Int) (a8 : List (List (Int × Int) × List (Int × Int) × (Int × Int × Int) × Int × Int)) (a9 : List (Int × Int × Int)) (a10 : List (Int × Int × Int × Int × Int)) (a11 : List Int) (a12 : List (List (Int × Int) × List (Int × Int) × (Int × Int × Int) × Int × Int)) (a13 : List (Int × Int × Int)) (a14 : List (Int × Int × Int × Int × Int)) : Option Bool :=
(Option.bind (L.eqLat a1 a4 a7 a11) fun r15 =>
(bif (!r15) then
(some false)
else
(bif (a2 != a5) then
(some false)
else
(bif (a3 != a6) then
(some false)
else
(Option.bind (L.eqQueryS a8 a12) fun r16 =>
(bif (!r16) then
(some false)
else
(Option.bind (L.eqSubS a9 a13) fun r17 =>
(bif (!r17) then
(some false)
else
(Option.bind (L.eqRuleS a10 a14) fun r18 =>
(bif (!r18) then
(some false)
else
(some true)))))))))))
noncomputable def R68 (x : Bool) : Res := ⟨[.one (ab x)], [], []⟩
noncomputable def K68 (r : Res) : Option Bool :=
  match r with
  | ⟨[.one (.val (.bool v1))], [], []⟩ => some (v1)
  | _ => none
noncomputable def E68 : Fun2 := fun args bs rs =>
  match args, bs, rs with
  | [.s1 (.agg [.val (.int .i64 a1), .sl 0, .val (.int .i64 a2), .val (.int .i64 a3), .sl 1, .sl 2, .sl 3]), .s1 (.agg [.val (.int .i64 a4), .sl 4, .val (.int .i64 a5), .val (.int .i64 a6), .sl 5, .sl 6, .sl 7])], [], [⟨117, (.int .u64), a7, .ro⟩, ⟨129, (.pair (.sl 275 (.pair (.int .i64) (.int .i64))) (.pair (.sl 275 (.pair (.int .i64) (.int .i64))) (.pair (.pair (.int .i64) (.pair (.int .i64) (.int .i64))) (.pair (.int .i64) (.int .i64))))), a8, .ro⟩, ⟨250, (.pair (.int .i64) (.pair (.int .i64) (.int .i64))), a9, .ro⟩, ⟨252, (.pair (.int .i64) (.pair (.int .i64) (.pair (.int .i64) (.pair (.int .i64) (.int .i64))))), a10, .ro⟩, ⟨117, (.int .u64), a11, .ro⟩, ⟨129, (.pair (.sl 275 (.pair (.int .i64) (.int .i64))) (.pair (.sl 275 (.pair (.int .i64) (.int .i64))) (.pair (.pair (.int .i64) (.pair (.int .i64) (.int .i64))) (.pair (.int .i64) (.int .i64))))), a12, .ro⟩, ⟨250, (.pair (.int .i64) (.pair (.int .i64) (.int .i64))), a13, .ro⟩, ⟨252, (.pair (.int .i64) (.pair (.int .i64) (.pair (.int .i64) (.pair (.int .i64) (.int .i64))))), a14, .ro⟩] => some ⟨Bool, L.eqConf a1 a2 a3 a4 a5 a6 a7 a8 a9 a10 a11 a12 a13 a14, R68⟩
  | _, _, _ => none
theorem ev68 (a1 a2 a3 a4 a5 a6 : Int) (a7 : List Int) (a8 : List (List (Int × Int) × List (Int × Int) × (Int × Int × Int) × Int × Int)) (a9 : List (Int × Int × Int)) (a10 : List (Int × Int × Int × Int × Int)) (a11 : List Int) (a12 : List (List (Int × Int) × List (Int × Int) × (Int × Int × Int) × Int × Int)) (a13 : List (Int × Int × Int)) (a14 : List (Int × Int × Int × Int × Int)) : evF Try.prog G68 loopNil (0, 0) Try.f68 c68 [.s1 (.agg [ai a1, .sl 0, ai a2, ai a3, .sl 1, .sl 2, .sl 3]), .s1 (.agg [ai a4, .sl 4, ai a5, ai a6, .sl 5, .sl 6, .sl 7])] [] [⟨117, (.int .u64), a7, .ro⟩, ⟨129, (.pair (.sl 275 (.pair (.int .i64) (.int .i64))) (.pair (.sl 275 (.pair (.int .i64) (.int .i64))) (.pair (.pair (.int .i64) (.pair (.int .i64) (.int .i64))) (.pair (.int .i64) (.int .i64))))), a8, .ro⟩, ⟨250, (.pair (.int .i64) (.pair (.int .i64) (.int .i64))), a9, .ro⟩, ⟨252, (.pair (.int .i64) (.pair (.int .i64) (.pair (.int .i64) (.pair (.int .i64) (.int .i64))))), a10, .ro⟩, ⟨117, (.int .u64), a11, .ro⟩, ⟨129, (.pair (.sl 275 (.pair (.int .i64) (.int .i64))) (.pair (.sl 275 (.pair (.int .i64) (.int .i64))) (.pair (.pair (.int .i64) (.pair (.int .i64) (.int .i64))) (.pair (.int .i64) (.int .i64))))), a12, .ro⟩, ⟨250, (.pair (.int .i64) (.pair (.int .i64) (.int .i64))), a13, .ro⟩, ⟨252, (.pair (.int .i64) (.pair (.int .i64) (.pair (.int .i64) (.pair (.int .i64) (.int .i64))))), a14, .ro⟩] K68 = L.eqConf a1 a2 a3 a4 a5 a6 a7 a8 a9 a10 a11 a12 a13 a14 := by kernel_rfl
theorem good68 : Vm.Good Try.prog 68 E68 := by
  refine evF_good (G := G68) (c := c68) (envCons_good good36 (envCons_good good148 (envCons_good good149 (envCons_good good150 envNil_good)))) Try.func68 (by kernel_rfl) (by kernel_rfl) (0, 0) (fun args bs rs out t h h2 => ?_)
  unfold E68 at h
  split at h
  · injection h with h
    subst h
    exact ⟨rfl, loopNil, K68, (by intro x hx; simp [show loopsOf c68 = [] from by kernel_rfl] at hx), (fun r t h => by unfold K68 at h; split at h; (injection h with h; subst h; rfl); cases h), (ev68 _ _ _ _ _ _ _ _ _ _ _ _ _ _).trans h2⟩
  · cases h
/-! ### L.markUint64S -/
noncomputable def G113 : Env := envNil
noncomputable def c113 : Code := bodyOf Try.f113
noncomputable def c113_2 : Code := (loopsOf c113).getD 0 .skip
noncomputable def L.markUint64S_l0 : Nat → (Int → List Int → Option (Int × List Int)) → Int → Int → List Int → Option (Int × List Int)
  | 0, _, _, _, _ => none
  | m + 1, e2_0, a3, a4, a5 =>
    (bif (decide (a4 < (a5.length : Int))) then
    (bif decide ((0 : Int) ≤ a4 ∧ a4 < (a5.length : Int)) then
    (L.markUint64S_l0 m e2_0 (IntKind.wrap .i64 (a3 + 1)) (IntKind.wrap .i64 (a4 + 1)) (a5.set (Int.toNat a4) (IntKind.wrap .u64 a3)))
    else
    none)
    else
    (e2_0 a3 a5))
noncomputable def L.markUint64S (a1 : Int) (a2 : List Int) : Option (Int × List Int) :=
(L.markUint64S_l0 fu (fun y12 y13 =>
(some (y12, y13))) a1 0 a2)
noncomputable def H113_2 : LoopH := ⟨⟨((.one (.sl 0)) :: hh :: (hu 3 (hh :: (hu 14 [])))), [], [(117, (.int .u64), .own)]⟩, [2, 3, 4, 6, 7, 8, 9, 10, 11, 12, 13, 14, 15, 16, 17, 18, 19], [], [0, 2, 3, 5, 6, 7, 8, 9, 10, 11, 12, 13, 14, 15, 16, 17, 18, 19]⟩
noncomputable def E113_2 (m : Nat) (ps : List Prm) (k : Kont (Int × List Int)) : Option (Int × List Int) :=
  match ps with
  | [.v (.int .i64 a3), .v (.int .i64 a4), .row (.int .u64) a5] => L.markUint64S_l0 m (fun z16 z17 => k (.exit 0) (⟨((.s1 (.one (.unk))) :: (vi z16) :: (vu 18 [])), [], [⟨117, (.int .u64), z17, .own⟩]⟩ : St)) a3 a4 a5
  | _ => none
noncomputable def S113_2 (a3 a4 : Int) (a5 : List Int) : St := (⟨((vl 0) :: (vi a3) :: (vu 3 ((vi a4) :: (vu 14 [])))), [], [⟨117, (.int .u64), a5, .own⟩]⟩ : St)
theorem ev113_2 (m : Nat) (k : Kont (Int × List Int)) (a3 a4 : Int) (a5 : List Int) : evC Try.prog G113 loopNil c113_2 (S113_2 a3 a4 a5) (turn Try.prog (0, 1) H113_2 (E113_2 m) k) = E113_2 (m + 1) [.v (.int .i64 a3), .v (.int .i64 a4), .row (.int .u64) a5] k := by kernel_rfl
theorem ok113_2 (m : Nat) : LoopOk Try.prog (0, 1) c113_2 (enter Try.prog (0, 1) H113_2 (E113_2 m)) := by
  refine loop_ok (G := G113) (L := loopNil) envNil_good (by intro x hx; simp [show loopsOf c113_2 = [] from by kernel_rfl] at hx) (fun ps k => by unfold E113_2; split <;> rfl) (fun m ps k r h => ?_) m
  have h0 := h
  unfold E113_2 at h
  split at h
  · exact ⟨S113_2 _ _ _, by kernel_rfl, (ev113_2 m k _ _ _).trans h0⟩
  · cases h
noncomputable def L113 : LEnv (Int × List Int) := (loopCons 2 (enter Try.prog (0, 1) H113_2 (E113_2 fu)) loopNil)
theorem lq113 : loopsOf c113 = [c113_2] := by kernel_rfl
theorem fr113_2 : firstReg c113_2 = some 2 := by kernel_rfl
theorem le113_2 : L113 2 = enter Try.prog (0, 1) H113_2 (E113_2 fu) := by kernel_rfl
theorem lm113 : ∀ x ∈ [c113_2], ∀ id, firstReg x = some id → LoopOk Try.prog (0, 1) x (L113 id) := (loops_cons fr113_2 le113_2 (ok113_2 fu) loops_nil)
theorem lp113 : ∀ x ∈ loopsOf c113, ∀ id, firstReg x = some id → LoopOk Try.prog (0, 1) x (L113 id) := loops_eq lq113 lm113
noncomputable def R113 (x : Int × List Int) : Res := ⟨[.one (ai x.1)], [], [⟨117, (.int .u64), x.2, .own⟩]⟩
noncomputable def K113 (r : Res) : Option (Int × List Int) :=
  match r with
  | ⟨[.one (.val (.int .i64 v1))], [], [⟨117, (.int .u64), v2, .own⟩]⟩ => some (v1, v2)
  | _ => none
noncomputable def E113 : Fun2 := fun args bs rs =>
  match args, bs, rs with
  | [.s1 (.one (.sl 0)), .s1 (.one (.val (.int .i64 a1)))], [], [⟨117, (.int .u64), a2, .own⟩] => some ⟨Int × List Int, L.markUint64S a1 a2, R113⟩
  | _, _, _ => none
theorem ev113 (a1 : Int) (a2 : List Int) : evF Try.prog G113 L113 (0, 1) Try.f113 c113 [vl 0, vi a1] [] [⟨117, (.int .u64), a2, .own⟩] K113 = L.markUint64S a1 a2 := by kernel_rfl
theorem good113 : Vm.Good Try.prog 113 E113 := by
  refine evF_good (G := G113) (c := c113) envNil_good Try.func113 (by kernel_rfl) (by kernel_rfl) (0, 1) (fun args bs rs out t h h2 => ?_)
  unfold E113 at h
  split at h
  · injection h with h
    subst h
    exact ⟨rfl, L113, K113, lp113, (fun r t h => by unfold K113 at h; split at h; (injection h with h; subst h; rfl); cases h), (ev113 _ _).trans h2⟩
  · cases h
/-! ### L.markLat -/
noncomputable def G38 : Env := (envCons 113 [0] E113 envNil)
noncomputable def c38 : Code := bodyOf Try.f38
noncomputable def L.markLat (a1 a2 : Int) (a3 : List Int) : Option (Int × List Int) :=
(Option.bind (L.markUint64S a2 a3) fun r4 =>
(some (r4.1, r4.2)))
noncomputable def R38 (x : Int × List Int) : Res := ⟨[.one (ai x.1)], [], [⟨117, (.int .u64), x.2, .own⟩]⟩
noncomputable def K38 (r : Res) : Option (Int × List Int) :=
  match r with
  | ⟨[.one (.val (.int .i64 v1))], [], [⟨117, (.int .u64), v2, .own⟩]⟩ => some (v1, v2)
  | _ => none
noncomputable def E38 : Fun2 := fun args bs rs =>
  match args, bs, rs with
  | [.s1 (.agg [.val (.int .i64 a1), .sl 0]), .s1 (.one (.val (.int .i64 a2)))], [], [⟨117, (.int .u64), a3, .own⟩] => some ⟨Int × List Int, L.markLat a1 a2 a3, R38⟩
  | _, _, _ => none
theorem ev38 (a1 a2 : Int) (a3 : List Int) : evF Try.prog G38 loopNil (0, 1) Try.f38 c38 [.s1 (.agg [ai a1, .sl 0]), vi a2] [] [⟨117, (.int .u64), a3, .own⟩] K38 = L.markLat a1 a2 a3 := by kernel_rfl
theorem good38 : Vm.Good Try.prog 38 E38 := by
  refine evF_good (G := G38) (c := c38) (envCons_good good113 envNil_good) Try.func38 (by kernel_rfl) (by kernel_rfl) (0, 1) (fun args bs rs out t h h2 => ?_)
  unfold E38 at h
  split at h
  · injection h with h
    subst h
    exact ⟨rfl, loopNil, K38, (by intro x hx; simp [show loopsOf c38 = [] from by kernel_rfl] at hx), (fun r t h => by unfold K38 at h; split at h; (injection h with h; subst h; rfl); cases h), (ev38 _ _ _).trans h2⟩
  · cases h
/-! ### L.markTokS -/
noncomputable def G171 : Env := envNil
noncomputable def c171 : Code := bodyOf Try.f171
noncomputable def c171_2 : Code := (loopsOf c171).getD 0 .skip
noncomputable def L.markTokS_l0 : Nat → (Int → (List (Int × Int)) → Option (Int × (List (Int × Int)))) → Int → Int → (List (Int × Int)) → Option (Int × (List (Int × Int)))
  | 0, _, _, _, _ => none
  | m + 1, e2_0, a3, a4, a5 =>
    (bif (decide (a4 < (a5.length : Int))) then
    (bif decide ((0 : Int) ≤ a4 ∧ a4 < (a5.length : Int)) then
    (let v8 : List (Int × Int) := (a5.set (Int.toNat a4) (a3, (nthI a5 a4 ((0 : Int), (0 : Int))).2))
    (let v9 : Int := (IntKind.wrap .i64 (a3 + 1))
    (bif decide ((0 : Int) ≤ a4 ∧ a4 < (v8.length : Int)) then
    (let v10 : List (Int × Int) := (v8.set (Int.toNat a4) ((nthI v8 a4 ((0 : Int), (0 : Int))).1, v9))
    (L.markTokS_l0 m e2_0 (IntKind.wrap .i64 (v9 + 1)) (IntKind.wrap .i64 (a4 + 1)) v10))
    else
    none)))
    else
    none)
    else
    (e2_0 a3 a5))
noncomputable def L.markTokS (a1 : Int) (a2 : List (Int × Int)) : Option (Int × (List (Int × Int))) :=
(L.markTokS_l0 fu (fun y13 y14 =>
(some (y13, y14))) a1 0 a2)
noncomputable def H171_2 : LoopH := ⟨⟨((.one (.sl 0)) :: hh :: (hu 3 (hh :: (hu 21 [])))), [], [(275, (.pair (.int .i64) (.int .i64)), .own)]⟩, [2, 3, 4, 6, 7, 8, 9, 10, 11, 12, 13, 14, 15, 16, 17, 18, 19, 20, 21, 22, 23, 24, 25, 26], [], [0, 2, 3, 5, 6, 7, 8, 9, 10, 11, 12, 13, 14, 15, 16, 17, 18, 19, 20, 21, 22, 23, 24, 25, 26]⟩
noncomputable def E171_2 (m : Nat) (ps : List Prm) (k : Kont (Int × (List (Int × Int)))) : Option (Int × (List (Int × Int))) :=
  match ps with
  | [.v (.int .i64 a3), .v (.int .i64 a4), .row (.pair (.int .i64) (.int .i64)) a5] => L.markTokS_l0 m (fun z17 z18 => k (.exit 0) (⟨((.s1 (.one (.unk))) :: (vi z17) :: (vu 25 [])), [], [⟨275, (.pair (.int .i64) (.int .i64)), z18, .own⟩]⟩ : St)) a3 a4 a5
  | _ => none
noncomputable def S171_2 (a3 a4 : Int) (a5 : List (Int × Int)) : St := (⟨((vl 0) :: (vi a3) :: (vu 3 ((vi a4) :: (vu 21 [])))), [], [⟨275, (.pair (.int .i64) (.int .i64)), a5, .own⟩]⟩ : St)
theorem ev171_2 (m : Nat) (k : Kont (Int × (List (Int × Int)))) (a3 a4 : Int) (a5 : List (Int × Int)) : evC Try.prog G171 loopNil c171_2 (S171_2 a3 a4 a5) (turn Try.prog (0, 1) H171_2 (E171_2 m) k) = E171_2 (m + 1) [.v (.int .i64 a3), .v (.int .i64 a4), .row (.pair (.int .i64) (.int .i64)) a5] k := by kernel_rfl
theorem ok171_2 (m : Nat) : LoopOk Try.prog (0, 1) c171_2 (enter Try.prog (0, 1) H171_2 (E171_2 m)) := by
  refine loop_ok (G := G171) (L := loopNil) envNil_good (by intro x hx; simp [show loopsOf c171_2 = [] from by kernel_rfl] at hx) (fun ps k => by unfold E171_2; split <;> rfl) (fun m ps k r h => ?_) m
  have h0 := h
  unfold E171_2 at h
  split at h
  · exact ⟨S171_2 _ _ _, by kernel_rfl, (ev171_2 m k _ _ _).trans h0⟩
  · cases h
noncomputable def L171 : LEnv (Int × (List (Int × Int))) := (loopCons 2 (enter Try.prog (0, 1) H171_2 (E171_2 fu)) loopNil)
theorem lq171 : loopsOf c171 = [c171_2] := by kernel_rfl
theorem fr171_2 : firstReg c171_2 = some 2 := by kernel_rfl
theorem le171_2 : L171 2 = enter Try.prog (0, 1) H171_2 (E171_2 fu) := by kernel_rfl
theorem lm171 : ∀ x ∈ [c171_2], ∀ id, firstReg x = some id → LoopOk Try.prog (0, 1) x (L171 id) := (loops_cons fr171_2 le171_2 (ok171_2 fu) loops_nil)
theorem lp171 : ∀ x ∈ loopsOf c171, ∀ id, firstReg x = some id → LoopOk Try.prog (0, 1) x (L171 id) := loops_eq lq171 lm171
noncomputable def R171 (x : Int × (List (Int × Int))) : Res := ⟨[.one (ai x.1)], [], [⟨275, (.pair (.int .i64) (.int .i64)), x.2, .own⟩]⟩
noncomputable def K171 (r : Res) : Option (Int × (List (Int × Int))) :=
  match r with
  | ⟨[.one (.val (.int .i64 v1))], [], [⟨275, (.pair (.int .i64) (.int .i64)), v2, .own⟩]⟩ => some (v1, v2)
  | _ => none
noncomputable def E171 : Fun2 := fun args bs rs =>
  match args, bs, rs with
  | [.s1 (.one (.sl 0)), .s1 (.one (.val (.int .i64 a1)))], [], [⟨275, (.pair (.int .i64) (.int .i64)), a2, .own⟩] => some ⟨Int × (List (Int × Int)), L.markTokS a1 a2, R171⟩
  | _, _, _ => none
theorem ev171 (a1 : Int) (a2 : List (Int × Int)) : evF Try.prog G171 L171 (0, 1) Try.f171 c171 [vl 0, vi a1] [] [⟨275, (.pair (.int .i64) (.int .i64)), a2, .own⟩] K171 = L.markTokS a1 a2 := by kernel_rfl
theorem good171 : Vm.Good Try.prog 171 E171 := by
  refine evF_good (G := G171) (c := c171) envNil_good Try.func171 (by kernel_rfl) (by kernel_rfl) (0, 1) (fun args bs rs out t h h2 => ?_)
  unfold E171 at h
  split at h
  · injection h with h
    subst h
    exact ⟨rfl, L171, K171, lp171, (fun r t h => by unfold K171 at h; split at h; (injection h with h; subst h; rfl); cases h), (ev171 _ _).trans h2⟩
  · cases h
/-! ### L.markQueryS -/
noncomputable def G151 : Env := (envCons 171 [0] E171 envNil)
noncomputable def c151 : Code := bodyOf Try.f151
noncomputable def c151_2 : Code := (loopsOf c151).getD 0 .skip
noncomputable def L.markQueryS_l0 : Nat → (Int → (List (List (Int × Int) × List (Int × Int) × (Int × Int × Int) × Int × Int)) → Option (Int × (List (List (Int × Int) × List (Int × Int) × (Int × Int × Int) × Int × Int)))) → Int → Int → (List (List (Int × Int) × List (Int × Int) × (Int × Int × Int) × Int × Int)) → Option (Int × (List (List (Int × Int) × List (Int × Int) × (Int × Int × Int) × Int × Int)))
  | 0, _, _, _, _ => none
  | m + 1, e2_0, a3, a4, a5 =>
    (bif (decide (a4 < (a5.length : Int))) then
    (bif decide ((0 : Int) ≤ a4 ∧ a4 < (a5.length : Int)) then
    (Option.bind (L.markTokS a3 ((nthI a5 a4 ([], ([], (((0 : Int), ((0 : Int), (0 : Int))), ((0 : Int), (0 : Int)))))).1)) fun r8 =>
    (let v9 : List (List (Int × Int) × List (Int × Int) × (Int × Int × Int) × Int × Int) := (a5.set (Int.toNat a4) (r8.2, (nthI a5 a4 ([], ([], (((0 : Int), ((0 : Int), (0 : Int))), ((0 : Int), (0 : Int)))))).2))
    (bif decide ((0 : Int) ≤ a4 ∧ a4 < (v9.length : Int)) then
    (Option.bind (L.markTokS r8.1 ((nthI v9 a4 ([], ([], (((0 : Int), ((0 : Int), (0 : Int))), ((0 : Int), (0 : Int)))))).2.1)) fun r10 =>
    (let v11 : List (List (Int × Int) × List (Int × Int) × (Int × Int × Int) × Int × Int) := (v9.set (Int.toNat a4) ((nthI v9 a4 ([], ([], (((0 : Int), ((0 : Int), (0 : Int))), ((0 : Int), (0 : Int)))))).1, (r10.2, (nthI v9 a4 ([], ([], (((0 : Int), ((0 : Int), (0 : Int))), ((0 : Int), (0 : Int)))))).2.2)))
    (bif decide ((0 : Int) ≤ a4 ∧ a4 < (v11.length : Int)) then
    (let v12 : List (List (Int × Int) × List (Int × Int) × (Int × Int × Int) × Int × Int) := (v11.set (Int.toNat a4) ((nthI v11 a4 ([], ([], (((0 : Int), ((0 : Int), (0 : Int))), ((0 : Int), (0 : Int)))))).1, ((nthI v11 a4 ([], ([], (((0 : Int), ((0 : Int), (0 : Int))), ((0 : Int), (0 : Int)))))).2.1, ((r10.1, (nthI v11 a4 ([], ([], (((0 : Int), ((0 : Int), (0 : Int))), ((0 : Int), (0 : Int)))))).2.2.1.2), (nthI v11 a4 ([], ([], (((0 : Int), ((0 : Int), (0 : Int))), ((0 : Int), (0 : Int)))))).2.2.2))))
    (let v13 : Int := (IntKind.wrap .i64 (r10.1 + 1))
    (bif decide ((0 : Int) ≤ a4 ∧ a4 < (v12.length : Int)) then
    (let v14 : List (List (Int × Int) × List (Int × Int) × (Int × Int × Int) × Int × Int) := (v12.set (Int.toNat a4) ((nthI v12 a4 ([], ([], (((0 : Int), ((0 : Int), (0 : Int))), ((0 : Int), (0 : Int)))))).1, ((nthI v12 a4 ([], ([], (((0 : Int), ((0 : Int), (0 : Int))), ((0 : Int), (0 : Int)))))).2.1, (((nthI v12 a4 ([], ([], (((0 : Int), ((0 : Int), (0 : Int))), ((0 : Int), (0 : Int)))))).2.2.1.1, (v13, (nthI v12 a4 ([], ([], (((0 : Int), ((0 : Int), (0 : Int))), ((0 : Int), (0 : Int)))))).2.2.1.2.2)), (nthI v12 a4 ([], ([], (((0 : Int), ((0 : Int), (0 : Int))), ((0 : Int), (0 : Int)))))).2.2.2))))
    (let v15 : Int := (IntKind.wrap .i64 (v13 + 1))
    (bif decide ((0 : Int) ≤ a4 ∧ a4 < (v14.length : Int)) then
    (let v16 : List (List (Int × Int) × List (Int × Int) × (Int × Int × Int) × Int × Int) := (v14.set (Int.toNat a4) ((nthI v14 a4 ([], ([], (((0 : Int), ((0 : Int), (0 : Int))), ((0 : Int), (0 : Int)))))).1, ((nthI v14 a4 ([], ([], (((0 : Int), ((0 : Int), (0 : Int))), ((0 : Int), (0 : Int)))))).2.1, (((nthI v14 a4 ([], ([], (((0 : Int), ((0 : Int), (0 : Int))), ((0 : Int), (0 : Int)))))).2.2.1.1, ((nthI v14 a4 ([], ([], (((0 : Int), ((0 : Int), (0 : Int))), ((0 : Int), (0 : Int)))))).2.2.1.2.1, v15)), (nthI v14 a4 ([], ([], (((0 : Int), ((0 : Int), (0 : Int))), ((0 : Int), (0 : Int)))))).2.2.2))))
    (let v17 : Int := (IntKind.wrap .i64 (v15 + 1))
    (bif decide ((0 : Int) ≤ a4 ∧ a4 < (v16.length : Int)) then
    (let v18 : List (List (Int × Int) × List (Int × Int) × (Int × Int × Int) × Int × Int) := (v16.set (Int.toNat a4) ((nthI v16 a4 ([], ([], (((0 : Int), ((0 : Int), (0 : Int))), ((0 : Int), (0 : Int)))))).1, ((nthI v16 a4 ([], ([], (((0 : Int), ((0 : Int), (0 : Int))), ((0 : Int), (0 : Int)))))).2.1, ((nthI v16 a4 ([], ([], (((0 : Int), ((0 : Int), (0 : Int))), ((0 : Int), (0 : Int)))))).2.2.1, (v17, (nthI v16 a4 ([], ([], (((0 : Int), ((0 : Int), (0 : Int))), ((0 : Int), (0 : Int)))))).2.2.2.2)))))
    (let v19 : Int := (IntKind.wrap .i64 (v17 + 1))
    (bif decide ((0 : Int) ≤ a4 ∧ a4 < (v18.length : Int)) then
    (let v20 : List (List (Int × Int) × List (Int × Int) × (Int × Int × Int) × Int × Int) := (v18.set (Int.toNat a4) ((nthI v18 a4 ([], ([], (((0 : Int), ((0 : Int), (0 : Int))), ((0 : Int), (0 : Int)))))).1, ((nthI v18 a4 ([], ([], (((0 : Int), ((0 : Int), (0 : Int))), ((0 : Int), (0 : Int)))))).2.1, ((nthI v18 a4 ([], ([], (((0 : Int), ((0 : Int), (0 : Int))), ((0 : Int), (0 : Int)))))).2.2.1, ((nthI v18 a4 ([], ([], (((0 : Int), ((0 : Int), (0 : Int))), ((0 : Int), (0 : Int)))))).2.2.2.1, v19)))))
    (L.markQueryS_l0 m e2_0 (IntKind.wrap .i64 (v19 + 1)) (IntKind.wrap .i64 (a4 + 1)) v20))
    else
    none)))
    else
    none)))
    else
    none)))
    else
    none)))
    else
    none)))
    else
    none)))
    else
    none)
    else
    (e2_0 a3 a5))
noncomputable def L.markQueryS (a1 : Int) (a2 : List (List (Int × Int) × List (Int × Int) × (Int × Int × Int) × Int × Int)) : Option (Int × (List (List (Int × Int) × List (Int × Int) × (Int × Int × Int) × Int × Int))) :=
(L.markQueryS_l0 fu (fun y23 y24 =>
(some (y23, y24))) a1 0 a2)
noncomputable def H151_2 : LoopH := ⟨⟨((.one (.sl 0)) :: hh :: (hu 3 (hh :: (hu 59 [])))), [], [(129, (.pair (.sl 275 (.pair (.int .i64) (.int .i64))) (.pair (.sl 275 (.pair (.int .i64) (.int .i64))) (.pair (.pair (.int .i64) (.pair (.int .i64) (.int .i64))) (.pair (.int .i64) (.int .i64))))), .own)]⟩, [2, 3, 4, 6, 7, 8, 9, 10, 11, 12, 13, 14, 15, 16, 17, 18, 19, 20, 21, 22, 23, 24, 25, 26, 27, 28, 29, 30, 31, 32, 33, 34, 35, 36, 37, 38, 39, 40, 41, 42, 43, 44, 45, 46, 47, 48, 49, 50, 51, 52, 53, 54, 55, 56, 57, 58, 59, 60, 61, 62, 63, 64], [], [0, 2, 3, 5, 6, 7, 8, 9, 10, 11, 12, 13, 14, 15, 16, 17, 18, 19, 20, 21, 22, 23, 24, 25, 26, 27, 28, 29, 30, 31, 32, 33, 34, 35, 36, 37, 38, 39, 40, 41, 42, 43, 44, 45, 46, 47, 48, 49, 50, 51, 52, 53, 54, 55, 56, 57, 58, 59, 60, 61, 62, 63, 64]⟩
noncomputable def E151_2 (m : Nat) (ps : List Prm) (k : Kont (Int × (List (List (Int × Int) × List (Int × Int) × (Int × Int × Int) × Int × Int)))) : Option (Int × (List (List (Int × Int) × List (Int × Int) × (Int × Int × Int) × Int × Int))) :=
  match ps with
  | [.v (.int .i64 a3), .v (.int .i64 a4), .row (.pair (.sl 275 (.pair (.int .i64) (.int .i64))) (.pair (.sl 275 (.pair (.int .i64) (.int .i64))) (.pair (.pair (.int .i64) (.pair (.int .i64) (.int .i64))) (.pair (.int .i64) (.int .i64))))) a5] => L.markQueryS_l0 m (fun z27 z28 => k (.exit 0) (⟨((.s1 (.one (.unk))) :: (vi z27) :: (vu 63 [])), [], [⟨129, (.pair (.sl 275 (.pair (.int .i64) (.int .i64))) (.pair (.sl 275 (.pair (.int .i64) (.int .i64))) (.pair (.pair (.int .i64) (.pair (.int .i64) (.int .i64))) (.pair (.int .i64) (.int .i64))))), z28, .own⟩]⟩ : St)) a3 a4 a5
  | _ => none
noncomputable def S151_2 (a3 a4 : Int) (a5 : List (List (Int × Int) × List (Int × Int) × (Int × Int × Int) × Int × Int)) : St := (⟨((vl 0) :: (vi a3) :: (vu 3 ((vi a4) :: (vu 59 [])))), [], [⟨129, (.pair (.sl 275 (.pair (.int .i64) (.int .i64))) (.pair (.sl 275 (.pair (.int .i64) (.int .i64))) (.pair (.pair (.int .i64) (.pair (.int .i64) (.int .i64))) (.pair (.int .i64) (.int .i64))))), a5, .own⟩]⟩ : St)
theorem ev151_2 (m : Nat) (k : Kont (Int × (List (List (Int × Int) × List (Int × Int) × (Int × Int × Int) × Int × Int)))) (a3 a4 : Int) (a5 : List (List (Int × Int) × List (Int × Int) × (Int × Int × Int) × Int × Int)) : evC Try.prog G151 loopNil c151_2 (S151_2 a3 a4 a5) (turn Try.prog (0, 1) H151_2 (E151_2 m) k) = E151_2 (m + 1) [.v (.int .i64 a3), .v (.int .i64 a4), .row (.pair (.sl 275 (.pair (.int .i64) (.int .i64))) (.pair (.sl 275 (.pair (.int .i64) (.int .i64))) (.pair (.pair (.int .i64) (.pair (.int .i64) (.int .i64))) (.pair (.int .i64) (.int .i64))))) a5] k := by kernel_rfl
theorem ok151_2 (m : Nat) : LoopOk Try.prog (0, 1) c151_2 (enter Try.prog (0, 1) H151_2 (E151_2 m)) := by
  refine loop_ok (G := G151) (L := loopNil) (envCons_good good171 envNil_good) (by intro x hx; simp [show loopsOf c151_2 = [] from by kernel_rfl] at hx) (fun ps k => by unfold E151_2; split <;> rfl) (fun m ps k r h => ?_) m
  have h0 := h
  unfold E151_2 at h
  split at h
  · exact ⟨S151_2 _ _ _, by kernel_rfl, (ev151_2 m k _ _ _).trans h0⟩
  · cases h
noncomputable def L151 : LEnv (Int × (List (List (Int × Int) × List (Int × Int) × (Int × Int × Int) × Int × Int))) := (loopCons 2 (enter Try.prog (0, 1) H151_2 (E151_2 fu)) loopNil)
theorem lq151 : loopsOf c151 = [c151_2] := by kernel_rfl
theorem fr151_2 : firstReg c151_2 = some 2 := by kernel_rfl
theorem le151_2 : L151 2 = enter Try.prog (0, 1) H151_2 (E151_2 fu) := by kernel_rfl
theorem lm151 : ∀ x ∈ [c151_2], ∀ id, firstReg x = some id → LoopOk Try.prog (0, 1) x (L151 id) := (loops_cons fr151_2 le151_2 (ok151_2 fu) loops_nil)
theorem lp151 : ∀ x ∈ loopsOf c151, ∀ id, firstReg x = some id → LoopOk Try.prog (0, 1) x (L151 id) := loops_eq lq151 lm151
noncomputable def R151 (x : Int × (List (List (Int × Int) × List (Int × Int) × (Int × Int × Int) × Int × Int))) : Res := ⟨[.one (ai x.1)], [], [⟨129, (.pair (.sl 275 (.pair (.int .i64) (.int .i64))) (.pair (.sl 275 (.pair (.int .i64) (.int .i64))) (.pair (.pair (.int .i64) (.pair (.int .i64) (.int .i64))) (.pair (.int .i64) (.int .i64))))), x.2, .own⟩]⟩
noncomputable def K151 (r : Res) : Option (Int × (List (List (Int × Int) × List (Int × Int) × (Int × Int × Int) × Int × Int))) :=
  match r with
  | ⟨[.one (.val (.int .i64 v1))], [], [⟨129, (.pair (.sl 275 (.pair (.int .i64) (.int .i64))) (.pair (.sl 275 (.pair (.int .i64) (.int .i64))) (.pair (.pair (.int .i64) (.pair (.int .i64) (.int .i64))) (.pair (.int .i64) (.int .i64))))), v2, .own⟩]⟩ => some (v1, v2)
  | _ => none
noncomputable def E151 : Fun2 := fun args bs rs =>
  match args, bs, rs with
  | [.s1 (.one (.sl 0)), .s1 (.one (.val (.int .i64 a1)))], [], [⟨129, (.pair (.sl 275 (.pair (.int .i64) (.int .i64))) (.pair (.sl 275 (.pair (.int .i64) (.int .i64))) (.pair (.pair (.int .i64) (.pair (.int .i64) (.int .i64))) (.pair (.int .i64) (.int .i64))))), a2, .own⟩] => some ⟨Int × (List (List (Int × Int) × List (Int × Int) × (Int × Int × Int) × Int × Int)), L.markQueryS a1 a2, R151⟩
  | _, _, _ => none
theorem ev151 (a1 : Int) (a2 : List (List (Int × Int) × List (Int × Int) × (Int × Int × Int) × Int × Int)) : evF Try.prog G151 L151 (0, 1) Try.f151 c151 [vl 0, vi a1] [] [⟨129, (.pair (.sl 275 (.pair (.int .i64) (.int .i64))) (.pair (.sl 275 (.pair (.int .i64) (.int .i64))) (.pair (.pair (.int .i64) (.pair (.int .i64) (.int .i64))) (.pair (.int .i64) (.int .i64))))), a2, .own⟩] K151 = L.markQueryS a1 a2 := by kernel_rfl
theorem good151 : Vm.Good Try.prog 151 E151 := by
  refine evF_good (G := G151) (c := c151) (envCons_good good171 envNil_good) Try.func151 (by kernel_rfl) (by kernel_rfl) (0, 1) (fun args bs rs out t h h2 => ?_)
  unfold E151 at h
  split at h
  · injection h with h
    subst h
    exact ⟨rfl, L151, K151, lp151, (fun r t h => by unfold K151 at h; split at h; (injection h with h; subst h; rfl); cases h), (ev151 _ _).trans h2⟩
  · cases h
/-! ### L.markSubS -/
noncomputable def G152 : Env := envNil
noncomputable def c152 : Code := bodyOf Try.f152
noncomputable def c152_2 : Code := (loopsOf c152).getD 0 .skip
noncomputable def L.markSubS_l0 : Nat → (Int → (List (Int × Int × Int)) → Option (Int × (List (Int × Int × Int)))) → Int → Int → (List (Int × Int × Int)) → Option (Int × (List (Int × Int × Int)))
  | 0, _, _, _, _ => none
  | m + 1, e2_0, a3, a4, a5 =>
    (bif (decide (a4 < (a5.length : Int))) then
    (bif decide ((0 : Int) ≤ a4 ∧ a4 < (a5.length : Int)) then
    (let v8 : List (Int × Int × Int) := (a5.set (Int.toNat a4) (a3, (nthI a5 a4 ((0 : Int), ((0 : Int), (0 : Int)))).2))
    (let v9 : Int := (IntKind.wrap .i64 (a3 + 1))
    (bif decide ((0 : Int) ≤ a4 ∧ a4 < (v8.length : Int)) then
    (let v10 : List (Int × Int × Int) := (v8.set (Int.toNat a4) ((nthI v8 a4 ((0 : Int), ((0 : Int), (0 : Int)))).1, (v9, (nthI v8 a4 ((0 : Int), ((0 : Int), (0 : Int)))).2.2)))
    (let v11 : Int := (IntKind.wrap .i64 (v9 + 1))
    (bif decide ((0 : Int) ≤ a4 ∧ a4 < (v10.length : Int)) then
    (let v12 : List (Int × Int × Int) := (v10.set (Int.toNat a4) ((nthI v10 a4 ((0 : Int), ((0 : Int), (0 : Int)))).1, ((nthI v10 a4 ((0 : Int), ((0 : Int), (0 : Int)))).2.1, v11)))
    (L.markSubS_l0 m e2_0 (IntKind.wrap .i64 (v11 + 1)) (IntKind.wrap .i64 (a4 + 1)) v12))
    else
    none)))
    else
    none)))
    else
    none)
    else
    (e2_0 a3 a5))
noncomputable def L.markSubS (a1 : Int) (a2 : List (Int × Int × Int)) : Option (Int × (List (Int × Int × Int))) :=
(L.markSubS_l0 fu (fun y15 y16 =>
(some (y15, y16))) a1 0 a2)
noncomputable def H152_2 : LoopH := ⟨⟨((.one (.sl 0)) :: hh :: (hu 3 (hh :: (hu 28 [])))), [], [(250, (.pair (.int .i64) (.pair (.int .i64) (.int .i64))), .own)]⟩, [2, 3, 4, 6, 7, 8, 9, 10, 11, 12, 13, 14, 15, 16, 17, 18, 19, 20, 21, 22, 23, 24, 25, 26, 27, 28, 29, 30, 31, 32, 33], [], [0, 2, 3, 5, 6, 7, 8, 9, 10, 11, 12, 13, 14, 15, 16, 17, 18, 19, 20, 21, 22, 23, 24, 25, 26, 27, 28, 29, 30, 31, 32, 33]⟩
noncomputable def E152_2 (m : Nat) (ps : List Prm) (k : Kont (Int × (List (Int × Int × Int)))) : Option (Int × (List (Int × Int × Int))) :=
  match ps with
  | [.v (.int .i64 a3), .v (.int .i64 a4), .row (.pair (.int .i64) (.pair (.int .i64) (.int .i64))) a5] => L.markSubS_l0 m (fun z19 z20 => k (.exit 0) (⟨((.s1 (.one (.unk))) :: (vi z19) :: (vu 32 [])), [], [⟨250, (.pair (.int .i64) (.pair (.int .i64) (.int .i64))), z20, .own⟩]⟩ : St)) a3 a4 a5
  | _ => none
noncomputable def S152_2 (a3 a4 : Int) (a5 : List (Int × Int × Int)) : St := (⟨((vl 0) :: (vi a3) :: (vu 3 ((vi a4) :: (vu 28 [])))), [], [⟨250, (.pair (.int .i64) (.pair (.int .i64) (.int .i64))), a5, .own⟩]⟩ : St)
theorem ev152_2 (m : Nat) (k : Kont (Int × (List (Int × Int × Int)))) (a3 a4 : Int) (a5 : List (Int × Int × Int)) : evC Try.prog G152 loopNil c152_2 (S152_2 a3 a4 a5) (turn Try.prog (0, 1) H152_2 (E152_2 m) k) = E152_2 (m + 1) [.v (.int .i64 a3), .v (.int .i64 a4), .row (.pair (.int .i64) (.pair (.int .i64) (.int .i64))) a5] k := by kernel_rfl
theorem ok152_2 (m : Nat) : LoopOk Try.prog (0, 1) c152_2 (enter Try.prog (0, 1) H152_2 (E152_2 m)) := by
  refine loop_ok (G := G152) (L := loopNil) envNil_good (by intro x hx; simp [show loopsOf c152_2 = [] from by kernel_rfl] at hx) (fun ps k => by unfold E152_2; split <;> rfl) (fun m ps k r h => ?_) m
  have h0 := h
  unfold E152_2 at h
  split at h
  · exact ⟨S152_2 _ _ _, by kernel_rfl, (ev152_2 m k _ _ _).trans h0⟩
  · cases h
noncomputable def L152 : LEnv (Int × (List (Int × Int × Int))) := (loopCons 2 (enter Try.prog (0, 1) H152_2 (E152_2 fu)) loopNil)
theorem lq152 : loopsOf c152 = [c152_2] := by kernel_rfl
theorem fr152_2 : firstReg c152_2 = some 2 := by kernel_rfl
theorem le152_2 : L152 2 = enter Try.prog (0, 1) H152_2 (E152_2 fu) := by kernel_rfl
theorem lm152 : ∀ x ∈ [c152_2], ∀ id, firstReg x = some id → LoopOk Try.prog (0, 1) x (L152 id) := (loops_cons fr152_2 le152_2 (ok152_2 fu) loops_nil)
theorem lp152 : ∀ x ∈ loopsOf c152, ∀ id, firstReg x = some id → LoopOk Try.prog (0, 1) x (L152 id) := loops_eq lq152 lm152
noncomputable def R152 (x : Int × (List (Int × Int × Int))) : Res := ⟨[.one (ai x.1)], [], [⟨250, (.pair (.int .i64) (.pair (.int .i64) (.int .i64))), x.2, .own⟩]⟩
noncomputable def K152 (r : Res) : Option (Int × (List (Int × Int × Int))) :=
  match r with
  | ⟨[.one (.val (.int .i64 v1))], [], [⟨250, (.pair (.int .i64) (.pair (.int .i64) (.int .i64))), v2, .own⟩]⟩ => some (v1, v2)
  | _ => none
noncomputable def E152 : Fun2 := fun args bs rs =>
  match args, bs, rs with
  | [.s1 (.one (.sl 0)), .s1 (.one (.val (.int .i64 a1)))], [], [⟨250, (.pair (.int .i64) (.pair (.int .i64) (.int .i64))), a2, .own⟩] => some ⟨Int × (List (Int × Int × Int)), L.markSubS a1 a2, R152⟩
  | _, _, _ => none
theorem ev152 (a1 : Int) (a2 : List (Int × Int × Int)) : evF Try.prog G152 L152 (0, 1) Try.f152 c152 [vl 0, vi a1] [] [⟨250, (.pair (.int .i64) (.pair (.int .i64) (.int .i64))), a2, .own⟩] K152 = L.markSubS a1 a2 := by kernel_rfl
theorem good152 : Vm.Good Try.prog 152 E152 := by
  refine evF_good (G := G152) (c := c152) envNil_good Try.func152 (by kernel_rfl) (by kernel_rfl) (0, 1) (fun args bs rs out t h h2 => ?_)
  unfold E152 at h
  split at h
  · injection h with h
    subst h
    exact ⟨rfl, L152, K152, lp152, (fun r t h => by unfold K152 at h; split at h; (injection h with h; subst h; rfl); cases h), (ev152 _ _).trans h2⟩
  · cases h
/-! ### L.markRuleS -/
noncomputable def G153 : Env := envNil
noncomputable def c153 : Code := bodyOf Try.f153
noncomputable def c153_2 : Code := (loopsOf c153).getD 0 .skip
noncomputable def L.markRuleS_l0 : Nat → (Int → (List (Int × Int × Int × Int × Int)) → Option (Int × (List (Int × Int × Int × Int × Int)))) → Int → Int → (List (Int × Int × Int × Int × Int)) → Option (Int × (List (Int × Int × Int × Int × Int)))
  | 0, _, _, _, _ => none
  | m + 1, e2_0, a3, a4, a5 =>
    (bif (decide (a4 < (a5.length : Int))) then
    (bif decide ((0 : Int) ≤ a4 ∧ a4 < (a5.length : Int)) then
    (let v8 : List (Int × Int × Int × Int × Int) := (a5.set (Int.toNat a4) (a3, (nthI a5 a4 ((0 : Int), ((0 : Int), ((0 : Int), ((0 : Int), (0 : Int)))))).2))
    (let v9 : Int := (IntKind.wrap .i64 (a3 + 1))
    (bif decide ((0 : Int) ≤ a4 ∧ a4 < (v8.length : Int)) then
    (let v10 : List (Int × Int × Int × Int × Int) := (v8.set (Int.toNat a4) ((nthI v8 a4 ((0 : Int), ((0 : Int), ((0 : Int), ((0 : Int), (0 : Int)))))).1, (v9, (nthI v8 a4 ((0 : Int), ((0 : Int), ((0 : Int), ((0 : Int), (0 : Int)))))).2.2)))
    (let v11 : Int := (IntKind.wrap .i64 (v9 + 1))
    (bif decide ((0 : Int) ≤ a4 ∧ a4 < (v10.length : Int)) then
    (let v12 : List (Int × Int × Int × Int × Int) := (v10.set (Int.toNat a4) ((nthI v10 a4 ((0 : Int), ((0 : Int), ((0 : Int), ((0 : Int), (0 : Int)))))).1, ((nthI v10 a4 ((0 : Int), ((0 : Int), ((0 : Int), ((0 : Int), (0 : Int)))))).2.1, (v11, (nthI v10 a4 ((0 : Int), ((0 : Int), ((0 : Int), ((0 : Int), (0 : Int)))))).2.2.2))))
    (let v13 : Int := (IntKind.wrap .i64 (v11 + 1))
    (bif decide ((0 : Int) ≤ a4 ∧ a4 < (v12.length : Int)) then
    (let v14 : List (Int × Int × Int × Int × Int) := (v12.set (Int.toNat a4) ((nthI v12 a4 ((0 : Int), ((0 : Int), ((0 : Int), ((0 : Int), (0 : Int)))))).1, ((nthI v12 a4 ((0 : Int), ((0 : Int), ((0 : Int), ((0 : Int), (0 : Int)))))).2.1, ((nthI v12 a4 ((0 : Int), ((0 : Int), ((0 : Int), ((0 : Int), (0 : Int)))))).2.2.1, (v13, (nthI v12 a4 ((0 : Int), ((0 : Int), ((0 : Int), ((0 : Int), (0 : Int)))))).2.2.2.2)))))
    (let v15 : Int := (IntKind.wrap .i64 (v13 + 1))
    (bif decide ((0 : Int) ≤ a4 ∧ a4 < (v14.length : Int)) then
    (let v16 : List (Int × Int × Int × Int × Int) := (v14.set (Int.toNat a4) ((nthI v14 a4 ((0 : Int), ((0 : Int), ((0 : Int), ((0 : Int), (0 : Int)))))).1, ((nthI v14 a4 ((0 : Int), ((0 : Int), ((0 : Int), ((0 : Int), (0 : Int)))))).2.1, ((nthI v14 a4 ((0 : Int), ((0 : Int), ((0 : Int), ((0 : Int), (0 : Int)))))).2.2.1, ((nthI v14 a4 ((0 : Int), ((0 : Int), ((0 : Int), ((0 : Int), (0 : Int)))))).2.2.2.1, v15)))))
    (L.markRuleS_l0 m e2_0 (IntKind.wrap .i64 (v15 + 1)) (IntKind.wrap .i64 (a4 + 1)) v16))
    else
    none)))
    else
    none)))
    else
    none)))
    else
    none)))
    else
    none)
    else
    (e2_0 a3 a5))
noncomputable def L.markRuleS (a1 : Int) (a2 : List (Int × Int × Int × Int × Int)) : Option (Int × (List (Int × Int × Int × Int × Int))) :=
(L.markRuleS_l0 fu (fun y19 y20 =>
(some (y19, y20))) a1 0 a2)
noncomputable def H153_2 : LoopH := ⟨⟨((.one (.sl 0)) :: hh :: (hu 3 (hh :: (hu 42 [])))), [], [(252, (.pair (.int .i64) (.pair (.int .i64) (.pair (.int .i64) (.pair (.int .i64) (.int .i64))))), .own)]⟩, [2, 3, 4, 6, 7, 8, 9, 10, 11, 12, 13, 14, 15, 16, 17, 18, 19, 20, 21, 22, 23, 24, 25, 26, 27, 28, 29, 30, 31, 32, 33, 34, 35, 36, 37, 38, 39, 40, 41, 42, 43, 44, 45, 46, 47], [], [0, 2, 3, 5, 6, 7, 8, 9, 10, 11, 12, 13, 14, 15, 16, 17, 18, 19, 20, 21, 22, 23, 24, 25, 26, 27, 28, 29, 30, 31, 32, 33, 34, 35, 36, 37, 38, 39, 40, 41, 42, 43, 44, 45, 46, 47]⟩
noncomputable def E153_2 (m : Nat) (ps : List Prm) (k : Kont (Int × (List (Int × Int × Int × Int × Int)))) : Option (Int × (List (Int × Int × Int × Int × Int))) :=
  match ps with
  | [.v (.int .i64 a3), .v (.int .i64 a4), .row (.pair (.int .i64) (.pair (.int .i64) (.pair (.int .i64) (.pair (.int .i64) (.int .i64))))) a5] => L.markRuleS_l0 m (fun z23 z24 => k (.exit 0) (⟨((.s1 (.one (.unk))) :: (vi z23) :: (vu 46 [])), [], [⟨252, (.pair (.int .i64) (.pair (.int .i64) (.pair (.int .i64) (.pair (.int .i64) (.int .i64))))), z24, .own⟩]⟩ : St)) a3 a4 a5
  | _ => none
noncomputable def S153_2 (a3 a4 : Int) (a5 : List (Int × Int × Int × Int × Int)) : St := (⟨((vl 0) :: (vi a3) :: (vu 3 ((vi a4) :: (vu 42 [])))), [], [⟨252, (.pair (.int .i64) (.pair (.int .i64) (.pair (.int .i64) (.pair (.int .i64) (.int .i64))))), a5, .own⟩]⟩ : St)
theorem ev153_2 (m : Nat) (k : Kont (Int × (List (Int × Int × Int × Int × Int)))) (a3 a4 : Int) (a5 : List (Int × Int × Int × Int × Int)) : evC Try.prog G153 loopNil c153_2 (S153_2 a3 a4 a5) (turn Try.prog (0, 1) H153_2 (E153_2 m) k) = E153_2 (m + 1) [.v (.int .i64 a3), .v (.int .i64 a4), .row (.pair (.int .i64) (.pair (.int .i64) (.pair (.int .i64) (.pair (.int .i64) (.int .i64))))) a5] k := by kernel_rfl
theorem ok153_2 (m : Nat) : LoopOk Try.prog (0, 1) c153_2 (enter Try.prog (0, 1) H153_2 (E153_2 m)) := by
  refine loop_ok (G := G153) (L := loopNil) envNil_good (by intro x hx; simp [show loopsOf c153_2 = [] from by kernel_rfl] at hx) (fun ps k => by unfold E153_2; split <;> rfl) (fun m ps k r h => ?_) m
  have h0 := h
  unfold E153_2 at h
  split at h
  · exact ⟨S153_2 _ _ _, by kernel_rfl, (ev153_2 m k _ _ _).trans h0⟩
  · cases h
noncomputable def L153 : LEnv (Int × (List (Int × Int × Int × Int × Int))) := (loopCons 2 (enter Try.prog (0, 1) H153_2 (E153_2 fu)) loopNil)
theorem lq153 : loopsOf c153 = [c153_2] := by kernel_rfl
theorem fr153_2 : firstReg c153_2 = some 2 := by kernel_rfl
theorem le153_2 : L153 2 = enter Try.prog (0, 1) H153_2 (E153_2 fu) := by kernel_rfl
theorem lm153 : ∀ x ∈ [c153_2], ∀ id, firstReg x = some id → LoopOk Try.prog (0, 1) x (L153 id) := (loops_cons fr153_2 le153_2 (ok153_2 fu) loops_nil)
theorem lp153 : ∀ x ∈ loopsOf c153, ∀ id, firstReg x = some id → LoopOk Try.prog (0, 1) x (L153 id) := loops_eq lq153 lm153
noncomputable def R153 (x : Int × (List (Int × Int × Int × Int × Int))) : Res := ⟨[.one (ai x.1)], [], [⟨252, (.pair (.int .i64) (.pair (.int .i64) (.pair (.int .i64) (.pair (.int .i64) (.int .i64))))), x.2, .own⟩]⟩
noncomputable def K153 (r : Res) : Option (Int × (List (Int × Int × Int × Int × Int))) :=
  match r with
  | ⟨[.one (.val (.int .i64 v1))], [], [⟨252, (.pair (.int .i64) (.pair (.int .i64) (.pair (.int .i64) (.pair (.int .i64) (.int .i64))))), v2, .own⟩]⟩ => some (v1, v2)
  | _ => none
noncomputable def E153 : Fun2 := fun args bs rs =>
  match args, bs, rs with
  | [.s1 (.one (.sl 0)), .s1 (.one (.val (.int .i64 a1)))], [], [⟨252, (.pair (.int .i64) (.pair (.int .i64) (.pair (.int .i64) (.pair (.int .i64) (.int .i64))))), a2, .own⟩] => some ⟨Int × (List (Int × Int × Int × Int × Int)), L.markRuleS a1 a2, R153⟩
  | _, _, _ => none
theorem ev153 (a1 : Int) (a2 : List (Int × Int × Int × Int × Int)) : evF Try.prog G153 L153 (0, 1) Try.f153 c153 [vl 0, vi a1] [] [⟨252, (.pair (.int .i64) (.pair (.int .i64) (.pair (.int .i64) (.pair (.int .i64) (.int .i64))))), a2, .own⟩] K153 = L.markRuleS a1 a2 := by kernel_rfl
theorem good153 : Vm.Good Try.prog 153 E153 := by
  refine evF_good (G := G153) (c := c153) envNil_good Try.func153 (by kernel_rfl) (by kernel_rfl) (0, 1) (fun args bs rs out t h h2 => ?_)
  unfold E153 at h
  split at h
  · injection h with h
    subst h
    exact ⟨rfl, L153, K153, lp153, (fun r t h => by unfold K153 at h; split at h; (injection h with h; subst h; rfl); cases h), (ev153 _ _).trans h2⟩
  · cases h
/-! ### L.markConf -/
noncomputable def G69 : Env := (envCons 38 [1] E38 (envCons 151 [0] E151 (envCons 152 [0] E152 (envCons 153 [0] E153 envNil))))
noncomputable def c69 : Code := bodyOf Try.f69
noncomputable def L.markConf (a1 a2 a3 a4 : Int) (a5 : List Int) (a6 : List (List (Int × Int) × List (Int × Int) × (Int × Int × Int) × Int × Int)) (a7 : List (Int × Int × Int)) (a8 : List (Int × Int × Int × Int × Int)) : Option (Int × List Int × (List (List (Int × Int) × List (Int × Int) × (Int × Int × Int) × Int × Int)) × (List (Int × Int × Int)) × (List (Int × Int × Int × Int × Int))) :=
(Option.bind (L.markLat a1 a4 a5) fun r9 =>
(Option.bind (L.markQueryS r9.1 a6) fun r10 =>
(Option.bind (L.markSubS r10.1 a7) fun r11 =>
(Option.bind (L.markRuleS r11.1 a8) fun r12 =>
(some (r12.1, r9.2, r10.2, r11.2, r12.2))))))
noncomputable def R69 (x : Int × List Int × (List (List (Int × Int) × List (Int × Int) × (Int × Int × Int) × Int × Int)) × (List (Int × Int × Int)) × (List (Int × Int × Int × Int × Int))) : Res := ⟨[.one (ai x.1)], [], [⟨117, (.int .u64), x.2.1, .own⟩, ⟨129, (.pair (.sl 275 (.pair (.int .i64) (.int .i64))) (.pair (.sl 275 (.pair (.int .i64) (.int .i64))) (.pair (.pair (.int .i64) (.pair (.int .i64) (.int .i64))) (.pair (.int .i64) (.int .i64))))), x.2.2.1, .own⟩, ⟨250, (.pair (.int .i64) (.pair (.int .i64) (.int .i64))), x.2.2.2.1, .own⟩, ⟨252, (.pair (.int .i64) (.pair (.int .i64) (.pair (.int .i64) (.pair (.int .i64) (.int .i64))))), x.2.2.2.2, .own⟩]⟩
noncomputable def K69 (r : Res) : Option (Int × List Int × (List (List (Int × Int) × List (Int × Int) × (Int × Int × Int) × Int × Int)) × (List (Int × Int × Int)) × (List (Int × Int × Int × Int × Int))) :=
  match r with
  | ⟨[.one (.val (.int .i64 v1))], [], [⟨117, (.int .u64), v2, .own⟩, ⟨129, (.pair (.sl 275 (.pair (.int .i64) (.int .i64))) (.pair (.sl 275 (.pair (.int .i64) (.int .i64))) (.pair (.pair (.int .i64) (.pair (.int .i64) (.int .i64))) (.pair (.int .i64) (.int .i64))))), v3, .own⟩, ⟨250, (.pair (.int .i64) (.pair (.int .i64) (.int .i64))), v4, .own⟩, ⟨252, (.pair (.int .i64) (.pair (.int .i64) (.pair (.int .i64) (.pair (.int .i64) (.int .i64))))), v5, .own⟩]⟩ => some (v1, v2, v3, v4, v5)
  | _ => none
noncomputable def E69 : Fun2 := fun args bs rs =>
  match args, bs, rs with
  | [.s1 (.agg [.val (.int .i64 a1), .sl 0, .val (.int .i64 a2), .val (.int .i64 a3), .sl 1, .sl 2, .sl 3]), .s1 (.one (.val (.int .i64 a4)))], [], [⟨117, (.int .u64), a5, .own⟩, ⟨129, (.pair (.sl 275 (.pair (.int .i64) (.int .i64))) (.pair (.sl 275 (.pair (.int .i64) (.int .i64))) (.pair (.pair (.int .i64) (.pair (.int .i64) (.int .i64))) (.pair (.int .i64) (.int .i64))))), a6, .own⟩, ⟨250, (.pair (.int .i64) (.pair (.int .i64) (.int .i64))), a7, .own⟩, ⟨252, (.pair (.int .i64) (.pair (.int .i64) (.pair (.int .i64) (.pair (.int .i64) (.int .i64))))), a8, .own⟩] => some ⟨Int × List Int × (List (List (Int × Int) × List (Int × Int) × (Int × Int × Int) × Int × Int)) × (List (Int × Int × Int)) × (List (Int × Int × Int × Int × Int)), L.markConf a1 a2 a3 a4 a5 a6 a7 a8, R69⟩
  | _, _, _ => none
theorem ev69 (a1 a2 a3 a4 : Int) (a5 : List Int) (a6 : List (List (Int × Int) × List (Int × Int) × (Int × Int × Int) × Int × Int)) (a7 : List (Int × Int × Int)) (a8 : List (Int × Int × Int × Int × Int)) : evF Try.prog G69 loopNil (0, 4) Try.f69 c69 [.s1 (.agg [ai a1, .sl 0, ai a2, ai a3, .sl 1, .sl 2, .sl 3]), vi a4] [] [⟨117, (.int .u64), a5, .own⟩, ⟨129, (.pair (.sl 275 (.pair (.int .i64) (.int .i64))) (.pair (.sl 275 (.pair (.int .i64) (.int .i64))) (.pair (.pair (.int .i64) (.pair (.int .i64) (.int .i64))) (.pair (.int .i64) (.int .i64))))), a6, .own⟩, ⟨250, (.pair (.int .i64) (.pair (.int .i64) (.int .i64))), a7, .own⟩, ⟨252, (.pair (.int .i64) (.pair (.int .i64) (.pair (.int .i64) (.pair (.int .i64) (.int .i64))))), a8, .own⟩] K69 = L.markConf a1 a2 a3 a4 a5 a6 a7 a8 := by kernel_rfl
theorem good69 : Vm.Good Try.prog 69 E69 := by
  refine evF_good (G := G69) (c := c69) (envCons_good good38 (envCons_good good151 (envCons_good good152 (envCons_good good153 envNil_good)))) Try.func69 (by kernel_rfl) (by kernel_rfl) (0, 4) (fun args bs rs out t h h2 => ?_)
  unfold E69 at h
  split at h
  · injection h with h
    subst h
    exact ⟨rfl, loopNil, K69, (by intro x hx; simp [show loopsOf c69 = [] from by kernel_rfl] at hx), (fun r t h => by unfold K69 at h; split at h; (injection h with h; subst h; rfl); cases h), (ev69 _ _ _ _ _ _ _ _).trans h2⟩
  · cases h
/-! ### L.markTakenS -/
noncomputable def G70 : Env := envNil
noncomputable def c70 : Code := bodyOf Try.f70
noncomputable def c70_2 : Code := (loopsOf c70).getD 0 .skip
noncomputable def L.markTakenS_l0 : Nat → (Int → (List (Int × (Int × Int × Int × Int) × Int)) → Option (Int × (List (Int × (Int × Int × Int × Int) × Int)))) → Int → Int → (List (Int × (Int × Int × Int × Int) × Int)) → Option (Int × (List (Int × (Int × Int × Int × Int) × Int)))
  | 0, _, _, _, _ => none
  | m + 1, e2_0, a3, a4, a5 =>
    (bif (decide (a4 < (a5.length : Int))) then
    (bif decide ((0 : Int) ≤ a4 ∧ a4 < (a5.length : Int)) then
    (let v8 : List (Int × (Int × Int × Int × Int) × Int) := (a5.set (Int.toNat a4) (a3, (nthI a5 a4 ((0 : Int), (((0 : Int), ((0 : Int), ((0 : Int), (0 : Int)))), (0 : Int)))).2))
    (let v9 : Int := (IntKind.wrap .i64 (a3 + 1))
    (bif decide ((0 : Int) ≤ a4 ∧ a4 < (v8.length : Int)) then
    (let v10 : List (Int × (Int × Int × Int × Int) × Int) := (v8.set (Int.toNat a4) ((nthI v8 a4 ((0 : Int), (((0 : Int), ((0 : Int), ((0 : Int), (0 : Int)))), (0 : Int)))).1, ((v9, (nthI v8 a4 ((0 : Int), (((0 : Int), ((0 : Int), ((0 : Int), (0 : Int)))), (0 : Int)))).2.1.2), (nthI v8 a4 ((0 : Int), (((0 : Int), ((0 : Int), ((0 : Int), (0 : Int)))), (0 : Int)))).2.2)))
    (let v11 : Int := (IntKind.wrap .i64 (v9 + 1))
    (bif decide ((0 : Int) ≤ a4 ∧ a4 < (v10.length : Int)) then
    (let v12 : List (Int × (Int × Int × Int × Int) × Int) := (v10.set (Int.toNat a4) ((nthI v10 a4 ((0 : Int), (((0 : Int), ((0 : Int), ((0 : Int), (0 : Int)))), (0 : Int)))).1, (((nthI v10 a4 ((0 : Int), (((0 : Int), ((0 : Int), ((0 : Int), (0 : Int)))), (0 : Int)))).2.1.1, (v11, (nthI v10 a4 ((0 : Int), (((0 : Int), ((0 : Int), ((0 : Int), (0 : Int)))), (0 : Int)))).2.1.2.2)), (nthI v10 a4 ((0 : Int), (((0 : Int), ((0 : Int), ((0 : Int), (0 : Int)))), (0 : Int)))).2.2)))
    (let v13 : Int := (IntKind.wrap .i64 (v11 + 1))
    (bif decide ((0 : Int) ≤ a4 ∧ a4 < (v12.length : Int)) then
    (let v14 : List (Int × (Int × Int × Int × Int) × Int) := (v12.set (Int.toNat a4) ((nthI v12 a4 ((0 : Int), (((0 : Int), ((0 : Int), ((0 : Int), (0 : Int)))), (0 : Int)))).1, (((nthI v12 a4 ((0 : Int), (((0 : Int), ((0 : Int), ((0 : Int), (0 : Int)))), (0 : Int)))).2.1.1, ((nthI v12 a4 ((0 : Int), (((0 : Int), ((0 : Int), ((0 : Int), (0 : Int)))), (0 : Int)))).2.1.2.1, (v13, (nthI v12 a4 ((0 : Int), (((0 : Int), ((0 : Int), ((0 : Int), (0 : Int)))), (0 : Int)))).2.1.2.2.2))), (nthI v12 a4 ((0 : Int), (((0 : Int), ((0 : Int), ((0 : Int), (0 : Int)))), (0 : Int)))).2.2)))
    (let v15 : Int := (IntKind.wrap .i64 (v13 + 1))
    (bif decide ((0 : Int) ≤ a4 ∧ a4 < (v14.length : Int)) then
    (let v16 : List (Int × (Int × Int × Int × Int) × Int) := (v14.set (Int.toNat a4) ((nthI v14 a4 ((0 : Int), (((0 : Int), ((0 : Int), ((0 : Int), (0 : Int)))), (0 : Int)))).1, (((nthI v14 a4 ((0 : Int), (((0 : Int), ((0 : Int), ((0 : Int), (0 : Int)))), (0 : Int)))).2.1.1, ((nthI v14 a4 ((0 : Int), (((0 : Int), ((0 : Int), ((0 : Int), (0 : Int)))), (0 : Int)))).2.1.2.1, ((nthI v14 a4 ((0 : Int), (((0 : Int), ((0 : Int), ((0 : Int), (0 : Int)))), (0 : Int)))).2.1.2.2.1, v15))), (nthI v14 a4 ((0 : Int), (((0 : Int), ((0 : Int), ((0 : Int), (0 : Int)))), (0 : Int)))).2.2)))
    (let v17 : Int := (IntKind.wrap .i64 (v15 + 1))
    (bif decide ((0 : Int) ≤ a4 ∧ a4 < (v16.length : Int)) then
    (let v18 : List (Int × (Int × Int × Int × Int) × Int) := (v16.set (Int.toNat a4) ((nthI v16 a4 ((0 : Int), (((0 : Int), ((0 : Int), ((0 : Int), (0 : Int)))), (0 : Int)))).1, ((nthI v16 a4 ((0 : Int), (((0 : Int), ((0 : Int), ((0 : Int), (0 : Int)))), (0 : Int)))).2.1, v17)))
    (L.markTakenS_l0 m e2_0 (IntKind.wrap .i64 (v17 + 1)) (IntKind.wrap .i64 (a4 + 1)) v18))
    else
    none)))
    else
    none)))
    else
    none)))
    else
    none)))
    else
    none)))
    else
    none)
    else
    (e2_0 a3 a5))
noncomputable def L.markTakenS (a1 : Int) (a2 : List (Int × (Int × Int × Int × Int) × Int)) : Option (Int × (List (Int × (Int × Int × Int × Int) × Int))) :=
(L.markTakenS_l0 fu (fun y21 y22 =>
(some (y21, y22))) a1 0 a2)
noncomputable def H70_2 : LoopH := ⟨⟨((.one (.sl 0)) :: hh :: (hu 3 (hh :: (hu 53 [])))), [], [(196, (.pair (.int .i64) (.pair (.pair (.int .i64) (.pair (.int .i64) (.pair (.int .i64) (.int .i64)))) (.int .i64))), .own)]⟩, [2, 3, 4, 6, 7, 8, 9, 10, 11, 12, 13, 14, 15, 16, 17, 18, 19, 20, 21, 22, 23, 24, 25, 26, 27, 28, 29, 30, 31, 32, 33, 34, 35, 36, 37, 38, 39, 40, 41, 42, 43, 44, 45, 46, 47, 48, 49, 50, 51, 52, 53, 54, 55, 56, 57, 58], [], [0, 2, 3, 5, 6, 7, 8, 9, 10, 11, 12, 13, 14, 15, 16, 17, 18, 19, 20, 21, 22, 23, 24, 25, 26, 27, 28, 29, 30, 31, 32, 33, 34, 35, 36, 37, 38, 39, 40, 41, 42, 43, 44, 45, 46, 47, 48, 49, 50, 51, 52, 53, 54, 55, 56, 57, 58]⟩
noncomputable def E70_2 (m : Nat) (ps : List Prm) (k : Kont (Int × (List (Int × (Int × Int × Int × Int) × Int)))) : Option (Int × (List (Int × (Int × Int × Int × Int) × Int))) :=
  match ps with
  | [.v (.int .i64 a3), .v (.int .i64 a4), .row (.pair (.int .i64) (.pair (.pair (.int .i64) (.pair (.int .i64) (.pair (.int .i64) (.int .i64)))) (.int .i64))) a5] => L.markTakenS_l0 m (fun z25 z26 => k (.exit 0) (⟨((.s1 (.one (.unk))) :: (vi z25) :: (vu 57 [])), [], [⟨196, (.pair (.int .i64) (.pair (.pair (.int .i64) (.pair (.int .i64) (.pair (.int .i64) (.int .i64)))) (.int .i64))), z26, .own⟩]⟩ : St)) a3 a4 a5
  | _ => none
noncomputable def S70_2 (a3 a4 : Int) (a5 : List (Int × (Int × Int × Int × Int) × Int)) : St := (⟨((vl 0) :: (vi a3) :: (vu 3 ((vi a4) :: (vu 53 [])))), [], [⟨196, (.pair (.int .i64) (.pair (.pair (.int .i64) (.pair (.int .i64) (.pair (.int .i64) (.int .i64)))) (.int .i64))), a5, .own⟩]⟩ : St)
theorem ev70_2 (m : Nat) (k : Kont (Int × (List (Int × (Int × Int × Int × Int) × Int)))) (a3 a4 : Int) (a5 : List (Int × (Int × Int × Int × Int) × Int)) : evC Try.prog G70 loopNil c70_2 (S70_2 a3 a4 a5) (turn Try.prog (0, 1) H70_2 (E70_2 m) k) = E70_2 (m + 1) [.v (.int .i64 a3), .v (.int .i64 a4), .row (.pair (.int .i64) (.pair (.pair (.int .i64) (.pair (.int .i64) (.pair (.int .i64) (.int .i64)))) (.int .i64))) a5] k := by kernel_rfl
theorem ok70_2 (m : Nat) : LoopOk Try.prog (0, 1) c70_2 (enter Try.prog (0, 1) H70_2 (E70_2 m)) := by
  refine loop_ok (G := G70) (L := loopNil) envNil_good (by intro x hx; simp [show loopsOf c70_2 = [] from by kernel_rfl] at hx) (fun ps k => by unfold E70_2; split <;> rfl) (fun m ps k r h => ?_) m
  have h0 := h
  unfold E70_2 at h
  split at h
  · exact ⟨S70_2 _ _ _, by kernel_rfl, (ev70_2 m k _ _ _).trans h0⟩
  · cases h
noncomputable def L70 : LEnv (Int × (List (Int × (Int × Int × Int × Int) × Int))) := (loopCons 2 (enter Try.prog (0, 1) H70_2 (E70_2 fu)) loopNil)
theorem lq70 : loopsOf c70 = [c70_2] := by kernel_rfl
theorem fr70_2 : firstReg c70_2 = some 2 := by kernel_rfl
theorem le70_2 : L70 2 = enter Try.prog (0, 1) H70_2 (E70_2 fu) := by kernel_rfl
theorem lm70 : ∀ x ∈ [c70_2], ∀ id, firstReg x = some id → LoopOk Try.prog (0, 1) x (L70 id) := (loops_cons fr70_2 le70_2 (ok70_2 fu) loops_nil)
theorem lp70 : ∀ x ∈ loopsOf c70, ∀ id, firstReg x = some id → LoopOk Try.prog (0, 1) x (L70 id) := loops_eq lq70 lm70
noncomputable def R70 (x : Int × (List (Int × (Int × Int × Int × Int) × Int))) : Res := ⟨[.one (ai x.1)], [], [⟨196, (.pair (.int .i64) (.pair (.pair (.int .i64) (.pair (.int .i64) (.pair (.int .i64) (.int .i64)))) (.int .i64))), x.2, .own⟩]⟩
noncomputable def K70 (r : Res) : Option (Int × (List (Int × (Int × Int × Int × Int) × Int))) :=
  match r with
  | ⟨[.one (.val (.int .i64 v1))], [], [⟨196, (.pair (.int .i64) (.pair (.pair (.int .i64) (.pair (.int .i64) (.pair (.int .i64) (.int .i64)))) (.int .i64))), v2, .own⟩]⟩ => some (v1, v2)
  | _ => none
noncomputable def E70 : Fun2 := fun args bs rs =>
  match args, bs, rs with
  | [.s1 (.one (.sl 0)), .s1 (.one (.val (.int .i64 a1)))], [], [⟨196, (.pair (.int .i64) (.pair (.pair (.int .i64) (.pair (.int .i64) (.pair (.int .i64) (.int .i64)))) (.int .i64))), a2, .own⟩] => some ⟨Int × (List (Int × (Int × Int × Int × Int) × Int)), L.markTakenS a1 a2, R70⟩
  | _, _, _ => none
theorem ev70 (a1 : Int) (a2 : List (Int × (Int × Int × Int × Int) × Int)) : evF Try.prog G70 L70 (0, 1) Try.f70 c70 [vl 0, vi a1] [] [⟨196, (.pair (.int .i64) (.pair (.pair (.int .i64) (.pair (.int .i64) (.pair (.int .i64) (.int .i64)))) (.int .i64))), a2, .own⟩] K70 = L.markTakenS a1 a2 := by kernel_rfl
theorem good70 : Vm.Good Try.prog 70 E70 := by
  refine evF_good (G := G70) (c := c70) envNil_good Try.func70 (by kernel_rfl) (by kernel_rfl) (0, 1) (fun args bs rs out t h h2 => ?_)
  unfold E70 at h
  split at h
  · injection h with h
    subst h
    exact ⟨rfl, L70, K70, lp70, (fun r t h => by unfold K70 at h; split at h; (injection h with h; subst h; rfl); cases h), (ev70 _ _).trans h2⟩
  · cases h
/-! ### L.heldTakenS -/
noncomputable def G71 : Env := envNil
noncomputable def c71 : Code := bodyOf Try.f71
noncomputable def c71_2 : Code := (loopsOf c71).getD 0 .skip
noncomputable def L.heldTakenS_l0 : Nat → (Int → Int → Option Int) → (Int → Option Int) → Int → Int → (List (Int × (Int × Int × Int × Int) × Int)) → Option Int
  | 0, _, _, _, _, _ => none
  | m + 1, e2_0, e2_1, a3, a4, a5 =>
    (bif (decide (a4 < (a5.length : Int))) then
    (bif decide ((0 : Int) ≤ a4 ∧ a4 < (a5.length : Int)) then
    (let v8 : Bool := ((nthI a5 a4 ((0 : Int), (((0 : Int), ((0 : Int), ((0 : Int), (0 : Int)))), (0 : Int)))).1 != a3)
    (bif v8 then
    (e2_0 a3 (-1))
    else
    (let v9 : Int := (IntKind.wrap .i64 (a3 + 1))
    (bif decide ((0 : Int) ≤ a4 ∧ a4 < (a5.length : Int)) then
    (let v10 : Bool := ((nthI a5 a4 ((0 : Int), (((0 : Int), ((0 : Int), ((0 : Int), (0 : Int)))), (0 : Int)))).2.1.1 != v9)
    (bif v10 then
    (e2_0 v9 (-1))
    else
    (let v11 : Int := (IntKind.wrap .i64 (v9 + 1))
    (bif decide ((0 : Int) ≤ a4 ∧ a4 < (a5.length : Int)) then
    (let v12 : Bool := ((nthI a5 a4 ((0 : Int), (((0 : Int), ((0 : Int), ((0 : Int), (0 : Int)))), (0 : Int)))).2.1.2.1 != v11)
    (bif v12 then
    (e2_0 v11 (-1))
    else
    (let v13 : Int := (IntKind.wrap .i64 (v11 + 1))
    (bif decide ((0 : Int) ≤ a4 ∧ a4 < (a5.length : Int)) then
    (let v14 : Bool := ((nthI a5 a4 ((0 : Int), (((0 : Int), ((0 : Int), ((0 : Int), (0 : Int)))), (0 : Int)))).2.1.2.2.1 != v13)
    (bif v14 then
    (e2_0 v13 (-1))
    else
    (let v15 : Int := (IntKind.wrap .i64 (v13 + 1))
    (bif decide ((0 : Int) ≤ a4 ∧ a4 < (a5.length : Int)) then
    (let v16 : Bool := ((nthI a5 a4 ((0 : Int), (((0 : Int), ((0 : Int), ((0 : Int), (0 : Int)))), (0 : Int)))).2.1.2.2.2 != v15)
    (bif v16 then
    (e2_0 v15 (-1))
    else
    (let v17 : Int := (IntKind.wrap .i64 (v15 + 1))
    (bif decide ((0 : Int) ≤ a4 ∧ a4 < (a5.length : Int)) then
    (let v18 : Bool := ((nthI a5 a4 ((0 : Int), (((0 : Int), ((0 : Int), ((0 : Int), (0 : Int)))), (0 : Int)))).2.2 != v17)
    (bif v18 then
    (e2_0 v17 (-1))
    else
    (L.heldTakenS_l0 m e2_0 e2_1 (IntKind.wrap .i64 (v17 + 1)) (IntKind.wrap .i64 (a4 + 1)) a5)))
    else
    none))))
    else
    none))))
    else
    none))))
    else
    none))))
    else
    none))))
    else
    none)
    else
    (e2_1 a3))
noncomputable def L.heldTakenS (a1 : Int) (a2 : List (Int × (Int × Int × Int × Int) × Int)) : Option Int :=
(L.heldTakenS_l0 fu (fun y21 y22 =>
(some y22)) (fun y23 =>
(some y23)) a1 0 a2)
noncomputable def H71_2 : LoopH := ⟨⟨((.one (.sl 0)) :: hh :: (hu 3 (hh :: (hu 65 [])))), [], [(196, (.pair (.int .i64) (.pair (.pair (.int .i64) (.pair (.int .i64) (.pair (.int .i64) (.int .i64)))) (.int .i64))), .ro)]⟩, [2, 3, 4, 6, 7, 8, 9, 10, 11, 12, 13, 14, 15, 16, 17, 18, 19, 20, 21, 22, 23, 24, 25, 26, 27, 28, 29, 30, 31, 32, 33, 34, 35, 36, 37, 38, 39, 40, 41, 42, 43, 44, 45, 46, 47, 48, 49, 50, 51, 52, 53, 54, 55, 56, 57, 58, 59, 60, 61, 62, 63, 64, 65, 66, 67, 68, 69, 70], [], [0, 2, 3, 5, 6, 7, 8, 9, 10, 11, 12, 13, 14, 15, 16, 17, 18, 19, 20, 21, 22, 23, 24, 25, 26, 27, 28, 29, 30, 31, 32, 33, 34, 35, 36, 37, 38, 39, 40, 41, 42, 43, 44, 45, 46, 47, 48, 49, 50, 51, 52, 53, 54, 55, 56, 57, 58, 59, 60, 61, 62, 63, 64, 65, 66, 67, 68, 69, 70]⟩
noncomputable def E71_2 (m : Nat) (ps : List Prm) (k : Kont Int) : Option Int :=
  match ps with
  | [.v (.int .i64 a3), .v (.int .i64 a4), .row (.pair (.int .i64) (.pair (.pair (.int .i64) (.pair (.int .i64) (.pair (.int .i64) (.int .i64)))) (.int .i64))) a5] => L.heldTakenS_l0 m (fun z27 z28 => k .ret (⟨((.s1 (.one (.unk))) :: (vi z27) :: (vu 2 ((vi z28) :: (vu 66 [])))), [], []⟩ : St)) (fun z29 => k (.exit 0) (⟨((.s1 (.one (.unk))) :: (vi z29) :: (vu 69 [])), [], []⟩ : St)) a3 a4 a5
  | _ => none
noncomputable def S71_2 (a3 a4 : Int) (a5 : List (Int × (Int × Int × Int × Int) × Int)) : St := (⟨((vl 0) :: (vi a3) :: (vu 3 ((vi a4) :: (vu 65 [])))), [], [⟨196, (.pair (.int .i64) (.pair (.pair (.int .i64) (.pair (.int .i64) (.pair (.int .i64) (.int .i64)))) (.int .i64))), a5, .ro⟩]⟩ : St)
theorem ev71_2 (m : Nat) (k : Kont Int) (a3 a4 : Int) (a5 : List (Int × (Int × Int × Int × Int) × Int)) : evC Try.prog G71 loopNil c71_2 (S71_2 a3 a4 a5) (turn Try.prog (0, 0) H71_2 (E71_2 m) k) = E71_2 (m + 1) [.v (.int .i64 a3), .v (.int .i64 a4), .row (.pair (.int .i64) (.pair (.pair (.int .i64) (.pair (.int .i64) (.pair (.int .i64) (.int .i64)))) (.int .i64))) a5] k := by kernel_rfl
theorem ok71_2 (m : Nat) : LoopOk Try.prog (0, 0) c71_2 (enter Try.prog (0, 0) H71_2 (E71_2 m)) := by
  refine loop_ok (G := G71) (L := loopNil) envNil_good (by intro x hx; simp [show loopsOf c71_2 = [] from by kernel_rfl] at hx) (fun ps k => by unfold E71_2; split <;> rfl) (fun m ps k r h => ?_) m
  have h0 := h
  unfold E71_2 at h
  split at h
  · exact ⟨S71_2 _ _ _, by kernel_rfl, (ev71_2 m k _ _ _).trans h0⟩
  · cases h
noncomputable def L71 : LEnv Int := (loopCons 2 (enter Try.prog (0, 0) H71_2 (E71_2 fu)) loopNil)
theorem lq71 : loopsOf c71 = [c71_2] := by kernel_rfl
theorem fr71_2 : firstReg c71_2 = some 2 := by kernel_rfl
theorem le71_2 : L71 2 = enter Try.prog (0, 0) H71_2 (E71_2 fu) := by kernel_rfl
theorem lm71 : ∀ x ∈ [c71_2], ∀ id, firstReg x = some id → LoopOk Try.prog (0, 0) x (L71 id) := (loops_cons fr71_2 le71_2 (ok71_2 fu) loops_nil)
theorem lp71 : ∀ x ∈ loopsOf c71, ∀ id, firstReg x = some id → LoopOk Try.prog (0, 0) x (L71 id) := loops_eq lq71 lm71
noncomputable def R71 (x : Int) : Res := ⟨[.one (ai x)], [], []⟩
noncomputable def K71 (r : Res) : Option Int :=
  match r with
  | ⟨[.one (.val (.int .i64 v1))], [], []⟩ => some (v1)
  | _ => none
noncomputable def E71 : Fun2 := fun args bs rs =>
  match args, bs, rs with
  | [.s1 (.one (.sl 0)), .s1 (.one (.val (.int .i64 a1)))], [], [⟨196, (.pair (.int .i64) (.pair (.pair (.int .i64) (.pair (.int .i64) (.pair (.int .i64) (.int .i64)))) (.int .i64))), a2, .ro⟩] => some ⟨Int, L.heldTakenS a1 a2, R71⟩
  | _, _, _ => none
theorem ev71 (a1 : Int) (a2 : List (Int × (Int × Int × Int × Int) × Int)) : evF Try.prog G71 L71 (0, 0) Try.f71 c71 [vl 0, vi a1] [] [⟨196, (.pair (.int .i64) (.pair (.pair (.int .i64) (.pair (.int .i64) (.pair (.int .i64) (.int .i64)))) (.int .i64))), a2, .ro⟩] K71 = L.heldTakenS a1 a2 := by kernel_rfl
theorem good71 : Vm.Good Try.prog 71 E71 := by
  refine evF_good (G := G71) (c := c71) envNil_good Try.func71 (by kernel_rfl) (by kernel_rfl) (0, 0) (fun args bs rs out t h h2 => ?_)
  unfold E71 at h
  split at h
  · injection h with h
    subst h
    exact ⟨rfl, L71, K71, lp71, (fun r t h => by unfold K71 at h; split at h; (injection h with h; subst h; rfl); cases h), (ev71 _ _).trans h2⟩
  · cases h
/-! ### L.FnExactSeenBy -/
noncomputable def G11 : Env := (envCons 61 [] E61 (envCons 62 [] E62 (envCons 64 [] E64 (envCons 65 [] E65 (envCons 63 [] E63 (envCons 66 [] E66 (envCons 67 [] E67 (envCons 68 [] E68 (envCons 69 [1, 4, 5, 6] E69 (envCons 70 [0] E70 (envCons 71 [] E71 envNil)))))))))))
noncomputable def c11 : Code := bodyOf Try.f11
noncomputable def L.FnExactSeenBy (a1 a2 a3 a4 : Int) (a5 : List Int) (a6 : List (List (Int × Int) × List (Int × Int) × (Int × Int × Int) × Int × Int)) (a7 : List (Int × Int × Int)) (a8 : List (Int × Int × Int × Int × Int)) (a9 : List (Int × (Int × Int × Int × Int) × Int)) : Option Bool :=
(Option.bind (L.szConf a1 a2 a3 1048576 a5 a6 a7 a8) fun r10 =>
(bif (decide (r10 < 0)) then
(some true)
else
(Option.bind (L.szTakenS r10 a9) fun r12 =>
(bif (decide (r12 < 0)) then
(some true)
else
(Option.bind (L.toConf a1 a2 a3 a5 a6 a7 a8) fun r14 =>
(Option.bind (L.toTakenS a9) fun r15 =>
(Option.bind (S.SeenBy r14.1 r14.2.1 r14.2.2.1 a4 r14.2.2.2.1 r14.2.2.2.2.1 r14.2.2.2.2.2.1 r14.2.2.2.2.2.2 r15) fun r16 =>
(Option.bind (L.toConf a1 a2 a3 a5 a6 a7 a8) fun r17 =>
(Option.bind (L.toTakenS a9) fun r18 =>
(Option.bind (I.SeenBy r17.1 r17.2.1 r17.2.2.1 a4 r17.2.2.2.1 r17.2.2.2.2.1 r17.2.2.2.2.2.1 r17.2.2.2.2.2.2 r18) fun r19 =>
(Option.bind (L.eqTakenS r19 r16) fun r20 =>
(bif (!r20) then
(some false)
else
(Option.bind (L.toConf a1 a2 a3 a5 a6 a7 a8) fun r21 =>
(Option.bind (L.eqConf r17.1 r17.2.1 r17.2.2.1 r21.1 r21.2.1 r21.2.2.1 r17.2.2.2.1 r17.2.2.2.2.1 r17.2.2.2.2.2.1 r17.2.2.2.2.2.2 r21.2.2.2.1 r21.2.2.2.2.1 r21.2.2.2.2.2.1 r21.2.2.2.2.2.2) fun r22 =>
(bif (!r22) then
(some false)
else
(Option.bind (L.toTakenS a9) fun r23 =>
(Option.bind (L.eqTakenS r18 r23) fun r24 =>
(bif (!r24) then
(some false)
else
(Option.bind (L.markConf r17.1 r17.2.1 r17.2.2.1 1 r17.2.2.2.1 r17.2.2.2.2.1 r17.2.2.2.2.2.1 r17.2.2.2.2.2.2) fun r25 =>
(Option.bind (L.markTakenS r25.1 r18) fun r26 =>
(bif (decide (r26.1 < 0)) then
(some false)
else
(Option.bind (L.eqTakenS r19 r16) fun r28 =>
(bif (!r28) then
(some false)
else
(Option.bind (L.markTakenS 1 r19) fun r29 =>
(Option.bind (L.heldTakenS 1 r29.2) fun r30 =>
(bif (decide (r30 < 0)) then
(some false)
else
(bif (r30 != r29.1) then
(some false)
else
(Option.bind (L.toConf a1 a2 a3 a5 a6 a7 a8) fun r32 =>
(Option.bind (L.toTakenS a9) fun r33 =>
(Option.bind (I.SeenBy r32.1 r32.2.1 r32.2.2.1 a4 r32.2.2.2.1 r32.2.2.2.2.1 r32.2.2.2.2.2.1 r32.2.2.2.2.2.2 r33) fun r34 =>
(Option.bind (L.eqTakenS r34 r16) fun r35 =>
(bif (!r35) then
(some false)
else
(Option.bind (L.heldTakenS 1 r29.2) fun r36 =>
(bif (decide (r36 < 0)) then
(some false)
else
(bif (r36 != r29.1) then
(some false)
else
(some true))))))))))))))))))))))))))))))))))))
noncomputable def R11 (x : Bool) : Res := ⟨[.one (ab x)], [], []⟩
noncomputable def K11 (r : Res) : Option Bool :=
  match r with
  | ⟨[.one (.val (.bool v1))], [], []⟩ => some (v1)
  | _ => none
noncomputable def E11 : Fun2 := fun args bs rs =>
  match args, bs, rs with
  | [.s1 (.agg [.val (.int .i64 a1), .sl 0, .val (.int .i64 a2), .val (.int .i64 a3), .sl 1, .sl 2, .sl 3]), .s1 (.one (.sl 4)), .s1 (.one (.val (.int .i64 a4)))], [], [⟨117, (.int .u64), a5, .ro⟩, ⟨114, (.pair (.sl 277 (.pair (.int .i64) (.int .i64))) (.pair (.sl 277 (.pair (.int .i64) (.int .i64))) (.pair (.pair (.int .i64) (.pair (.int .i64) (.int .i64))) (.pair (.int .i64) (.int .i64))))), a6, .ro⟩, ⟨255, (.pair (.int .i64) (.pair (.int .i64) (.int .i64))), a7, .ro⟩, ⟨257, (.pair (.int .i64) (.pair (.int .i64) (.pair (.int .i64) (.pair (.int .i64) (.int .i64))))), a8, .ro⟩, ⟨204, (.pair (.int .i64) (.pair (.pair (.int .i64) (.pair (.int .i64) (.pair (.int .i64) (.int .i64)))) (.int .i64))), a9, .ro⟩] => some ⟨Bool, L.FnExactSeenBy a1 a2 a3 a4 a5 a6 a7 a8 a9, R11⟩
  | _, _, _ => none
theorem ev11 (a1 a2 a3 a4 : Int) (a5 : List Int) (a6 : List (List (Int × Int) × List (Int × Int) × (Int × Int × Int) × Int × Int)) (a7 : List (Int × Int × Int)) (a8 : List (Int × Int × Int × Int × Int)) (a9 : List (Int × (Int × Int × Int × Int) × Int)) : evF Try.prog G11 loopNil (0, 0) Try.f11 c11 [.s1 (.agg [ai a1, .sl 0, ai a2, ai a3, .sl 1, .sl 2, .sl 3]), vl 4, vi a4] [] [⟨117, (.int .u64), a5, .ro⟩, ⟨114, (.pair (.sl 277 (.pair (.int .i64) (.int .i64))) (.pair (.sl 277 (.pair (.int .i64) (.int .i64))) (.pair (.pair (.int .i64) (.pair (.int .i64) (.int .i64))) (.pair (.int .i64) (.int .i64))))), a6, .ro⟩, ⟨255, (.pair (.int .i64) (.pair (.int .i64) (.int .i64))), a7, .ro⟩, ⟨257, (.pair (.int .i64) (.pair (.int .i64) (.pair (.int .i64) (.pair (.int .i64) (.int .i64))))), a8, .ro⟩, ⟨204, (.pair (.int .i64) (.pair (.pair (.int .i64) (.pair (.int .i64) (.pair (.int .i64) (.int .i64)))) (.int .i64))), a9, .ro⟩] K11 = L.FnExactSeenBy a1 a2 a3 a4 a5 a6 a7 a8 a9 := by kernel_rfl
theorem good11 : Vm.Good Try.prog 11 E11 := by
  refine evF_good (G := G11) (c := c11) (envCons_good good61 (envCons_good good62 (envCons_good good64 (envCons_good good65 (envCons_good good63 (envCons_good good66 (envCons_good good67 (envCons_good good68 (envCons_good good69 (envCons_good good70 (envCons_good good71 envNil_good))))))))))) Try.func11 (by kernel_rfl) (by kernel_rfl) (0, 0) (fun args bs rs out t h h2 => ?_)
  unfold E11 at h
  split at h
  · injection h with h
    subst h
    exact ⟨rfl, loopNil, K11, (by intro x hx; simp [show loopsOf c11 = [] from by kernel_rfl] at hx), (fun r t h => by unfold K11 at h; split at h; (injection h with h; subst h; rfl); cases h), (ev11 _ _ _ _ _ _ _ _ _).trans h2⟩
  · cases h
end Go.Proofs.Ythddkomphkanbaa.Run
