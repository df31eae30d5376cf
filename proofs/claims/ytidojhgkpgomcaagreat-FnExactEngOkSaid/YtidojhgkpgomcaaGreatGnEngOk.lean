import Derived.Test.YtidojhgkpgomcaaGreatGnEngOkA
namespace Go.Proofs.YtidojhgkpgomcaaGreat.Run
open Go Go.RowKit Go.Proofs.YtidojhgkpgomcaaGreatW.PrintWords Go.Proofs.YtidojhgkpgomcaaGreat.Vm
set_option linter.unusedVariables false
set_option maxRecDepth 100000
set_option maxHeartbeats 4000000

noncomputable def G35 : Env := (envCons 58 [] E58 (envCons 98 [] E98 (envCons 99 [] E99 (envCons 41 [] E41 (envCons 100 [] E100 (envCons 85 [] E85 (envCons 101 [] E101 envNil)))))))
noncomputable def c35 : Code := bodyOf Tryz.f35
noncomputable def c35_7 : Code := (loopsOf c35).getD 0 .skip
noncomputable def c35_12 : Code := (loopsOf c35).getD 1 .skip
noncomputable def c35_17 : Code := (loopsOf c35).getD 2 .skip
noncomputable def c35_22 : Code := (loopsOf c35).getD 3 .skip
noncomputable def c35_27 : Code := (loopsOf c35).getD 4 .skip
noncomputable def S.EngOk_l0 : Nat → (Bool → Int → Int → Int → Int → Int → Int → Int → List Int → (List ty6) → (List (Int × Int × Int)) → (List ty10) → (List (Int × Int × Int × Int)) → (List (Int × Bool)) → (List ty5) → List Int → List Int → (List ty3) → Option Bool) → (Int → Int → Int → Int → Int → Int → Int → List Int → (List ty6) → (List (Int × Int × Int)) → (List ty10) → (List (Int × Int × Int × Int)) → (List (Int × Bool)) → (List ty5) → List Int → List Int → (List ty3) → Option Bool) → Int → Int → Int → Int → Int → Int → Int → Int → List Int → (List ty6) → (List (Int × Int × Int)) → (List ty10) → (List (Int × Int × Int × Int)) → (List (Int × Bool)) → (List ty5) → List Int → List Int → (List ty3) → Option Bool
  | 0, _, _, _, _, _, _, _, _, _, _, _, _, _, _, _, _, _, _, _, _ => none
  | m + 1, e7_0, e7_1, a25, a26, a27, a28, a29, a30, a31, a32, a33, a34, a35, a36, a37, a38, a39, a40, a41, a42 =>
    (bif (decide (a25 < (a37.length : Int))) then
    (bif decide ((0 : Int) ≤ a25 ∧ a25 < (a37.length : Int)) then
    (let v45 : Bool := (decide (a31 ≤ (nthI a37 a25 df7).1))
    (bif v45 then
    (e7_0 false a26 a27 a28 a29 a30 a31 a32 a33 a34 a35 a36 a37 a38 a39 a40 a41 a42)
    else
    (S.EngOk_l0 m e7_0 e7_1 (IntKind.wrap .i64 (a25 + 1)) a26 a27 a28 a29 a30 a31 a32 a33 a34 a35 a36 a37 a38 a39 a40 a41 a42)))
    else
    none)
    else
    (e7_1 a26 a27 a28 a29 a30 a31 a32 a33 a34 a35 a36 a37 a38 a39 a40 a41 a42))
noncomputable def S.EngOk_l1 : Nat → (Bool → Int → Int → Int → Int → Int → Int → Int → List Int → (List ty6) → (List (Int × Int × Int)) → (List ty10) → (List (Int × Int × Int × Int)) → (List (Int × Bool)) → (List ty5) → List Int → List Int → (List ty3) → Option Bool) → (Int → Int → Int → Int → Int → Int → Int → List Int → (List ty6) → (List (Int × Int × Int)) → (List ty10) → (List (Int × Int × Int × Int)) → (List (Int × Bool)) → (List ty5) → List Int → List Int → (List ty3) → Option Bool) → Int → Int → Int → Int → Int → Int → Int → Int → List Int → (List ty6) → (List (Int × Int × Int)) → (List ty10) → (List (Int × Int × Int × Int)) → (List (Int × Bool)) → (List ty5) → List Int → List Int → (List ty3) → Option Bool
  | 0, _, _, _, _, _, _, _, _, _, _, _, _, _, _, _, _, _, _, _, _ => none
  | m + 1, e12_0, e12_1, a82, a83, a84, a85, a86, a87, a88, a89, a90, a91, a92, a93, a94, a95, a96, a97, a98, a99 =>
    (bif (decide (a82 < (a96.length : Int))) then
    (bif decide ((0 : Int) ≤ a82 ∧ a82 < (a96.length : Int)) then
    (Option.bind (S.l11Query ((nthI a96 a82 df3).1) a87 a88 a89 a90 a91 a92 a93) fun r102 =>
    (bif (!r102) then
    (e12_0 false a83 a84 a85 a86 a87 a88 a89 a90 a91 a92 a93 a94 a95 a96 a97 a98 a99)
    else
    (bif decide ((0 : Int) ≤ a82 ∧ a82 < (a96.length : Int)) then
    (Option.bind (S.l01Here a87 ((nthI a96 a82 df3).2.2.2.2.1) a90) fun r103 =>
    (bif (!r103) then
    (e12_0 false a83 a84 a85 a86 a87 a88 a89 a90 a91 a92 a93 a94 a95 a96 a97 a98 a99)
    else
    (S.EngOk_l1 m e12_0 e12_1 (IntKind.wrap .i64 (a82 + 1)) a83 a84 a85 a86 a87 a88 a89 a90 a91 a92 a93 a94 a95 a96 a97 a98 a99)))
    else
    none)))
    else
    none)
    else
    (e12_1 a83 a84 a85 a86 a87 a88 a89 a90 a91 a92 a93 a94 a95 a96 a97 a98 a99))
noncomputable def S.EngOk_l2 : Nat → (Bool → Int → Int → Int → Int → Int → Int → Int → List Int → (List ty6) → (List (Int × Int × Int)) → (List ty10) → (List (Int × Int × Int × Int)) → (List (Int × Bool)) → (List ty5) → List Int → List Int → (List ty3) → Option Bool) → (Int → Int → Int → Int → Int → Int → Int → List Int → (List ty6) → (List (Int × Int × Int)) → (List ty10) → (List (Int × Int × Int × Int)) → (List (Int × Bool)) → (List ty5) → List Int → List Int → (List ty3) → Option Bool) → Int → Int → Int → Int → Int → Int → Int → Int → List Int → (List ty6) → (List (Int × Int × Int)) → (List ty10) → (List (Int × Int × Int × Int)) → (List (Int × Bool)) → (List ty5) → List Int → List Int → (List ty3) → Option Bool
  | 0, _, _, _, _, _, _, _, _, _, _, _, _, _, _, _, _, _, _, _, _ => none
  | m + 1, e17_0, e17_1, a140, a141, a142, a143, a144, a145, a146, a147, a148, a149, a150, a151, a152, a153, a154, a155, a156, a157 =>
    (bif (decide (a140 < (a155.length : Int))) then
    (bif decide ((0 : Int) ≤ a140 ∧ a140 < (a155.length : Int)) then
    (bif (decide ((nthI a155 a140 (0 : Int)) < 0)) then
    (e17_0 false a141 a142 a143 a144 a145 a146 a147 a148 a149 a150 a151 a152 a153 a154 a155 a156 a157)
    else
    (bif decide ((0 : Int) ≤ a140 ∧ a140 < (a155.length : Int)) then
    (bif (decide (a147 < (nthI a155 a140 (0 : Int)))) then
    (e17_0 false a141 a142 a143 a144 a145 a146 a147 a148 a149 a150 a151 a152 a153 a154 a155 a156 a157)
    else
    (S.EngOk_l2 m e17_0 e17_1 (IntKind.wrap .i64 (a140 + 1)) a141 a142 a143 a144 a145 a146 a147 a148 a149 a150 a151 a152 a153 a154 a155 a156 a157))
    else
    none))
    else
    none)
    else
    (e17_1 a141 a142 a143 a144 a145 a146 a147 a148 a149 a150 a151 a152 a153 a154 a155 a156 a157))
noncomputable def S.EngOk_l3 : Nat → (Bool → Int → Int → Int → Int → Int → Int → Int → List Int → (List ty6) → (List (Int × Int × Int)) → (List ty10) → (List (Int × Int × Int × Int)) → (List (Int × Bool)) → (List ty5) → List Int → List Int → (List ty3) → Option Bool) → (Int → Int → Int → Int → Int → Int → Int → List Int → (List ty6) → (List (Int × Int × Int)) → (List ty10) → (List (Int × Int × Int × Int)) → (List (Int × Bool)) → (List ty5) → List Int → List Int → (List ty3) → Option Bool) → Int → Int → Int → Int → Int → Int → Int → Int → List Int → (List ty6) → (List (Int × Int × Int)) → (List ty10) → (List (Int × Int × Int × Int)) → (List (Int × Bool)) → (List ty5) → List Int → List Int → (List ty3) → Option Bool
  | 0, _, _, _, _, _, _, _, _, _, _, _, _, _, _, _, _, _, _, _, _ => none
  | m + 1, e22_0, e22_1, a198, a199, a200, a201, a202, a203, a204, a205, a206, a207, a208, a209, a210, a211, a212, a213, a214, a215 =>
    (bif (decide (a198 < (a214.length : Int))) then
    (bif decide ((0 : Int) ≤ a198 ∧ a198 < (a214.length : Int)) then
    (bif (decide ((nthI a214 a198 (0 : Int)) < 0)) then
    (e22_0 false a199 a200 a201 a202 a203 a204 a205 a206 a207 a208 a209 a210 a211 a212 a213 a214 a215)
    else
    (bif decide ((0 : Int) ≤ a198 ∧ a198 < (a214.length : Int)) then
    (bif decide ((0 : Int) ≤ a198 ∧ a198 < (a209.length : Int)) then
    (let v219 : Bool := (decide ((nthI a209 a198 df6).2.2.2.2 < (nthI a214 a198 (0 : Int))))
    (bif v219 then
    (e22_0 false a199 a200 a201 a202 a203 a204 a205 a206 a207 a208 a209 a210 a211 a212 a213 a214 a215)
    else
    (S.EngOk_l3 m e22_0 e22_1 (IntKind.wrap .i64 (a198 + 1)) a199 a200 a201 a202 a203 a204 a205 a206 a207 a208 a209 a210 a211 a212 a213 a214 a215)))
    else
    none)
    else
    none))
    else
    none)
    else
    (e22_1 a199 a200 a201 a202 a203 a204 a205 a206 a207 a208 a209 a210 a211 a212 a213 a214 a215))
noncomputable def S.EngOk_l4 : Nat → (Bool → Option Bool) → (Option Bool) → Int → Int → Int → Int → Int → Int → Int → Int → List Int → (List ty6) → (List (Int × Int × Int)) → (List ty10) → (List (Int × Int × Int × Int)) → (List (Int × Bool)) → (List ty5) → List Int → List Int → (List ty3) → Option Bool
  | 0, _, _, _, _, _, _, _, _, _, _, _, _, _, _, _, _, _, _, _, _ => none
  | m + 1, e27_0, e27_1, a256, a257, a258, a259, a260, a261, a262, a263, a264, a265, a266, a267, a268, a269, a270, a271, a272, a273 =>
    (bif (decide (a256 < (a273.length : Int))) then
    (bif decide ((0 : Int) ≤ a256 ∧ a256 < (a273.length : Int)) then
    (Option.bind (S.BoxOk ((nthI a273 a256 df5).1) ((nthI a273 a256 df5).2.1) ((nthI a273 a256 df5).2.2.1) ((nthI a273 a256 df5).2.2.2.1) ((nthI a273 a256 df5).2.2.2.2.1) ((nthI a273 a256 df5).2.2.2.2.2)) fun r276 =>
    (bif (!r276) then
    (e27_0 false)
    else
    (bif decide ((0 : Int) ≤ a256 ∧ a256 < (a273.length : Int)) then
    (bif decide ((0 : Int) ≤ a256 ∧ a256 < (a266.length : Int)) then
    (let v277 : Bool := ((nthI a273 a256 df5).1 != (nthI a266 a256 df1).2.1)
    (bif v277 then
    (e27_0 false)
    else
    (bif decide ((0 : Int) ≤ a256 ∧ a256 < (a273.length : Int)) then
    (bif decide ((0 : Int) ≤ a256 ∧ a256 < (a266.length : Int)) then
    (let v278 : Bool := ((nthI a273 a256 df5).2.1 != (nthI a266 a256 df1).2.2)
    (bif v278 then
    (e27_0 false)
    else
    (S.EngOk_l4 m e27_0 e27_1 (IntKind.wrap .i64 (a256 + 1)) a257 a258 a259 a260 a261 a262 a263 a264 a265 a266 a267 a268 a269 a270 a271 a272 a273)))
    else
    none)
    else
    none)))
    else
    none)
    else
    none)))
    else
    none)
    else
    e27_1)
noncomputable def S.EngOk (a1 a2 a3 a4 : Int) (a5 : List Int) (a6 : List ty6) (a7 : List (Int × Int × Int)) (a8 : List ty10) (a9 : List (Int × Int × Int × Int)) (a10 : List (Int × Bool)) (a11 : List ty5) (a12 a13 : List Int) (a14 : List ty3) : Option Bool :=
(Option.bind (S.ConfOk a1 a2 a3 a5 a6 a7 a8) fun r15 =>
(bif (!r15) then
(some false)
else
(Option.bind (S.PolicyOk a1 a5 a9) fun r16 =>
(bif (!r16) then
(some false)
else
(Option.bind (S.MarksOk a4 a10) fun r17 =>
(bif (!r17) then
(some false)
else
(bif ((a10.length : Int) != a2) then
(some false)
else
(Option.bind (S.CellsOk a11) fun r19 =>
(bif (!r19) then
(some false)
else
(bif ((a12.length : Int) != a1) then
(some false)
else
(bif ((a13.length : Int) != (a8.length : Int)) then
(some false)
else
(bif ((a14.length : Int) != (a7.length : Int)) then
(some false)
else
(S.EngOk_l0 fu (fun y47 y48 y49 y50 y51 y52 y53 y54 y55 y56 y57 y58 y59 y60 y61 y62 y63 y64 =>
(some y47)) (fun y65 y66 y67 y68 y69 y70 y71 y72 y73 y74 y75 y76 y77 y78 y79 y80 y81 =>
(S.EngOk_l1 fu (fun y105 y106 y107 y108 y109 y110 y111 y112 y113 y114 y115 y116 y117 y118 y119 y120 y121 y122 =>
(some y105)) (fun y123 y124 y125 y126 y127 y128 y129 y130 y131 y132 y133 y134 y135 y136 y137 y138 y139 =>
(S.EngOk_l2 fu (fun y163 y164 y165 y166 y167 y168 y169 y170 y171 y172 y173 y174 y175 y176 y177 y178 y179 y180 =>
(some y163)) (fun y181 y182 y183 y184 y185 y186 y187 y188 y189 y190 y191 y192 y193 y194 y195 y196 y197 =>
(S.EngOk_l3 fu (fun y221 y222 y223 y224 y225 y226 y227 y228 y229 y230 y231 y232 y233 y234 y235 y236 y237 y238 =>
(some y221)) (fun y239 y240 y241 y242 y243 y244 y245 y246 y247 y248 y249 y250 y251 y252 y253 y254 y255 =>
(S.EngOk_l4 fu (fun y280 =>
(some y280)) (some true) 0 y239 y240 y241 y242 y243 y244 y245 y246 y247 y248 y249 y250 y251 y252 y253 y254 y255)) 0 y181 y182 y183 y184 y185 y186 y187 y188 y189 y190 y191 y192 y193 y194 y195 y196 y197)) 0 y123 y124 y125 y126 y127 y128 y129 y130 y131 y132 y133 y134 y135 y136 y137 y138 y139)) 0 y65 y66 y67 y68 y69 y70 y71 y72 y73 y74 y75 y76 y77 y78 y79 y80 y81)) 0 a1 a2 a3 a4 a1 a2 a3 a5 a6 a7 a8 a9 a10 a11 a12 a13 a14)))))))))))))
noncomputable def H35_7 : LoopH := ⟨⟨((.one (.unk)) :: (.one (.ptr 0 0)) :: (.one (.unk)) :: (.one (.ptr 1 0)) :: hh :: (hu 201 [])), [(57, ((.hole) :: (.sl 0) :: (ho 2 [.sl 1, .sl 2, .sl 3, .sl 4, .hole, .sl 5, .sl 6, .sl 7, .sl 8, .sl 9]))), (49, ((.hole) :: (.sl 0) :: (ho 2 [.sl 1, .sl 2, .sl 3])))], [(87, (.int .u64), .ro), (190, sh10, .ro), (126, sh3, .ro), (159, sh4, .ro), (156, sh5, .ro), (225, sh6, .ro), (105, sh7, .ro), (3, (.int .i64), .ro), (3, (.int .i64), .ro), (122, sh11, .ro)]⟩, ([0, 2] ++ rg 5 201), [], ([0] ++ rg 4 202), [], []⟩
noncomputable def k35_7 : List PK := (ki 8 [.row (.int .u64), .row sh10, .row sh3, .row sh4, .row sh5, .row sh6, .row sh7, .row (.int .i64), .row (.int .i64), .row sh11])
noncomputable def W35_7 (m : Nat) (k : Kont Bool) : Cur k35_7 (Option Bool) := S.EngOk_l0 m (exF k .ret ⟨((.one (.unk)) :: (.one (.ptr 0 0)) :: hh :: (.one (.ptr 1 0)) :: (hu 202 [])), [(57, ((.hole) :: (.sl 0) :: (ho 2 [.sl 1, .sl 2, .sl 3, .sl 4, .hole, .sl 5, .sl 6, .sl 7, .sl 8, .sl 9]))), (49, ((.hole) :: (.sl 0) :: (ho 2 [.sl 1, .sl 2, .sl 3])))], [(87, (.int .u64), .ro), (190, sh10, .ro), (126, sh3, .ro), (159, sh4, .ro), (156, sh5, .ro), (225, sh6, .ro), (105, sh7, .ro), (3, (.int .i64), .ro), (3, (.int .i64), .ro), (122, sh11, .ro)]⟩ ((.bool) :: (ki 7 [.row (.int .u64), .row sh10, .row sh3, .row sh4, .row sh5, .row sh6, .row sh7, .row (.int .i64), .row (.int .i64), .row sh11]))) (exF k (.exit 0) ⟨((.one (.unk)) :: (.one (.ptr 0 0)) :: (.one (.unk)) :: (.one (.ptr 1 0)) :: (hu 202 [])), [(57, ((.hole) :: (.sl 0) :: (ho 2 [.sl 1, .sl 2, .sl 3, .sl 4, .hole, .sl 5, .sl 6, .sl 7, .sl 8, .sl 9]))), (49, ((.hole) :: (.sl 0) :: (ho 2 [.sl 1, .sl 2, .sl 3])))], [(87, (.int .u64), .ro), (190, sh10, .ro), (126, sh3, .ro), (159, sh4, .ro), (156, sh5, .ro), (225, sh6, .ro), (105, sh7, .ro), (3, (.int .i64), .ro), (3, (.int .i64), .ro), (122, sh11, .ro)]⟩ (ki 7 [.row (.int .u64), .row sh10, .row sh3, .row sh4, .row sh5, .row sh6, .row sh7, .row (.int .i64), .row (.int .i64), .row sh11]))
noncomputable def E35_7 (m : Nat) : List Prm → Kont Bool → Option Bool := eL k35_7 (W35_7 m)
theorem ev35_7 (m : Nat) (k : Kont Bool) (a : Args k35_7) : evL Tryz.prog G35 loopNil c35_7 (turn Tryz.prog (0, 0) H35_7 (E35_7 m) k) (H35_7.sk.fl (encP k35_7 a)) = unc k35_7 (W35_7 (m + 1) k) a := by kernel_rfl
theorem ok35_7 (m : Nat) : LoopOk Tryz.prog (0, 0) c35_7 (enter Tryz.prog (0, 0) H35_7 (E35_7 m)) := loop_gen (Fl := W35_7) (G := G35) (L := loopNil) (envCons_good good58 (envCons_good good98 (envCons_good good99 (envCons_good good41 (envCons_good good100 (envCons_good good85 (envCons_good good101 envNil_good))))))) (no_loops (c := c35_7) (by kernel_rfl)) (fun _ _ => by kernel_rfl) ev35_7 m
noncomputable def H35_12 : LoopH := ⟨⟨((.one (.unk)) :: (.one (.ptr 0 0)) :: (.one (.unk)) :: (.one (.ptr 1 0)) :: (.one (.unk)) :: hh :: (hu 200 [])), [(57, ((.hole) :: (.sl 0) :: (ho 2 [.sl 1, .sl 2, .sl 3, .sl 4, .hole, .sl 5, .sl 6, .sl 7, .sl 8, .sl 9]))), (49, ((.hole) :: (.sl 0) :: (ho 2 [.sl 1, .sl 2, .sl 3])))], [(87, (.int .u64), .ro), (190, sh10, .ro), (126, sh3, .ro), (159, sh4, .ro), (156, sh5, .ro), (225, sh6, .ro), (105, sh7, .ro), (3, (.int .i64), .ro), (3, (.int .i64), .ro), (122, sh11, .ro)]⟩, ([0, 2, 4] ++ rg 6 200), [], ([0] ++ rg 4 202), [], []⟩
noncomputable def k35_12 : List PK := (ki 8 [.row (.int .u64), .row sh10, .row sh3, .row sh4, .row sh5, .row sh6, .row sh7, .row (.int .i64), .row (.int .i64), .row sh11])
noncomputable def W35_12 (m : Nat) (k : Kont Bool) : Cur k35_12 (Option Bool) := S.EngOk_l1 m (exF k .ret ⟨((.one (.unk)) :: (.one (.ptr 0 0)) :: hh :: (.one (.ptr 1 0)) :: (hu 202 [])), [(57, ((.hole) :: (.sl 0) :: (ho 2 [.sl 1, .sl 2, .sl 3, .sl 4, .hole, .sl 5, .sl 6, .sl 7, .sl 8, .sl 9]))), (49, ((.hole) :: (.sl 0) :: (ho 2 [.sl 1, .sl 2, .sl 3])))], [(87, (.int .u64), .ro), (190, sh10, .ro), (126, sh3, .ro), (159, sh4, .ro), (156, sh5, .ro), (225, sh6, .ro), (105, sh7, .ro), (3, (.int .i64), .ro), (3, (.int .i64), .ro), (122, sh11, .ro)]⟩ ((.bool) :: (ki 7 [.row (.int .u64), .row sh10, .row sh3, .row sh4, .row sh5, .row sh6, .row sh7, .row (.int .i64), .row (.int .i64), .row sh11]))) (exF k (.exit 2) ⟨((.one (.unk)) :: (.one (.ptr 0 0)) :: (.one (.unk)) :: (.one (.ptr 1 0)) :: (hu 202 [])), [(57, ((.hole) :: (.sl 0) :: (ho 2 [.sl 1, .sl 2, .sl 3, .sl 4, .hole, .sl 5, .sl 6, .sl 7, .sl 8, .sl 9]))), (49, ((.hole) :: (.sl 0) :: (ho 2 [.sl 1, .sl 2, .sl 3])))], [(87, (.int .u64), .ro), (190, sh10, .ro), (126, sh3, .ro), (159, sh4, .ro), (156, sh5, .ro), (225, sh6, .ro), (105, sh7, .ro), (3, (.int .i64), .ro), (3, (.int .i64), .ro), (122, sh11, .ro)]⟩ (ki 7 [.row (.int .u64), .row sh10, .row sh3, .row sh4, .row sh5, .row sh6, .row sh7, .row (.int .i64), .row (.int .i64), .row sh11]))
noncomputable def E35_12 (m : Nat) : List Prm → Kont Bool → Option Bool := eL k35_12 (W35_12 m)
theorem ev35_12 (m : Nat) (k : Kont Bool) (a : Args k35_12) : evL Tryz.prog G35 loopNil c35_12 (turn Tryz.prog (0, 0) H35_12 (E35_12 m) k) (H35_12.sk.fl (encP k35_12 a)) = unc k35_12 (W35_12 (m + 1) k) a := by kernel_rfl
theorem ok35_12 (m : Nat) : LoopOk Tryz.prog (0, 0) c35_12 (enter Tryz.prog (0, 0) H35_12 (E35_12 m)) := loop_gen (Fl := W35_12) (G := G35) (L := loopNil) (envCons_good good58 (envCons_good good98 (envCons_good good99 (envCons_good good41 (envCons_good good100 (envCons_good good85 (envCons_good good101 envNil_good))))))) (no_loops (c := c35_12) (by kernel_rfl)) (fun _ _ => by kernel_rfl) ev35_12 m
noncomputable def H35_17 : LoopH := ⟨⟨((.one (.unk)) :: (.one (.ptr 0 0)) :: (.one (.unk)) :: (.one (.ptr 1 0)) :: (hu 2 (hh :: (hu 199 [])))), [(57, ((.hole) :: (.sl 0) :: (ho 2 [.sl 1, .sl 2, .sl 3, .sl 4, .hole, .sl 5, .sl 6, .sl 7, .sl 8, .sl 9]))), (49, ((.hole) :: (.sl 0) :: (ho 2 [.sl 1, .sl 2, .sl 3])))], [(87, (.int .u64), .ro), (190, sh10, .ro), (126, sh3, .ro), (159, sh4, .ro), (156, sh5, .ro), (225, sh6, .ro), (105, sh7, .ro), (3, (.int .i64), .ro), (3, (.int .i64), .ro), (122, sh11, .ro)]⟩, ([0, 2, 4, 5] ++ rg 7 199), [], ([0] ++ rg 4 202), [], []⟩
noncomputable def k35_17 : List PK := (ki 8 [.row (.int .u64), .row sh10, .row sh3, .row sh4, .row sh5, .row sh6, .row sh7, .row (.int .i64), .row (.int .i64), .row sh11])
noncomputable def W35_17 (m : Nat) (k : Kont Bool) : Cur k35_17 (Option Bool) := S.EngOk_l2 m (exF k .ret ⟨((.one (.unk)) :: (.one (.ptr 0 0)) :: hh :: (.one (.ptr 1 0)) :: (hu 202 [])), [(57, ((.hole) :: (.sl 0) :: (ho 2 [.sl 1, .sl 2, .sl 3, .sl 4, .hole, .sl 5, .sl 6, .sl 7, .sl 8, .sl 9]))), (49, ((.hole) :: (.sl 0) :: (ho 2 [.sl 1, .sl 2, .sl 3])))], [(87, (.int .u64), .ro), (190, sh10, .ro), (126, sh3, .ro), (159, sh4, .ro), (156, sh5, .ro), (225, sh6, .ro), (105, sh7, .ro), (3, (.int .i64), .ro), (3, (.int .i64), .ro), (122, sh11, .ro)]⟩ ((.bool) :: (ki 7 [.row (.int .u64), .row sh10, .row sh3, .row sh4, .row sh5, .row sh6, .row sh7, .row (.int .i64), .row (.int .i64), .row sh11]))) (exF k (.exit 4) ⟨((.one (.unk)) :: (.one (.ptr 0 0)) :: (.one (.unk)) :: (.one (.ptr 1 0)) :: (hu 202 [])), [(57, ((.hole) :: (.sl 0) :: (ho 2 [.sl 1, .sl 2, .sl 3, .sl 4, .hole, .sl 5, .sl 6, .sl 7, .sl 8, .sl 9]))), (49, ((.hole) :: (.sl 0) :: (ho 2 [.sl 1, .sl 2, .sl 3])))], [(87, (.int .u64), .ro), (190, sh10, .ro), (126, sh3, .ro), (159, sh4, .ro), (156, sh5, .ro), (225, sh6, .ro), (105, sh7, .ro), (3, (.int .i64), .ro), (3, (.int .i64), .ro), (122, sh11, .ro)]⟩ (ki 7 [.row (.int .u64), .row sh10, .row sh3, .row sh4, .row sh5, .row sh6, .row sh7, .row (.int .i64), .row (.int .i64), .row sh11]))
noncomputable def E35_17 (m : Nat) : List Prm → Kont Bool → Option Bool := eL k35_17 (W35_17 m)
theorem ev35_17 (m : Nat) (k : Kont Bool) (a : Args k35_17) : evL Tryz.prog G35 loopNil c35_17 (turn Tryz.prog (0, 0) H35_17 (E35_17 m) k) (H35_17.sk.fl (encP k35_17 a)) = unc k35_17 (W35_17 (m + 1) k) a := by kernel_rfl
theorem ok35_17 (m : Nat) : LoopOk Tryz.prog (0, 0) c35_17 (enter Tryz.prog (0, 0) H35_17 (E35_17 m)) := loop_gen (Fl := W35_17) (G := G35) (L := loopNil) (envCons_good good58 (envCons_good good98 (envCons_good good99 (envCons_good good41 (envCons_good good100 (envCons_good good85 (envCons_good good101 envNil_good))))))) (no_loops (c := c35_17) (by kernel_rfl)) (fun _ _ => by kernel_rfl) ev35_17 m
noncomputable def H35_22 : LoopH := ⟨⟨((.one (.unk)) :: (.one (.ptr 0 0)) :: (.one (.unk)) :: (.one (.ptr 1 0)) :: (hu 3 (hh :: (hu 198 [])))), [(57, ((.hole) :: (.sl 0) :: (ho 2 [.sl 1, .sl 2, .sl 3, .sl 4, .hole, .sl 5, .sl 6, .sl 7, .sl 8, .sl 9]))), (49, ((.hole) :: (.sl 0) :: (ho 2 [.sl 1, .sl 2, .sl 3])))], [(87, (.int .u64), .ro), (190, sh10, .ro), (126, sh3, .ro), (159, sh4, .ro), (156, sh5, .ro), (225, sh6, .ro), (105, sh7, .ro), (3, (.int .i64), .ro), (3, (.int .i64), .ro), (122, sh11, .ro)]⟩, ([0, 2, 4, 5, 6] ++ rg 8 198), [], ([0] ++ rg 4 202), [], []⟩
noncomputable def k35_22 : List PK := (ki 8 [.row (.int .u64), .row sh10, .row sh3, .row sh4, .row sh5, .row sh6, .row sh7, .row (.int .i64), .row (.int .i64), .row sh11])
noncomputable def W35_22 (m : Nat) (k : Kont Bool) : Cur k35_22 (Option Bool) := S.EngOk_l3 m (exF k .ret ⟨((.one (.unk)) :: (.one (.ptr 0 0)) :: hh :: (.one (.ptr 1 0)) :: (hu 202 [])), [(57, ((.hole) :: (.sl 0) :: (ho 2 [.sl 1, .sl 2, .sl 3, .sl 4, .hole, .sl 5, .sl 6, .sl 7, .sl 8, .sl 9]))), (49, ((.hole) :: (.sl 0) :: (ho 2 [.sl 1, .sl 2, .sl 3])))], [(87, (.int .u64), .ro), (190, sh10, .ro), (126, sh3, .ro), (159, sh4, .ro), (156, sh5, .ro), (225, sh6, .ro), (105, sh7, .ro), (3, (.int .i64), .ro), (3, (.int .i64), .ro), (122, sh11, .ro)]⟩ ((.bool) :: (ki 7 [.row (.int .u64), .row sh10, .row sh3, .row sh4, .row sh5, .row sh6, .row sh7, .row (.int .i64), .row (.int .i64), .row sh11]))) (exF k (.exit 6) ⟨((.one (.unk)) :: (.one (.ptr 0 0)) :: (.one (.unk)) :: (.one (.ptr 1 0)) :: (hu 202 [])), [(57, ((.hole) :: (.sl 0) :: (ho 2 [.sl 1, .sl 2, .sl 3, .sl 4, .hole, .sl 5, .sl 6, .sl 7, .sl 8, .sl 9]))), (49, ((.hole) :: (.sl 0) :: (ho 2 [.sl 1, .sl 2, .sl 3])))], [(87, (.int .u64), .ro), (190, sh10, .ro), (126, sh3, .ro), (159, sh4, .ro), (156, sh5, .ro), (225, sh6, .ro), (105, sh7, .ro), (3, (.int .i64), .ro), (3, (.int .i64), .ro), (122, sh11, .ro)]⟩ (ki 7 [.row (.int .u64), .row sh10, .row sh3, .row sh4, .row sh5, .row sh6, .row sh7, .row (.int .i64), .row (.int .i64), .row sh11]))
noncomputable def E35_22 (m : Nat) : List Prm → Kont Bool → Option Bool := eL k35_22 (W35_22 m)
theorem ev35_22 (m : Nat) (k : Kont Bool) (a : Args k35_22) : evL Tryz.prog G35 loopNil c35_22 (turn Tryz.prog (0, 0) H35_22 (E35_22 m) k) (H35_22.sk.fl (encP k35_22 a)) = unc k35_22 (W35_22 (m + 1) k) a := by kernel_rfl
theorem ok35_22 (m : Nat) : LoopOk Tryz.prog (0, 0) c35_22 (enter Tryz.prog (0, 0) H35_22 (E35_22 m)) := loop_gen (Fl := W35_22) (G := G35) (L := loopNil) (envCons_good good58 (envCons_good good98 (envCons_good good99 (envCons_good good41 (envCons_good good100 (envCons_good good85 (envCons_good good101 envNil_good))))))) (no_loops (c := c35_22) (by kernel_rfl)) (fun _ _ => by kernel_rfl) ev35_22 m
noncomputable def H35_27 : LoopH := ⟨⟨((.one (.unk)) :: (.one (.ptr 0 0)) :: (.one (.unk)) :: (.one (.ptr 1 0)) :: (hu 4 (hh :: (hu 197 [])))), [(57, ((.hole) :: (.sl 0) :: (ho 2 [.sl 1, .sl 2, .sl 3, .sl 4, .hole, .sl 5, .sl 6, .sl 7, .sl 8, .sl 9]))), (49, ((.hole) :: (.sl 0) :: (ho 2 [.sl 1, .sl 2, .sl 3])))], [(87, (.int .u64), .ro), (190, sh10, .ro), (126, sh3, .ro), (159, sh4, .ro), (156, sh5, .ro), (225, sh6, .ro), (105, sh7, .ro), (3, (.int .i64), .ro), (3, (.int .i64), .ro), (122, sh11, .ro)]⟩, ([0, 2] ++ rg 4 4 ++ rg 9 197), [], ([0, 1] ++ rg 3 203), [], []⟩
noncomputable def k35_27 : List PK := (ki 8 [.row (.int .u64), .row sh10, .row sh3, .row sh4, .row sh5, .row sh6, .row sh7, .row (.int .i64), .row (.int .i64), .row sh11])
noncomputable def W35_27 (m : Nat) (k : Kont Bool) : Cur k35_27 (Option Bool) := S.EngOk_l4 m (exF k .ret ⟨(hu 2 (hh :: (hu 203 []))), [], []⟩ [.bool]) (exF k (.exit 8) ⟨(hu 206 []), [], []⟩ [])
noncomputable def E35_27 (m : Nat) : List Prm → Kont Bool → Option Bool := eL k35_27 (W35_27 m)
theorem ev35_27 (m : Nat) (k : Kont Bool) (a : Args k35_27) : evL Tryz.prog G35 loopNil c35_27 (turn Tryz.prog (0, 0) H35_27 (E35_27 m) k) (H35_27.sk.fl (encP k35_27 a)) = unc k35_27 (W35_27 (m + 1) k) a := by kernel_rfl
theorem ok35_27 (m : Nat) : LoopOk Tryz.prog (0, 0) c35_27 (enter Tryz.prog (0, 0) H35_27 (E35_27 m)) := loop_gen (Fl := W35_27) (G := G35) (L := loopNil) (envCons_good good58 (envCons_good good98 (envCons_good good99 (envCons_good good41 (envCons_good good100 (envCons_good good85 (envCons_good good101 envNil_good))))))) (no_loops (c := c35_27) (by kernel_rfl)) (fun _ _ => by kernel_rfl) ev35_27 m
noncomputable def L35 : LEnv Bool := (loopCons 7 (enter Tryz.prog (0, 0) H35_7 (E35_7 fu)) (loopCons 12 (enter Tryz.prog (0, 0) H35_12 (E35_12 fu)) (loopCons 17 (enter Tryz.prog (0, 0) H35_17 (E35_17 fu)) (loopCons 22 (enter Tryz.prog (0, 0) H35_22 (E35_22 fu)) (loopCons 27 (enter Tryz.prog (0, 0) H35_27 (E35_27 fu)) loopNil)))))
theorem lq35 : loopsOf c35 = [c35_7, c35_12, c35_17, c35_22, c35_27] := by kernel_rfl
theorem fr35_7 : firstReg c35_7 = some 7 := by kernel_rfl
theorem le35_7 : L35 7 = enter Tryz.prog (0, 0) H35_7 (E35_7 fu) := by kernel_rfl
theorem fr35_12 : firstReg c35_12 = some 12 := by kernel_rfl
theorem le35_12 : L35 12 = enter Tryz.prog (0, 0) H35_12 (E35_12 fu) := by kernel_rfl
theorem fr35_17 : firstReg c35_17 = some 17 := by kernel_rfl
theorem le35_17 : L35 17 = enter Tryz.prog (0, 0) H35_17 (E35_17 fu) := by kernel_rfl
theorem fr35_22 : firstReg c35_22 = some 22 := by kernel_rfl
theorem le35_22 : L35 22 = enter Tryz.prog (0, 0) H35_22 (E35_22 fu) := by kernel_rfl
theorem fr35_27 : firstReg c35_27 = some 27 := by kernel_rfl
theorem le35_27 : L35 27 = enter Tryz.prog (0, 0) H35_27 (E35_27 fu) := by kernel_rfl
theorem lm35 : ∀ x ∈ [c35_7, c35_12, c35_17, c35_22, c35_27], ∀ id, firstReg x = some id → LoopOk Tryz.prog (0, 0) x (L35 id) := (loops_cons fr35_7 le35_7 (ok35_7 fu) (loops_cons fr35_12 le35_12 (ok35_12 fu) (loops_cons fr35_17 le35_17 (ok35_17 fu) (loops_cons fr35_22 le35_22 (ok35_22 fu) (loops_cons fr35_27 le35_27 (ok35_27 fu) loops_nil)))))
theorem lp35 : ∀ x ∈ loopsOf c35, ∀ id, firstReg x = some id → LoopOk Tryz.prog (0, 0) x (L35 id) := loops_eq lq35 lm35
noncomputable def sg35 : Sg := ⟨⟨[.agg ((.hole) :: (.sl 0) :: (ho 2 [.sl 1, .sl 2, .sl 3, .sl 4, .hole, .sl 5, .sl 6, .sl 7, .sl 8, .sl 9]))], [], [(87, (.int .u64), .ro), (190, sh10, .ro), (126, sh3, .ro), (159, sh4, .ro), (156, sh5, .ro), (225, sh6, .ro), (105, sh7, .ro), (3, (.int .i64), .ro), (3, (.int .i64), .ro), (122, sh11, .ro)]⟩, (ki 4 [.row (.int .u64), .row sh10, .row sh3, .row sh4, .row sh5, .row sh6, .row sh7, .row (.int .i64), .row (.int .i64), .row sh11]), ⟨[hh], [], []⟩, [.bool]⟩
noncomputable def E35 : Fun2 := eOf sg35 S.EngOk
theorem ev35 (a : Args sg35.ks) : evS Tryz.prog G35 L35 (0, 0) [] Tryz.f35 c35 (kOf sg35) (sg35.sk.fl (encP sg35.ks a)) = unc sg35.ks S.EngOk a := by kernel_rfl
theorem good35 : Vm.Good Tryz.prog 35 E35 := good_gen (G := G35) (L := L35) (c := c35) (rn := []) (N := (0, 0)) (envCons_good good58 (envCons_good good98 (envCons_good good99 (envCons_good good41 (envCons_good good100 (envCons_good good85 (envCons_good good101 envNil_good))))))) lp35 Tryz.func35 (by kernel_rfl) (by kernel_rfl) (fun _ => by kernel_rfl) ev35
noncomputable def G127 : Env := envNil
noncomputable def c127 : Code := bodyOf Tryz.f127
noncomputable def I.in (a1 a2 a3 : Int) : Option Bool :=
(bif (decide (a2 ≤ a1)) then
(some (decide (a1 ≤ a3)))
else
(some false))
noncomputable def sg127 : Sg := ⟨⟨[hh, hh, hh], [], []⟩, (ki 3 []), ⟨[hh], [], []⟩, [.bool]⟩
noncomputable def E127 : Fun2 := eOf sg127 I.in
theorem ev127 (a : Args sg127.ks) : evS Tryz.prog G127 loopNil (0, 0) [] Tryz.f127 c127 (kOf sg127) (sg127.sk.fl (encP sg127.ks a)) = unc sg127.ks I.in a := by kernel_rfl
theorem good127 : Vm.Good Tryz.prog 127 E127 := good_gen (G := G127) (L := loopNil) (c := c127) (rn := []) (N := (0, 0)) envNil_good (no_loops (c := c127) (by kernel_rfl)) Tryz.func127 (by kernel_rfl) (by kernel_rfl) (fun _ => by kernel_rfl) ev127
noncomputable def G170 : Env := envNil
noncomputable def c170 : Code := bodyOf Tryz.f170
noncomputable def I.Lat_le (a1 a2 a3 : Int) (a4 : List Int) : Option Bool :=
(bif decide ((0 : Int) ≤ a2 ∧ a2 < (a4.length : Int)) then
(bif decide ((0 : Int) ≤ a3) then
(let v5 : Int := (Int.fdiv (nthI a4 a2 (0 : Int)) (2 ^ min (Int.toNat a3) (IntKind.bits .u64)))
(some ((Go.bits .and .u64 v5 1) == 1)))
else
none)
else
none)
noncomputable def sg170 : Sg := ⟨⟨[.agg [.hole, .sl 0], hh, hh], [], [(87, (.int .u64), .ro)]⟩, (ki 3 [.row (.int .u64)]), ⟨[hh], [], []⟩, [.bool]⟩
noncomputable def E170 : Fun2 := eOf sg170 I.Lat_le
theorem ev170 (a : Args sg170.ks) : evS Tryz.prog G170 loopNil (0, 0) [] Tryz.f170 c170 (kOf sg170) (sg170.sk.fl (encP sg170.ks a)) = unc sg170.ks I.Lat_le a := by kernel_rfl
theorem good170 : Vm.Good Tryz.prog 170 E170 := good_gen (G := G170) (L := loopNil) (c := c170) (rn := []) (N := (0, 0)) envNil_good (no_loops (c := c170) (by kernel_rfl)) Tryz.func170 (by kernel_rfl) (by kernel_rfl) (fun _ => by kernel_rfl) ev170
noncomputable def G223 : Env := (envCons 170 [] E170 envNil)
noncomputable def c223 : Code := bodyOf Tryz.f223
noncomputable def c223_2 : Code := (loopsOf c223).getD 0 .skip
noncomputable def c223_7 : Code := (loopsOf c223_2).getD 0 .skip
noncomputable def c223_12 : Code := (loopsOf c223_7).getD 0 .skip
noncomputable def I.Lat_isOrder_l2 : Nat → (Bool → Int → Int → Int → Int → Int → Int → List Int → Option Bool) → (Int → Int → Int → Int → Int → Int → List Int → Option Bool) → Int → Int → Int → Int → Int → Int → Int → Int → Int → List Int → Option Bool
  | 0, _, _, _, _, _, _, _, _, _, _, _, _ => none
  | m + 1, e12_0, e12_1, a19, a20, a21, a22, a23, a24, a25, a26, a27, a28 =>
    (bif (decide (a26 < a25)) then
    (Option.bind (I.Lat_le a27 a19 a20 a28) fun r30 =>
    (bif r30 then
    (Option.bind (I.Lat_le a27 a20 a26 a28) fun r31 =>
    (bif r31 then
    (Option.bind (I.Lat_le a27 a19 a26 a28) fun r32 =>
    (bif (!r32) then
    (e12_0 false a19 a21 a22 a23 a24 a27 a28)
    else
    (I.Lat_isOrder_l2 m e12_0 e12_1 a19 a20 a21 a22 a23 a24 a25 (IntKind.wrap .i64 (a26 + 1)) a27 a28)))
    else
    (I.Lat_isOrder_l2 m e12_0 e12_1 a19 a20 a21 a22 a23 a24 a25 (IntKind.wrap .i64 (a26 + 1)) a27 a28)))
    else
    (I.Lat_isOrder_l2 m e12_0 e12_1 a19 a20 a21 a22 a23 a24 a25 (IntKind.wrap .i64 (a26 + 1)) a27 a28)))
    else
    (e12_1 a19 a21 a22 a23 a24 a27 a28))
noncomputable def I.Lat_isOrder_l1 : Nat → (Bool → Int → Int → Int → List Int → Option Bool) → (Int → Int → Int → List Int → Option Bool) → Int → Int → Int → Int → Int → Int → List Int → Option Bool
  | 0, _, _, _, _, _, _, _, _, _ => none
  | m + 1, e7_0, e7_1, a9, a10, a11, a12, a13, a14, a15 =>
    (bif (decide (a13 < a12)) then
    (bif (a9 != a13) then
    (Option.bind (I.Lat_le a14 a9 a13 a15) fun r17 =>
    (bif r17 then
    (Option.bind (I.Lat_le a14 a13 a9 a15) fun r18 =>
    (bif r18 then
    (e7_0 false a10 a11 a14 a15)
    else
    (I.Lat_isOrder_l2 fu (fun y36 y37 y38 y39 y40 y41 y42 y43 =>
    (e7_0 y36 y38 y39 y42 y43)) (fun y44 y45 y46 y47 y48 y49 y50 =>
    (I.Lat_isOrder_l1 m e7_0 e7_1 y44 y45 y46 y47 (IntKind.wrap .i64 (y48 + 1)) y49 y50)) a9 a13 a10 a11 a12 a13 a14 0 a14 a15)))
    else
    (I.Lat_isOrder_l2 fu (fun y52 y53 y54 y55 y56 y57 y58 y59 =>
    (e7_0 y52 y54 y55 y58 y59)) (fun y60 y61 y62 y63 y64 y65 y66 =>
    (I.Lat_isOrder_l1 m e7_0 e7_1 y60 y61 y62 y63 (IntKind.wrap .i64 (y64 + 1)) y65 y66)) a9 a13 a10 a11 a12 a13 a14 0 a14 a15)))
    else
    (I.Lat_isOrder_l2 fu (fun y68 y69 y70 y71 y72 y73 y74 y75 =>
    (e7_0 y68 y70 y71 y74 y75)) (fun y76 y77 y78 y79 y80 y81 y82 =>
    (I.Lat_isOrder_l1 m e7_0 e7_1 y76 y77 y78 y79 (IntKind.wrap .i64 (y80 + 1)) y81 y82)) a9 a13 a10 a11 a12 a13 a14 0 a14 a15))
    else
    (e7_1 a10 a11 a14 a15))
noncomputable def I.Lat_isOrder_l0 : Nat → (Bool → Option Bool) → (Option Bool) → Int → Int → Int → List Int → Option Bool
  | 0, _, _, _, _, _, _ => none
  | m + 1, e2_0, e2_1, a3, a4, a5, a6 =>
    (bif (decide (a4 < a3)) then
    (Option.bind (I.Lat_le a5 a4 a4 a6) fun r8 =>
    (bif (!r8) then
    (e2_0 false)
    else
    (I.Lat_isOrder_l1 fu (fun y84 y85 y86 y87 y88 =>
    (e2_0 y84)) (fun y89 y90 y91 y92 =>
    (I.Lat_isOrder_l0 m e2_0 e2_1 y89 (IntKind.wrap .i64 (y90 + 1)) y91 y92)) a4 a3 a4 a5 0 a5 a6)))
    else
    e2_1)
noncomputable def I.Lat_isOrder (a1 : Int) (a2 : List Int) : Option Bool :=
(I.Lat_isOrder_l0 fu (fun y94 =>
(some y94)) (some true) a1 0 a1 a2)
noncomputable def H223_12 : LoopH := ⟨⟨((.one (.unk)) :: (.one (.ptr 0 0)) :: (.one (.unk)) :: hh :: hh :: (hu 2 (hh :: hh :: (hu 8 (hh :: hh :: (hu 18 (hh :: hh :: (hu 22 [])))))))), [(44, [.hole, .sl 0])], [(87, (.int .u64), .ro)]⟩, ([0, 2, 5, 6] ++ rg 9 8 ++ rg 19 18 ++ rg 39 22), [], ([0, 4, 5, 6] ++ rg 9 8 ++ rg 19 42), [], []⟩
noncomputable def k223_12 : List PK := (ki 9 [.row (.int .u64)])
noncomputable def W223_12 (m : Nat) (k : Kont Bool) : Cur k223_12 (Option Bool) := I.Lat_isOrder_l2 m (exF k .ret ⟨((.one (.unk)) :: (.one (.ptr 0 0)) :: hh :: hh :: (hu 3 (hh :: hh :: (hu 8 (hh :: hh :: (hu 42 [])))))), [(44, [.hole, .sl 0])], [(87, (.int .u64), .ro)]⟩ ((.bool) :: (ki 6 [.row (.int .u64)]))) (exF k (.exit 4) ⟨((.one (.unk)) :: (.one (.ptr 0 0)) :: (.one (.unk)) :: hh :: (hu 3 (hh :: hh :: (hu 8 (hh :: hh :: (hu 42 [])))))), [(44, [.hole, .sl 0])], [(87, (.int .u64), .ro)]⟩ (ki 6 [.row (.int .u64)]))
noncomputable def E223_12 (m : Nat) : List Prm → Kont Bool → Option Bool := eL k223_12 (W223_12 m)
theorem ev223_12 (m : Nat) (k : Kont Bool) (a : Args k223_12) : evL Tryz.prog G223 loopNil c223_12 (turn Tryz.prog (0, 0) H223_12 (E223_12 m) k) (H223_12.sk.fl (encP k223_12 a)) = unc k223_12 (W223_12 (m + 1) k) a := by kernel_rfl
theorem ok223_12 (m : Nat) : LoopOk Tryz.prog (0, 0) c223_12 (enter Tryz.prog (0, 0) H223_12 (E223_12 m)) := loop_gen (Fl := W223_12) (G := G223) (L := loopNil) (envCons_good good170 envNil_good) (no_loops (c := c223_12) (by kernel_rfl)) (fun _ _ => by kernel_rfl) ev223_12 m
noncomputable def L223_7 : LEnv Bool := (loopCons 12 (enter Tryz.prog (0, 0) H223_12 (E223_12 fu)) loopNil)
theorem lq223_7 : loopsOf c223_7 = [c223_12] := by kernel_rfl
theorem fr223_12 : firstReg c223_12 = some 12 := by kernel_rfl
theorem le223_12 : L223_7 12 = enter Tryz.prog (0, 0) H223_12 (E223_12 fu) := by kernel_rfl
theorem lm223_7 : ∀ x ∈ [c223_12], ∀ id, firstReg x = some id → LoopOk Tryz.prog (0, 0) x (L223_7 id) := (loops_cons fr223_12 le223_12 (ok223_12 fu) loops_nil)
theorem lp223_7 : ∀ x ∈ loopsOf c223_7, ∀ id, firstReg x = some id → LoopOk Tryz.prog (0, 0) x (L223_7 id) := loops_eq lq223_7 lm223_7
noncomputable def H223_7 : LoopH := ⟨⟨((.one (.unk)) :: (.one (.ptr 0 0)) :: (.one (.unk)) :: hh :: (hu 3 (hh :: hh :: (hu 8 (hh :: hh :: (hu 42 [])))))), [(44, [.hole, .sl 0])], [(87, (.int .u64), .ro)]⟩, ([0, 2, 4, 5, 6] ++ rg 9 8 ++ rg 19 42), [], ([0] ++ rg 3 4 ++ rg 9 52), [], []⟩
noncomputable def k223_7 : List PK := (ki 6 [.row (.int .u64)])
noncomputable def W223_7 (m : Nat) (k : Kont Bool) : Cur k223_7 (Option Bool) := I.Lat_isOrder_l1 m (exF k .ret ⟨((.one (.unk)) :: (.one (.ptr 0 0)) :: hh :: (hu 4 (hh :: hh :: (hu 52 [])))), [(44, [.hole, .sl 0])], [(87, (.int .u64), .ro)]⟩ ((.bool) :: (ki 3 [.row (.int .u64)]))) (exF k (.exit 2) ⟨((.one (.unk)) :: (.one (.ptr 0 0)) :: (hu 5 (hh :: hh :: (hu 52 [])))), [(44, [.hole, .sl 0])], [(87, (.int .u64), .ro)]⟩ (ki 3 [.row (.int .u64)]))
noncomputable def E223_7 (m : Nat) : List Prm → Kont Bool → Option Bool := eL k223_7 (W223_7 m)
theorem ev223_7 (m : Nat) (k : Kont Bool) (a : Args k223_7) : evL Tryz.prog G223 L223_7 c223_7 (turn Tryz.prog (0, 0) H223_7 (E223_7 m) k) (H223_7.sk.fl (encP k223_7 a)) = unc k223_7 (W223_7 (m + 1) k) a := by kernel_rfl
theorem ok223_7 (m : Nat) : LoopOk Tryz.prog (0, 0) c223_7 (enter Tryz.prog (0, 0) H223_7 (E223_7 m)) := loop_gen (Fl := W223_7) (G := G223) (L := L223_7) (envCons_good good170 envNil_good) lp223_7 (fun _ _ => by kernel_rfl) ev223_7 m
noncomputable def L223_2 : LEnv Bool := (loopCons 7 (enter Tryz.prog (0, 0) H223_7 (E223_7 fu)) loopNil)
theorem lq223_2 : loopsOf c223_2 = [c223_7] := by kernel_rfl
theorem fr223_7 : firstReg c223_7 = some 7 := by kernel_rfl
theorem le223_7 : L223_2 7 = enter Tryz.prog (0, 0) H223_7 (E223_7 fu) := by kernel_rfl
theorem lm223_2 : ∀ x ∈ [c223_7], ∀ id, firstReg x = some id → LoopOk Tryz.prog (0, 0) x (L223_2 id) := (loops_cons fr223_7 le223_7 (ok223_7 fu) loops_nil)
theorem lp223_2 : ∀ x ∈ loopsOf c223_2, ∀ id, firstReg x = some id → LoopOk Tryz.prog (0, 0) x (L223_2 id) := loops_eq lq223_2 lm223_2
noncomputable def H223_2 : LoopH := ⟨⟨((.one (.unk)) :: (.one (.ptr 0 0)) :: (hu 5 (hh :: hh :: (hu 52 [])))), [(44, [.hole, .sl 0])], [(87, (.int .u64), .ro)]⟩, ([0] ++ rg 2 5 ++ rg 9 52), [], ([0, 1] ++ rg 3 58), [], []⟩
noncomputable def k223_2 : List PK := (ki 3 [.row (.int .u64)])
noncomputable def W223_2 (m : Nat) (k : Kont Bool) : Cur k223_2 (Option Bool) := I.Lat_isOrder_l0 m (exF k .ret ⟨(hu 2 (hh :: (hu 58 []))), [], []⟩ [.bool]) (exF k (.exit 0) ⟨(hu 61 []), [], []⟩ [])
noncomputable def E223_2 (m : Nat) : List Prm → Kont Bool → Option Bool := eL k223_2 (W223_2 m)
theorem ev223_2 (m : Nat) (k : Kont Bool) (a : Args k223_2) : evL Tryz.prog G223 L223_2 c223_2 (turn Tryz.prog (0, 0) H223_2 (E223_2 m) k) (H223_2.sk.fl (encP k223_2 a)) = unc k223_2 (W223_2 (m + 1) k) a := by kernel_rfl
theorem ok223_2 (m : Nat) : LoopOk Tryz.prog (0, 0) c223_2 (enter Tryz.prog (0, 0) H223_2 (E223_2 m)) := loop_gen (Fl := W223_2) (G := G223) (L := L223_2) (envCons_good good170 envNil_good) lp223_2 (fun _ _ => by kernel_rfl) ev223_2 m
noncomputable def L223 : LEnv Bool := (loopCons 2 (enter Tryz.prog (0, 0) H223_2 (E223_2 fu)) loopNil)
theorem lq223 : loopsOf c223 = [c223_2] := by kernel_rfl
theorem fr223_2 : firstReg c223_2 = some 2 := by kernel_rfl
theorem le223_2 : L223 2 = enter Tryz.prog (0, 0) H223_2 (E223_2 fu) := by kernel_rfl
theorem lm223 : ∀ x ∈ [c223_2], ∀ id, firstReg x = some id → LoopOk Tryz.prog (0, 0) x (L223 id) := (loops_cons fr223_2 le223_2 (ok223_2 fu) loops_nil)
theorem lp223 : ∀ x ∈ loopsOf c223, ∀ id, firstReg x = some id → LoopOk Tryz.prog (0, 0) x (L223 id) := loops_eq lq223 lm223
noncomputable def sg223 : Sg := ⟨⟨[.agg [.hole, .sl 0]], [], [(87, (.int .u64), .ro)]⟩, [.int .i64, .row (.int .u64)], ⟨[hh], [], []⟩, [.bool]⟩
noncomputable def E223 : Fun2 := eOf sg223 I.Lat_isOrder
theorem ev223 (a : Args sg223.ks) : evS Tryz.prog G223 L223 (0, 0) [] Tryz.f223 c223 (kOf sg223) (sg223.sk.fl (encP sg223.ks a)) = unc sg223.ks I.Lat_isOrder a := by kernel_rfl
theorem good223 : Vm.Good Tryz.prog 223 E223 := good_gen (G := G223) (L := L223) (c := c223) (rn := []) (N := (0, 0)) (envCons_good good170 envNil_good) lp223 Tryz.func223 (by kernel_rfl) (by kernel_rfl) (fun _ => by kernel_rfl) ev223
noncomputable def G271 : Env := (envCons 170 [] E170 envNil)
noncomputable def c271 : Code := bodyOf Tryz.f271
noncomputable def I.Lat_bound_1 (a1 a2 : Int) (a3 : Bool) (a4 : Int) (a5 : List Int) : Option (Bool × Bool × Int × List Int) :=
(bif a3 then
(Option.bind (I.Lat_le a4 a1 a2 a5) fun r6 =>
(some (r6, a3, a4, a5)))
else
(Option.bind (I.Lat_le a4 a2 a1 a5) fun r7 =>
(some (r7, a3, a4, a5))))
noncomputable def sg271 : Sg := ⟨⟨[hh, hh, .one (.ptr 0 0), .one (.ptr 1 0)], [(4, [.hole]), (44, [.hole, .sl 0])], [(87, (.int .u64), .rop)]⟩, (ki 2 [.bool, .int .i64, .row (.int .u64)]), ⟨[hh], [(4, [.hole]), (44, [.hole, .sl 0])], [(87, (.int .u64), .rop)]⟩, [.bool, .bool, .int .i64, .row (.int .u64)]⟩
noncomputable def E271 : Fun2 := eOf sg271 I.Lat_bound_1
theorem ev271 (a : Args sg271.ks) : evS Tryz.prog G271 loopNil (2, 1) [] Tryz.f271 c271 (kOf sg271) (sg271.sk.fl (encP sg271.ks a)) = unc sg271.ks I.Lat_bound_1 a := by kernel_rfl
theorem good271 : Vm.Good Tryz.prog 271 E271 := good_gen (G := G271) (L := loopNil) (c := c271) (rn := []) (N := (2, 1)) (envCons_good good170 envNil_good) (no_loops (c := c271) (by kernel_rfl)) Tryz.func271 (by kernel_rfl) (by kernel_rfl) (fun _ => by kernel_rfl) ev271
noncomputable def G224 : Env := (envCons 271 [] E271 envNil)
noncomputable def c224 : Code := bodyOf Tryz.f224
noncomputable def c224_3 : Code := (loopsOf c224).getD 0 .skip
noncomputable def c224_8 : Code := (loopsOf c224_3).getD 0 .skip
noncomputable def I.Lat_bound_l1 : Nat → (Int → Int → Int → Bool → Int → Int → Int → Bool → List Int → Option Int) → Int → Int → Int → Bool → Int → Int → Int → Int → Int → Bool → List Int → Option Int
  | 0, _, _, _, _, _, _, _, _, _, _, _, _ => none
  | m + 1, e8_0, a18, a19, a20, a21, a22, a23, a24, a25, a26, a27, a28 =>
    (bif (decide (a25 < a24)) then
    (Option.bind (I.Lat_bound_1 a18 a25 a27 a26 a28) fun r30 =>
    (bif r30.1 then
    (Option.bind (I.Lat_bound_1 a19 a25 r30.2.1 r30.2.2.1 a28) fun r31 =>
    (bif r31.1 then
    (Option.bind (I.Lat_bound_1 a20 a25 r31.2.1 r31.2.2.1 a28) fun r32 =>
    (bif (!r32.1) then
    (I.Lat_bound_l1 m e8_0 a18 a19 a20 false a22 a23 a24 (IntKind.wrap .i64 (a25 + 1)) r32.2.2.1 r32.2.1 a28)
    else
    (I.Lat_bound_l1 m e8_0 a18 a19 a20 a21 a22 a23 a24 (IntKind.wrap .i64 (a25 + 1)) r32.2.2.1 r32.2.1 a28)))
    else
    (I.Lat_bound_l1 m e8_0 a18 a19 a20 a21 a22 a23 a24 (IntKind.wrap .i64 (a25 + 1)) r31.2.2.1 r31.2.1 a28)))
    else
    (I.Lat_bound_l1 m e8_0 a18 a19 a20 a21 a22 a23 a24 (IntKind.wrap .i64 (a25 + 1)) r30.2.2.1 r30.2.1 a28)))
    else
    (e8_0 a18 a19 a20 a21 a22 a23 a26 a27 a28))
noncomputable def I.Lat_bound_l0 : Nat → (Int → Option Int) → (Option Int) → Int → Int → Int → Int → Int → Bool → List Int → Option Int
  | 0, _, _, _, _, _, _, _, _, _ => none
  | m + 1, e3_0, e3_1, a6, a7, a8, a9, a10, a11, a12 =>
    (bif (decide (a9 < a8)) then
    (Option.bind (I.Lat_bound_1 a6 a9 a11 a10 a12) fun r14 =>
    (bif (!r14.1) then
    (I.Lat_bound_l0 m e3_0 e3_1 a6 a7 a8 (IntKind.wrap .i64 (a9 + 1)) r14.2.2.1 r14.2.1 a12)
    else
    (Option.bind (I.Lat_bound_1 a7 a9 r14.2.1 r14.2.2.1 a12) fun r16 =>
    (bif (!r16.1) then
    (I.Lat_bound_l0 m e3_0 e3_1 a6 a7 a8 (IntKind.wrap .i64 (a9 + 1)) r16.2.2.1 r16.2.1 a12)
    else
    (I.Lat_bound_l1 fu (fun y37 y38 y39 y40 y41 y42 y43 y44 y45 =>
    (bif y40 then
    (e3_0 y39)
    else
    (I.Lat_bound_l0 m e3_0 e3_1 y37 y38 y41 (IntKind.wrap .i64 (y42 + 1)) y43 y44 y45))) a6 a7 a9 true a8 a9 r16.2.2.1 0 r16.2.2.1 r16.2.1 a12)))))
    else
    e3_1)
noncomputable def I.Lat_bound (a1 a2 a3 : Int) (a4 : Bool) (a5 : List Int) : Option Int :=
(I.Lat_bound_l0 fu (fun y47 =>
(some y47)) (some (-1)) a2 a3 a1 0 a1 a4 a5)
noncomputable def H224_8 : LoopH := ⟨⟨((.one (.unk)) :: hh :: hh :: (.one (.unk)) :: (.one (.ptr 0 0)) :: (hu 4 ((.one (.fn 271 [(1, 0), (0, 0)])) :: hh :: hh :: (hu 3 (hh :: hh :: (hu 15 (hh :: hh :: (hu 23 [])))))))), [(44, [.hole, .sl 0]), (4, [.hole])], [(87, (.int .u64), .ro)]⟩, ([0, 3] ++ rg 5 4 ++ [12, 13, 14] ++ rg 17 15 ++ rg 34 23), [], ([0, 3, 5, 6, 7, 12, 13, 14] ++ rg 17 40), [], []⟩
noncomputable def k224_8 : List PK := (ki 3 ((.bool) :: (ki 5 [.bool, .row (.int .u64)])))
noncomputable def W224_8 (m : Nat) (k : Kont Int) : Cur k224_8 (Option Int) := I.Lat_bound_l1 m (exF k (.exit 2) ⟨((.one (.unk)) :: hh :: hh :: (.one (.unk)) :: (.one (.ptr 0 0)) :: (hu 4 ((.one (.fn 271 [(1, 0), (0, 0)])) :: hh :: hh :: (hu 3 (hh :: hh :: (hu 40 [])))))), [(44, [.hole, .sl 0]), (4, [.hole])], [(87, (.int .u64), .ro)]⟩ (ki 3 ((.bool) :: (ki 3 [.bool, .row (.int .u64)]))))
noncomputable def E224_8 (m : Nat) : List Prm → Kont Int → Option Int := eL k224_8 (W224_8 m)
theorem ev224_8 (m : Nat) (k : Kont Int) (a : Args k224_8) : evL Tryz.prog G224 loopNil c224_8 (turn Tryz.prog (0, 0) H224_8 (E224_8 m) k) (H224_8.sk.fl (encP k224_8 a)) = unc k224_8 (W224_8 (m + 1) k) a := by kernel_rfl
theorem ok224_8 (m : Nat) : LoopOk Tryz.prog (0, 0) c224_8 (enter Tryz.prog (0, 0) H224_8 (E224_8 m)) := loop_gen (Fl := W224_8) (G := G224) (L := loopNil) (envCons_good good271 envNil_good) (no_loops (c := c224_8) (by kernel_rfl)) (fun _ _ => by kernel_rfl) ev224_8 m
noncomputable def L224_3 : LEnv Int := (loopCons 8 (enter Tryz.prog (0, 0) H224_8 (E224_8 fu)) loopNil)
theorem lq224_3 : loopsOf c224_3 = [c224_8] := by kernel_rfl
theorem fr224_8 : firstReg c224_8 = some 8 := by kernel_rfl
theorem le224_8 : L224_3 8 = enter Tryz.prog (0, 0) H224_8 (E224_8 fu) := by kernel_rfl
theorem lm224_3 : ∀ x ∈ [c224_8], ∀ id, firstReg x = some id → LoopOk Tryz.prog (0, 0) x (L224_3 id) := (loops_cons fr224_8 le224_8 (ok224_8 fu) loops_nil)
theorem lp224_3 : ∀ x ∈ loopsOf c224_3, ∀ id, firstReg x = some id → LoopOk Tryz.prog (0, 0) x (L224_3 id) := loops_eq lq224_3 lm224_3
noncomputable def H224_3 : LoopH := ⟨⟨((.one (.unk)) :: hh :: hh :: (.one (.unk)) :: (.one (.ptr 0 0)) :: (hu 4 ((.one (.fn 271 [(1, 0), (0, 0)])) :: (hu 5 (hh :: hh :: (hu 40 [])))))), [(44, [.hole, .sl 0]), (4, [.hole])], [(87, (.int .u64), .ro)]⟩, ([0, 3] ++ rg 5 4 ++ rg 10 5 ++ rg 17 40), [], (rg 0 8 ++ rg 9 48), [], []⟩
noncomputable def k224_3 : List PK := (ki 5 [.bool, .row (.int .u64)])
noncomputable def W224_3 (m : Nat) (k : Kont Int) : Cur k224_3 (Option Int) := I.Lat_bound_l0 m (exF k .ret ⟨(hu 8 (hh :: (hu 48 []))), [], []⟩ [.int .i64]) (exF k (.exit 0) ⟨(hu 57 []), [], []⟩ [])
noncomputable def E224_3 (m : Nat) : List Prm → Kont Int → Option Int := eL k224_3 (W224_3 m)
theorem ev224_3 (m : Nat) (k : Kont Int) (a : Args k224_3) : evL Tryz.prog G224 L224_3 c224_3 (turn Tryz.prog (0, 0) H224_3 (E224_3 m) k) (H224_3.sk.fl (encP k224_3 a)) = unc k224_3 (W224_3 (m + 1) k) a := by kernel_rfl
theorem ok224_3 (m : Nat) : LoopOk Tryz.prog (0, 0) c224_3 (enter Tryz.prog (0, 0) H224_3 (E224_3 m)) := loop_gen (Fl := W224_3) (G := G224) (L := L224_3) (envCons_good good271 envNil_good) lp224_3 (fun _ _ => by kernel_rfl) ev224_3 m
noncomputable def L224 : LEnv Int := (loopCons 3 (enter Tryz.prog (0, 0) H224_3 (E224_3 fu)) loopNil)
theorem lq224 : loopsOf c224 = [c224_3] := by kernel_rfl
theorem fr224_3 : firstReg c224_3 = some 3 := by kernel_rfl
theorem le224_3 : L224 3 = enter Tryz.prog (0, 0) H224_3 (E224_3 fu) := by kernel_rfl
theorem lm224 : ∀ x ∈ [c224_3], ∀ id, firstReg x = some id → LoopOk Tryz.prog (0, 0) x (L224 id) := (loops_cons fr224_3 le224_3 (ok224_3 fu) loops_nil)
theorem lp224 : ∀ x ∈ loopsOf c224, ∀ id, firstReg x = some id → LoopOk Tryz.prog (0, 0) x (L224 id) := loops_eq lq224 lm224
noncomputable def sg224 : Sg := ⟨⟨[.agg [.hole, .sl 0], hh, hh, hh], [], [(87, (.int .u64), .ro)]⟩, (ki 3 [.bool, .row (.int .u64)]), ⟨[hh], [], []⟩, [.int .i64]⟩
noncomputable def E224 : Fun2 := eOf sg224 I.Lat_bound
theorem ev224 (a : Args sg224.ks) : evS Tryz.prog G224 L224 (0, 0) [] Tryz.f224 c224 (kOf sg224) (sg224.sk.fl (encP sg224.ks a)) = unc sg224.ks I.Lat_bound a := by kernel_rfl
theorem good224 : Vm.Good Tryz.prog 224 E224 := good_gen (G := G224) (L := L224) (c := c224) (rn := []) (N := (0, 0)) (envCons_good good271 envNil_good) lp224 Tryz.func224 (by kernel_rfl) (by kernel_rfl) (fun _ => by kernel_rfl) ev224
noncomputable def G145 : Env := (envCons 127 [] E127 (envCons 223 [] E223 (envCons 224 [] E224 envNil)))
noncomputable def c145 : Code := bodyOf Tryz.f145
noncomputable def c145_4 : Code := (loopsOf c145).getD 0 .skip
noncomputable def c145_12 : Code := (loopsOf c145).getD 1 .skip
noncomputable def c145_15 : Code := (loopsOf c145_12).getD 0 .skip
noncomputable def I.isLat_l0 : Nat → (Bool → Int → List Int → Option Bool) → (Int → List Int → Option Bool) → Int → Int → Int → List Int → Option Bool
  | 0, _, _, _, _, _, _ => none
  | m + 1, e4_0, e4_1, a6, a7, a8, a9 =>
    (bif (decide (a7 < a6)) then
    (bif decide ((0 : Int) ≤ a7 ∧ a7 < (a9.length : Int)) then
    (bif decide ((0 : Int) ≤ a8) then
    (bif ((Int.fdiv (nthI a9 a7 (0 : Int)) (2 ^ min (Int.toNat a8) (IntKind.bits .u64))) != 0) then
    (e4_0 false a8 a9)
    else
    (I.isLat_l0 m e4_0 e4_1 a6 (IntKind.wrap .i64 (a7 + 1)) a8 a9))
    else
    none)
    else
    none)
    else
    (e4_1 a8 a9))
noncomputable def I.isLat_l2 : Nat → (Bool → Int → Int → Int → List Int → Option Bool) → (Int → Int → Int → List Int → Option Bool) → Int → Int → Int → Int → Int → Int → List Int → Option Bool
  | 0, _, _, _, _, _, _, _, _, _ => none
  | m + 1, e15_0, e15_1, a25, a26, a27, a28, a29, a30, a31 =>
    (bif (decide (a29 < a28)) then
    (Option.bind (I.Lat_bound a30 a25 a29 true a31) fun r33 =>
    (bif (decide (r33 < 0)) then
    (e15_0 false a26 a27 a30 a31)
    else
    (Option.bind (I.Lat_bound a30 a25 a29 false a31) fun r35 =>
    (bif (decide (r35 < 0)) then
    (e15_0 false a26 a27 a30 a31)
    else
    (I.isLat_l2 m e15_0 e15_1 a25 a26 a27 a28 (IntKind.wrap .i64 (a29 + 1)) a30 a31)))))
    else
    (e15_1 a26 a27 a30 a31))
noncomputable def I.isLat_l1 : Nat → (Bool → Option Bool) → (Option Bool) → Int → Int → Int → List Int → Option Bool
  | 0, _, _, _, _, _, _ => none
  | m + 1, e12_0, e12_1, a20, a21, a22, a23 =>
    (bif (decide (a21 < a20)) then
    (I.isLat_l2 fu (fun y38 y39 y40 y41 y42 =>
    (e12_0 y38)) (fun y43 y44 y45 y46 =>
    (I.isLat_l1 m e12_0 e12_1 y43 (IntKind.wrap .i64 (y44 + 1)) y45 y46)) a21 a20 a21 a22 0 a22 a23)
    else
    e12_1)
noncomputable def I.isLat (a1 : Int) (a2 : List Int) : Option Bool :=
(Option.bind (I.in a1 1 16) fun r3 =>
(bif (!r3) then
(some false)
else
(bif ((a2.length : Int) != a1) then
(some false)
else
(I.isLat_l0 fu (fun y14 y15 y16 =>
(some y14)) (fun y17 y18 =>
(Option.bind (I.Lat_isOrder y17 y18) fun r19 =>
(bif (!r19) then
(some false)
else
(I.isLat_l1 fu (fun y48 =>
(some y48)) (some true) y17 0 y17 y18)))) (a2.length : Int) 0 a1 a2))))
noncomputable def H145_4 : LoopH := ⟨⟨((.one (.unk)) :: (.one (.ptr 0 0)) :: (hu 18 ((.one (.sl 0)) :: hh :: hh :: (hu 36 [])))), [(44, [.hole, .sl 0])], [(87, (.int .u64), .ro)]⟩, ([0] ++ rg 2 18 ++ rg 23 36), [], ([0] ++ rg 3 56), [], []⟩
noncomputable def k145_4 : List PK := (ki 3 [.row (.int .u64)])
noncomputable def W145_4 (m : Nat) (k : Kont Bool) : Cur k145_4 (Option Bool) := I.isLat_l0 m (exF k .ret ⟨((.one (.unk)) :: (.one (.ptr 0 0)) :: hh :: (hu 56 [])), [(44, [.hole, .sl 0])], [(87, (.int .u64), .ro)]⟩ [.bool, .int .i64, .row (.int .u64)]) (exF k (.exit 0) ⟨((.one (.unk)) :: (.one (.ptr 0 0)) :: (hu 57 [])), [(44, [.hole, .sl 0])], [(87, (.int .u64), .ro)]⟩ [.int .i64, .row (.int .u64)])
noncomputable def E145_4 (m : Nat) : List Prm → Kont Bool → Option Bool := eL k145_4 (W145_4 m)
theorem ev145_4 (m : Nat) (k : Kont Bool) (a : Args k145_4) : evL Tryz.prog G145 loopNil c145_4 (turn Tryz.prog (0, 0) H145_4 (E145_4 m) k) (H145_4.sk.fl (encP k145_4 a)) = unc k145_4 (W145_4 (m + 1) k) a := by kernel_rfl
theorem ok145_4 (m : Nat) : LoopOk Tryz.prog (0, 0) c145_4 (enter Tryz.prog (0, 0) H145_4 (E145_4 m)) := loop_gen (Fl := W145_4) (G := G145) (L := loopNil) (envCons_good good127 (envCons_good good223 (envCons_good good224 envNil_good))) (no_loops (c := c145_4) (by kernel_rfl)) (fun _ _ => by kernel_rfl) ev145_4 m
noncomputable def H145_15 : LoopH := ⟨⟨((.one (.unk)) :: (.one (.ptr 0 0)) :: (hu 3 (hh :: (hu 30 (hh :: hh :: (hu 3 (hh :: hh :: (hu 16 [])))))))), [(44, [.hole, .sl 0])], [(87, (.int .u64), .ro)]⟩, ([0, 2, 3, 4] ++ rg 6 30 ++ [38, 39, 40] ++ rg 43 16), [], ([0] ++ rg 3 33 ++ rg 38 21), [], []⟩
noncomputable def k145_15 : List PK := (ki 6 [.row (.int .u64)])
noncomputable def W145_15 (m : Nat) (k : Kont Bool) : Cur k145_15 (Option Bool) := I.isLat_l2 m (exF k .ret ⟨((.one (.unk)) :: (.one (.ptr 0 0)) :: hh :: (hu 33 (hh :: hh :: (hu 21 [])))), [(44, [.hole, .sl 0])], [(87, (.int .u64), .ro)]⟩ ((.bool) :: (ki 3 [.row (.int .u64)]))) (exF k (.exit 4) ⟨((.one (.unk)) :: (.one (.ptr 0 0)) :: (hu 34 (hh :: hh :: (hu 21 [])))), [(44, [.hole, .sl 0])], [(87, (.int .u64), .ro)]⟩ (ki 3 [.row (.int .u64)]))
noncomputable def E145_15 (m : Nat) : List Prm → Kont Bool → Option Bool := eL k145_15 (W145_15 m)
theorem ev145_15 (m : Nat) (k : Kont Bool) (a : Args k145_15) : evL Tryz.prog G145 loopNil c145_15 (turn Tryz.prog (0, 0) H145_15 (E145_15 m) k) (H145_15.sk.fl (encP k145_15 a)) = unc k145_15 (W145_15 (m + 1) k) a := by kernel_rfl
theorem ok145_15 (m : Nat) : LoopOk Tryz.prog (0, 0) c145_15 (enter Tryz.prog (0, 0) H145_15 (E145_15 m)) := loop_gen (Fl := W145_15) (G := G145) (L := loopNil) (envCons_good good127 (envCons_good good223 (envCons_good good224 envNil_good))) (no_loops (c := c145_15) (by kernel_rfl)) (fun _ _ => by kernel_rfl) ev145_15 m
noncomputable def L145_12 : LEnv Bool := (loopCons 15 (enter Tryz.prog (0, 0) H145_15 (E145_15 fu)) loopNil)
theorem lq145_12 : loopsOf c145_12 = [c145_15] := by kernel_rfl
theorem fr145_15 : firstReg c145_15 = some 15 := by kernel_rfl
theorem le145_15 : L145_12 15 = enter Tryz.prog (0, 0) H145_15 (E145_15 fu) := by kernel_rfl
theorem lm145_12 : ∀ x ∈ [c145_15], ∀ id, firstReg x = some id → LoopOk Tryz.prog (0, 0) x (L145_12 id) := (loops_cons fr145_15 le145_15 (ok145_15 fu) loops_nil)
theorem lp145_12 : ∀ x ∈ loopsOf c145_12, ∀ id, firstReg x = some id → LoopOk Tryz.prog (0, 0) x (L145_12 id) := loops_eq lq145_12 lm145_12
noncomputable def H145_12 : LoopH := ⟨⟨((.one (.unk)) :: (.one (.ptr 0 0)) :: (hu 34 (hh :: hh :: (hu 21 [])))), [(44, [.hole, .sl 0])], [(87, (.int .u64), .ro)]⟩, ([0] ++ rg 2 34 ++ rg 38 21), [], ([0, 1] ++ rg 3 56), [], []⟩
noncomputable def k145_12 : List PK := (ki 3 [.row (.int .u64)])
noncomputable def W145_12 (m : Nat) (k : Kont Bool) : Cur k145_12 (Option Bool) := I.isLat_l1 m (exF k .ret ⟨(hu 2 (hh :: (hu 56 []))), [], []⟩ [.bool]) (exF k (.exit 2) ⟨(hu 59 []), [], []⟩ [])
noncomputable def E145_12 (m : Nat) : List Prm → Kont Bool → Option Bool := eL k145_12 (W145_12 m)
theorem ev145_12 (m : Nat) (k : Kont Bool) (a : Args k145_12) : evL Tryz.prog G145 L145_12 c145_12 (turn Tryz.prog (0, 0) H145_12 (E145_12 m) k) (H145_12.sk.fl (encP k145_12 a)) = unc k145_12 (W145_12 (m + 1) k) a := by kernel_rfl
theorem ok145_12 (m : Nat) : LoopOk Tryz.prog (0, 0) c145_12 (enter Tryz.prog (0, 0) H145_12 (E145_12 m)) := loop_gen (Fl := W145_12) (G := G145) (L := L145_12) (envCons_good good127 (envCons_good good223 (envCons_good good224 envNil_good))) lp145_12 (fun _ _ => by kernel_rfl) ev145_12 m
noncomputable def L145 : LEnv Bool := (loopCons 4 (enter Tryz.prog (0, 0) H145_4 (E145_4 fu)) (loopCons 12 (enter Tryz.prog (0, 0) H145_12 (E145_12 fu)) loopNil))
theorem lq145 : loopsOf c145 = [c145_4, c145_12] := by kernel_rfl
theorem fr145_4 : firstReg c145_4 = some 4 := by kernel_rfl
theorem le145_4 : L145 4 = enter Tryz.prog (0, 0) H145_4 (E145_4 fu) := by kernel_rfl
theorem fr145_12 : firstReg c145_12 = some 12 := by kernel_rfl
theorem le145_12 : L145 12 = enter Tryz.prog (0, 0) H145_12 (E145_12 fu) := by kernel_rfl
theorem lm145 : ∀ x ∈ [c145_4, c145_12], ∀ id, firstReg x = some id → LoopOk Tryz.prog (0, 0) x (L145 id) := (loops_cons fr145_4 le145_4 (ok145_4 fu) (loops_cons fr145_12 le145_12 (ok145_12 fu) loops_nil))
theorem lp145 : ∀ x ∈ loopsOf c145, ∀ id, firstReg x = some id → LoopOk Tryz.prog (0, 0) x (L145 id) := loops_eq lq145 lm145
noncomputable def sg145 : Sg := ⟨⟨[.agg [.hole, .sl 0]], [], [(87, (.int .u64), .ro)]⟩, [.int .i64, .row (.int .u64)], ⟨[hh], [], []⟩, [.bool]⟩
noncomputable def E145 : Fun2 := eOf sg145 I.isLat
theorem ev145 (a : Args sg145.ks) : evS Tryz.prog G145 L145 (0, 0) [] Tryz.f145 c145 (kOf sg145) (sg145.sk.fl (encP sg145.ks a)) = unc sg145.ks I.isLat a := by kernel_rfl
theorem good145 : Vm.Good Tryz.prog 145 E145 := good_gen (G := G145) (L := L145) (c := c145) (rn := []) (N := (0, 0)) (envCons_good good127 (envCons_good good223 (envCons_good good224 envNil_good))) lp145 Tryz.func145 (by kernel_rfl) (by kernel_rfl) (fun _ => by kernel_rfl) ev145
noncomputable def G300 : Env := envNil
noncomputable def c300 : Code := bodyOf Tryz.f300
noncomputable def I.Tok_takes (a1 a2 : Int) : Option Int :=
(bif (decide (a1 ≤ 3)) then
(some 0)
else
(bif (a1 == 11) then
(some 1)
else
(some 2)))
noncomputable def sg300 : Sg := ⟨⟨[.agg (ho 2 [])], [], []⟩, (ki 2 []), ⟨[hh], [], []⟩, [.int .i64]⟩
noncomputable def E300 : Fun2 := eOf sg300 I.Tok_takes
theorem ev300 (a : Args sg300.ks) : evS Tryz.prog G300 loopNil (0, 0) [] Tryz.f300 c300 (kOf sg300) (sg300.sk.fl (encP sg300.ks a)) = unc sg300.ks I.Tok_takes a := by kernel_rfl
theorem good300 : Vm.Good Tryz.prog 300 E300 := good_gen (G := G300) (L := loopNil) (c := c300) (rn := []) (N := (0, 0)) envNil_good (no_loops (c := c300) (by kernel_rfl)) Tryz.func300 (by kernel_rfl) (by kernel_rfl) (fun _ => by kernel_rfl) ev300
noncomputable def G272 : Env := (envCons 127 [] E127 (envCons 300 [] E300 envNil))
noncomputable def c272 : Code := bodyOf Tryz.f272
noncomputable def c272_5 : Code := (loopsOf c272).getD 0 .skip
noncomputable def I.depth_l0 : Nat → (Int → Int → Int → Option Int) → (Int → Int → Option Int) → Int → Int → Int → Int → (List (Int × Int)) → Option Int
  | 0, _, _, _, _, _, _, _ => none
  | m + 1, e5_0, e5_1, a5, a6, a7, a8, a9 =>
    (bif (decide (a8 < a7)) then
    (bif decide ((0 : Int) ≤ a8 ∧ a8 < (a9.length : Int)) then
    (Option.bind (I.in ((nthI a9 a8 df2).1) 0 11) fun r11 =>
    (bif (!r11) then
    (e5_0 (-1) a5 a6)
    else
    (bif ((nthI a9 a8 df2).1 != 0) then
    (bif ((nthI a9 a8 df2).2 != 0) then
    (e5_0 (-1) a5 a6)
    else
    (Option.bind (I.Tok_takes ((nthI a9 a8 df2).1) ((nthI a9 a8 df2).2)) fun r14 =>
    (bif (decide (a5 < r14)) then
    (e5_0 (-1) a5 a6)
    else
    (Option.bind (I.Tok_takes ((nthI a9 a8 df2).1) ((nthI a9 a8 df2).2)) fun r16 =>
    (let v18 : Int := (IntKind.wrap .i64 (a5 + (IntKind.wrap .i64 (1 - r16))))
    (I.depth_l0 m e5_0 e5_1 v18 (if v18 > a6 then v18 else a6) a7 (IntKind.wrap .i64 (a8 + 1)) a9))))))
    else
    (Option.bind (I.Tok_takes ((nthI a9 a8 df2).1) ((nthI a9 a8 df2).2)) fun r21 =>
    (bif (decide (a5 < r21)) then
    (e5_0 (-1) a5 a6)
    else
    (Option.bind (I.Tok_takes ((nthI a9 a8 df2).1) ((nthI a9 a8 df2).2)) fun r23 =>
    (let v25 : Int := (IntKind.wrap .i64 (a5 + (IntKind.wrap .i64 (1 - r23))))
    (I.depth_l0 m e5_0 e5_1 v25 (if v25 > a6 then v25 else a6) a7 (IntKind.wrap .i64 (a8 + 1)) a9))))))))
    else
    none)
    else
    (e5_1 a5 a6))
noncomputable def I.depth (a1 : List (Int × Int)) : Option Int :=
(Option.bind (I.in (a1.length : Int) 1 20) fun r3 =>
(bif (!r3) then
(some (-1))
else
(I.depth_l0 fu (fun y28 y29 y30 =>
(some y28)) (fun y31 y32 =>
(bif (y31 != 1) then
(some (-1))
else
(some y32))) 0 0 (a1.length : Int) 0 a1)))
noncomputable def H272_5 : LoopH := ⟨⟨(hu 3 (hh :: hh :: (hu 6 ((.one (.sl 0)) :: hh :: hh :: (hu 35 []))))), [], [(255, sh1, .ro)]⟩, ([0, 1, 2] ++ rg 5 6 ++ rg 14 35), [], ([0, 1] ++ rg 5 44), [], []⟩
noncomputable def k272_5 : List PK := (ki 4 [.row sh1])
noncomputable def W272_5 (m : Nat) (k : Kont Int) : Cur k272_5 (Option Int) := I.depth_l0 m (exF k .ret ⟨(hu 2 (hh :: hh :: hh :: (hu 44 []))), [], []⟩ (ki 3 [])) (exF k (.exit 0) ⟨(hu 3 (hh :: hh :: (hu 44 []))), [], []⟩ (ki 2 []))
noncomputable def E272_5 (m : Nat) : List Prm → Kont Int → Option Int := eL k272_5 (W272_5 m)
theorem ev272_5 (m : Nat) (k : Kont Int) (a : Args k272_5) : evL Tryz.prog G272 loopNil c272_5 (turn Tryz.prog (0, 0) H272_5 (E272_5 m) k) (H272_5.sk.fl (encP k272_5 a)) = unc k272_5 (W272_5 (m + 1) k) a := by kernel_rfl
theorem ok272_5 (m : Nat) : LoopOk Tryz.prog (0, 0) c272_5 (enter Tryz.prog (0, 0) H272_5 (E272_5 m)) := loop_gen (Fl := W272_5) (G := G272) (L := loopNil) (envCons_good good127 (envCons_good good300 envNil_good)) (no_loops (c := c272_5) (by kernel_rfl)) (fun _ _ => by kernel_rfl) ev272_5 m
noncomputable def L272 : LEnv Int := (loopCons 5 (enter Tryz.prog (0, 0) H272_5 (E272_5 fu)) loopNil)
theorem lq272 : loopsOf c272 = [c272_5] := by kernel_rfl
theorem fr272_5 : firstReg c272_5 = some 5 := by kernel_rfl
theorem le272_5 : L272 5 = enter Tryz.prog (0, 0) H272_5 (E272_5 fu) := by kernel_rfl
theorem lm272 : ∀ x ∈ [c272_5], ∀ id, firstReg x = some id → LoopOk Tryz.prog (0, 0) x (L272 id) := (loops_cons fr272_5 le272_5 (ok272_5 fu) loops_nil)
theorem lp272 : ∀ x ∈ loopsOf c272, ∀ id, firstReg x = some id → LoopOk Tryz.prog (0, 0) x (L272 id) := loops_eq lq272 lm272
noncomputable def sg272 : Sg := ⟨⟨[.one (.sl 0)], [], [(255, sh1, .ro)]⟩, [.row sh1], ⟨[hh], [], []⟩, [.int .i64]⟩
noncomputable def E272 : Fun2 := eOf sg272 I.depth
theorem ev272 (a : Args sg272.ks) : evS Tryz.prog G272 L272 (0, 0) [] Tryz.f272 c272 (kOf sg272) (sg272.sk.fl (encP sg272.ks a)) = unc sg272.ks I.depth a := by kernel_rfl
theorem good272 : Vm.Good Tryz.prog 272 E272 := good_gen (G := G272) (L := L272) (c := c272) (rn := []) (N := (0, 0)) (envCons_good good127 (envCons_good good300 envNil_good)) lp272 Tryz.func272 (by kernel_rfl) (by kernel_rfl) (fun _ => by kernel_rfl) ev272
noncomputable def G225 : Env := (envCons 272 [] E272 envNil)
noncomputable def c225 : Code := bodyOf Tryz.f225
noncomputable def I.isExpr (a1 : List (Int × Int)) : Option Bool :=
(Option.bind (I.depth a1) fun r2 =>
(some (decide (0 < r2))))
noncomputable def sg225 : Sg := ⟨⟨[.one (.sl 0)], [], [(255, sh1, .ro)]⟩, [.row sh1], ⟨[hh], [], []⟩, [.bool]⟩
noncomputable def E225 : Fun2 := eOf sg225 I.isExpr
theorem ev225 (a : Args sg225.ks) : evS Tryz.prog G225 loopNil (0, 0) [] Tryz.f225 c225 (kOf sg225) (sg225.sk.fl (encP sg225.ks a)) = unc sg225.ks I.isExpr a := by kernel_rfl
theorem good225 : Vm.Good Tryz.prog 225 E225 := good_gen (G := G225) (L := loopNil) (c := c225) (rn := []) (N := (0, 0)) (envCons_good good272 envNil_good) (no_loops (c := c225) (by kernel_rfl)) Tryz.func225 (by kernel_rfl) (by kernel_rfl) (fun _ => by kernel_rfl) ev225
noncomputable def G49 : Env := (envCons 127 [] E127 envNil)
noncomputable def c49 : Code := bodyOf Tryz.f49
noncomputable def I.isWinDef (a1 a2 a3 : Int) : Option Bool :=
(Option.bind (I.in a2 1 100) fun r4 =>
(bif (!r4) then
(some false)
else
(bif (a1 == 1) then
(some (a3 == 0))
else
(bif (a1 == 3) then
(some (a3 == 0))
else
(bif (a1 == 2) then
(Option.bind (I.in a3 1 a2) fun r5 =>
(bif r5 then
(some (decide (a2 ≤ (IntKind.wrap .i64 (8 * a3)))))
else
(some false)))
else
(some false))))))
noncomputable def sg49 : Sg := ⟨⟨[.agg (ho 3 [])], [], []⟩, (ki 3 []), ⟨[hh], [], []⟩, [.bool]⟩
noncomputable def E49 : Fun2 := eOf sg49 I.isWinDef
theorem ev49 (a : Args sg49.ks) : evS Tryz.prog G49 loopNil (0, 0) [] Tryz.f49 c49 (kOf sg49) (sg49.sk.fl (encP sg49.ks a)) = unc sg49.ks I.isWinDef a := by kernel_rfl
theorem good49 : Vm.Good Tryz.prog 49 E49 := good_gen (G := G49) (L := loopNil) (c := c49) (rn := []) (N := (0, 0)) (envCons_good good127 envNil_good) (no_loops (c := c49) (by kernel_rfl)) Tryz.func49 (by kernel_rfl) (by kernel_rfl) (fun _ => by kernel_rfl) ev49
noncomputable def G226 : Env := (envCons 127 [] E127 envNil)
noncomputable def c226 : Code := bodyOf Tryz.f226
noncomputable def I.isAggKind (a1 a2 : Int) : Option Bool :=
(bif (a1 == 6) then
(Option.bind (I.in a2 1 4) fun r3 =>
(some r3))
else
(Option.bind (I.in a1 1 5) fun r4 =>
(bif r4 then
(some (a2 == 0))
else
(some false))))
noncomputable def sg226 : Sg := ⟨⟨[hh, hh], [], []⟩, (ki 2 []), ⟨[hh], [], []⟩, [.bool]⟩
noncomputable def E226 : Fun2 := eOf sg226 I.isAggKind
theorem ev226 (a : Args sg226.ks) : evS Tryz.prog G226 loopNil (0, 0) [] Tryz.f226 c226 (kOf sg226) (sg226.sk.fl (encP sg226.ks a)) = unc sg226.ks I.isAggKind a := by kernel_rfl
theorem good226 : Vm.Good Tryz.prog 226 E226 := good_gen (G := G226) (L := loopNil) (c := c226) (rn := []) (N := (0, 0)) (envCons_good good127 envNil_good) (no_loops (c := c226) (by kernel_rfl)) Tryz.func226 (by kernel_rfl) (by kernel_rfl) (fun _ => by kernel_rfl) ev226
noncomputable def G146 : Env := (envCons 225 [] E225 (envCons 49 [] E49 (envCons 226 [] E226 envNil)))
noncomputable def c146 : Code := bodyOf Tryz.f146
noncomputable def I.isQuery (a1 a2 a3 a4 a5 : Int) (a6 a7 : List (Int × Int)) : Option Bool :=
(Option.bind (I.isExpr a6) fun r8 =>
(bif r8 then
(Option.bind (I.isExpr a7) fun r9 =>
(bif r9 then
(Option.bind (I.isWinDef a1 a2 a3) fun r10 =>
(bif r10 then
(Option.bind (I.isAggKind a4 a5) fun r11 =>
(some r11))
else
(some false)))
else
(some false)))
else
(some false)))
noncomputable def sg146 : Sg := ⟨⟨[.agg ((.sl 0) :: (.sl 1) :: (ho 5 []))], [], [(255, sh1, .ro), (255, sh1, .ro)]⟩, (ki 5 [.row sh1, .row sh1]), ⟨[hh], [], []⟩, [.bool]⟩
noncomputable def E146 : Fun2 := eOf sg146 I.isQuery
theorem ev146 (a : Args sg146.ks) : evS Tryz.prog G146 loopNil (0, 0) [] Tryz.f146 c146 (kOf sg146) (sg146.sk.fl (encP sg146.ks a)) = unc sg146.ks I.isQuery a := by kernel_rfl
theorem good146 : Vm.Good Tryz.prog 146 E146 := good_gen (G := G146) (L := loopNil) (c := c146) (rn := []) (N := (0, 0)) (envCons_good good225 (envCons_good good49 (envCons_good good226 envNil_good))) (no_loops (c := c146) (by kernel_rfl)) Tryz.func146 (by kernel_rfl) (by kernel_rfl) (fun _ => by kernel_rfl) ev146
noncomputable def G90 : Env := (envCons 127 [] E127 envNil)
noncomputable def c90 : Code := bodyOf Tryz.f90
noncomputable def I.Lat_has (a1 a2 : Int) (a3 : List Int) : Option Bool :=
(Option.bind (I.in a2 0 (IntKind.wrap .i64 (a1 - 1))) fun r5 =>
(some r5))
noncomputable def sg90 : Sg := ⟨⟨[.agg [.hole, .sl 0], hh], [], [(87, (.int .u64), .ro)]⟩, (ki 2 [.row (.int .u64)]), ⟨[hh], [], []⟩, [.bool]⟩
noncomputable def E90 : Fun2 := eOf sg90 I.Lat_has
theorem ev90 (a : Args sg90.ks) : evS Tryz.prog G90 loopNil (0, 0) [] Tryz.f90 c90 (kOf sg90) (sg90.sk.fl (encP sg90.ks a)) = unc sg90.ks I.Lat_has a := by kernel_rfl
theorem good90 : Vm.Good Tryz.prog 90 E90 := good_gen (G := G90) (L := loopNil) (c := c90) (rn := []) (N := (0, 0)) (envCons_good good127 envNil_good) (no_loops (c := c90) (by kernel_rfl)) Tryz.func90 (by kernel_rfl) (by kernel_rfl) (fun _ => by kernel_rfl) ev90
noncomputable def G147 : Env := (envCons 127 [] E127 envNil)
noncomputable def c147 : Code := bodyOf Tryz.f147
noncomputable def I.isCap (a1 : Int) : Option Bool :=
(Option.bind (I.in a1 1 50) fun r2 =>
(some r2))
noncomputable def sg147 : Sg := ⟨⟨[hh], [], []⟩, [.int .i64], ⟨[hh], [], []⟩, [.bool]⟩
noncomputable def E147 : Fun2 := eOf sg147 I.isCap
theorem ev147 (a : Args sg147.ks) : evS Tryz.prog G147 loopNil (0, 0) [] Tryz.f147 c147 (kOf sg147) (sg147.sk.fl (encP sg147.ks a)) = unc sg147.ks I.isCap a := by kernel_rfl
theorem good147 : Vm.Good Tryz.prog 147 E147 := good_gen (G := G147) (L := loopNil) (c := c147) (rn := []) (N := (0, 0)) (envCons_good good127 envNil_good) (no_loops (c := c147) (by kernel_rfl)) Tryz.func147 (by kernel_rfl) (by kernel_rfl) (fun _ => by kernel_rfl) ev147
noncomputable def G65 : Env := (envCons 145 [] E145 (envCons 127 [] E127 (envCons 146 [] E146 (envCons 90 [] E90 (envCons 147 [] E147 envNil)))))
noncomputable def c65 : Code := bodyOf Tryz.f65
noncomputable def c65_4 : Code := (loopsOf c65).getD 0 .skip
noncomputable def c65_10 : Code := (loopsOf c65).getD 1 .skip
noncomputable def c65_16 : Code := (loopsOf c65).getD 2 .skip
noncomputable def I.isConf_l0 : Nat → (Bool → Int → Int → Int → List Int → (List ty6) → (List (Int × Int × Int)) → (List ty10) → Option Bool) → (Int → Int → Int → List Int → (List ty6) → (List (Int × Int × Int)) → (List ty10) → Option Bool) → Int → Int → Int → Int → Int → (List ty6) → List Int → (List (Int × Int × Int)) → (List ty10) → Option Bool
  | 0, _, _, _, _, _, _, _, _, _, _, _ => none
  | m + 1, e4_0, e4_1, a18, a19, a20, a21, a22, a23, a24, a25, a26 =>
    (bif (decide (a19 < a18)) then
    (bif decide ((0 : Int) ≤ a19 ∧ a19 < (a23.length : Int)) then
    (Option.bind (I.isQuery ((nthI a23 a19 ([], ([], (df1, df2)))).2.2.1.1) ((nthI a23 a19 ([], ([], (df1, df2)))).2.2.1.2.1) ((nthI a23 a19 ([], ([], (df1, df2)))).2.2.1.2.2) ((nthI a23 a19 ([], ([], (df1, df2)))).2.2.2.1) ((nthI a23 a19 ([], ([], (df1, df2)))).2.2.2.2) ((nthI a23 a19 ([], ([], (df1, df2)))).1) ((nthI a23 a19 ([], ([], (df1, df2)))).2.1)) fun r28 =>
    (bif (!r28) then
    (e4_0 false a20 a21 a22 a24 a23 a25 a26)
    else
    (I.isConf_l0 m e4_0 e4_1 a18 (IntKind.wrap .i64 (a19 + 1)) a20 a21 a22 a23 a24 a25 a26)))
    else
    none)
    else
    (e4_1 a20 a21 a22 a24 a23 a25 a26))
noncomputable def I.isConf_l1 : Nat → (Bool → Int → Int → Int → List Int → (List ty6) → (List (Int × Int × Int)) → (List ty10) → Option Bool) → (Int → Int → Int → List Int → (List ty6) → (List (Int × Int × Int)) → (List ty10) → Option Bool) → Int → Int → Int → Int → Int → (List (Int × Int × Int)) → List Int → (List ty6) → (List ty10) → Option Bool
  | 0, _, _, _, _, _, _, _, _, _, _, _ => none
  | m + 1, e10_0, e10_1, a46, a47, a48, a49, a50, a51, a52, a53, a54 =>
    (bif (decide (a47 < a46)) then
    (bif decide ((0 : Int) ≤ a47 ∧ a47 < (a51.length : Int)) then
    (Option.bind (I.Lat_has a48 ((nthI a51 a47 df1).1) a52) fun r56 =>
    (bif (!r56) then
    (e10_0 false a48 a49 a50 a52 a53 a51 a54)
    else
    (Option.bind (I.isCap ((nthI a51 a47 df1).2.1)) fun r57 =>
    (bif (!r57) then
    (e10_0 false a48 a49 a50 a52 a53 a51 a54)
    else
    (Option.bind (I.isCap ((nthI a51 a47 df1).2.2)) fun r58 =>
    (bif (!r58) then
    (e10_0 false a48 a49 a50 a52 a53 a51 a54)
    else
    (I.isConf_l1 m e10_0 e10_1 a46 (IntKind.wrap .i64 (a47 + 1)) a48 a49 a50 a51 a52 a53 a54)))))))
    else
    none)
    else
    (e10_1 a48 a49 a50 a52 a53 a51 a54))
noncomputable def I.isConf_l2 : Nat → (Bool → Option Bool) → (Option Bool) → Int → Int → Int → Int → Int → (List ty10) → List Int → (List ty6) → (List (Int × Int × Int)) → Option Bool
  | 0, _, _, _, _, _, _, _, _, _, _, _ => none
  | m + 1, e16_0, e16_1, a76, a77, a78, a79, a80, a81, a82, a83, a84 =>
    (bif (decide (a77 < a76)) then
    (bif decide ((0 : Int) ≤ a77 ∧ a77 < (a81.length : Int)) then
    (Option.bind (I.in ((nthI a81 a77 df6).1) 0 (IntKind.wrap .i64 ((a83.length : Int) - 1))) fun r88 =>
    (bif (!r88) then
    (e16_0 false)
    else
    (Option.bind (I.Lat_has a78 ((nthI a81 a77 df6).2.1) a82) fun r89 =>
    (bif (!r89) then
    (e16_0 false)
    else
    (Option.bind (I.Lat_has a78 ((nthI a81 a77 df6).2.2.1) a82) fun r90 =>
    (bif (!r90) then
    (e16_0 false)
    else
    (Option.bind (I.in ((nthI a81 a77 df6).2.2.2.1) 1 1000000) fun r91 =>
    (bif (!r91) then
    (e16_0 false)
    else
    (Option.bind (I.in ((nthI a81 a77 df6).2.2.2.2) 0 20) fun r92 =>
    (bif (!r92) then
    (e16_0 false)
    else
    (I.isConf_l2 m e16_0 e16_1 a76 (IntKind.wrap .i64 (a77 + 1)) a78 a79 a80 a81 a82 a83 a84)))))))))))
    else
    none)
    else
    e16_1)
noncomputable def I.isConf (a1 a2 a3 : Int) (a4 : List Int) (a5 : List ty6) (a6 : List (Int × Int × Int)) (a7 : List ty10) : Option Bool :=
(Option.bind (I.isLat a1 a4) fun r8 =>
(bif (!r8) then
(some false)
else
(Option.bind (I.in a2 1 4) fun r9 =>
(bif (!r9) then
(some false)
else
(Option.bind (I.in a3 1 30) fun r10 =>
(bif (!r10) then
(some false)
else
(Option.bind (I.in (a5.length : Int) 1 4) fun r12 =>
(bif (!r12) then
(some false)
else
(Option.bind (I.in (a6.length : Int) 1 4) fun r14 =>
(bif (!r14) then
(some false)
else
(bif (decide (3 < (a7.length : Int))) then
(some false)
else
(I.isConf_l0 fu (fun y30 y31 y32 y33 y34 y35 y36 y37 =>
(some y30)) (fun y38 y39 y40 y41 y42 y43 y44 =>
(I.isConf_l1 fu (fun y60 y61 y62 y63 y64 y65 y66 y67 =>
(some y60)) (fun y68 y69 y70 y71 y72 y73 y74 =>
(I.isConf_l2 fu (fun y94 =>
(some y94)) (some true) (y74.length : Int) 0 y68 y69 y70 y74 y71 y72 y73)) (y43.length : Int) 0 y38 y39 y40 y43 y41 y42 y44)) (a5.length : Int) 0 a1 a2 a3 a5 a4 a6 a7))))))))))))
noncomputable def H65_4 : LoopH := ⟨⟨((.one (.unk)) :: (.one (.ptr 0 0)) :: (hu 44 ((.one (.sl 0)) :: hh :: hh :: (hu 77 [])))), [(49, ((.hole) :: (.sl 1) :: (ho 2 [.sl 0, .sl 2, .sl 3])))], [(190, sh10, .ro), (87, (.int .u64), .ro), (126, sh3, .ro), (159, sh4, .ro)]⟩, ([0] ++ rg 2 44 ++ rg 49 77), [], ([0] ++ rg 3 123), [], []⟩
noncomputable def k65_4 : List PK := (ki 5 [.row sh10, .row (.int .u64), .row sh3, .row sh4])
noncomputable def W65_4 (m : Nat) (k : Kont Bool) : Cur k65_4 (Option Bool) := I.isConf_l0 m (exF k .ret ⟨((.one (.unk)) :: (.one (.ptr 0 0)) :: hh :: (hu 123 [])), [(49, ((.hole) :: (.sl 0) :: (ho 2 [.sl 1, .sl 2, .sl 3])))], [(87, (.int .u64), .ro), (190, sh10, .ro), (126, sh3, .ro), (159, sh4, .ro)]⟩ ((.bool) :: (ki 3 [.row (.int .u64), .row sh10, .row sh3, .row sh4]))) (exF k (.exit 0) ⟨((.one (.unk)) :: (.one (.ptr 0 0)) :: (hu 124 [])), [(49, ((.hole) :: (.sl 0) :: (ho 2 [.sl 1, .sl 2, .sl 3])))], [(87, (.int .u64), .ro), (190, sh10, .ro), (126, sh3, .ro), (159, sh4, .ro)]⟩ (ki 3 [.row (.int .u64), .row sh10, .row sh3, .row sh4]))
noncomputable def E65_4 (m : Nat) : List Prm → Kont Bool → Option Bool := eL k65_4 (W65_4 m)
theorem ev65_4 (m : Nat) (k : Kont Bool) (a : Args k65_4) : evL Tryz.prog G65 loopNil c65_4 (turn Tryz.prog (0, 0) H65_4 (E65_4 m) k) (H65_4.sk.fl (encP k65_4 a)) = unc k65_4 (W65_4 (m + 1) k) a := by kernel_rfl
theorem ok65_4 (m : Nat) : LoopOk Tryz.prog (0, 0) c65_4 (enter Tryz.prog (0, 0) H65_4 (E65_4 m)) := loop_gen (Fl := W65_4) (G := G65) (L := loopNil) (envCons_good good145 (envCons_good good127 (envCons_good good146 (envCons_good good90 (envCons_good good147 envNil_good))))) (no_loops (c := c65_4) (by kernel_rfl)) (fun _ _ => by kernel_rfl) ev65_4 m
noncomputable def H65_10 : LoopH := ⟨⟨((.one (.unk)) :: (.one (.ptr 0 0)) :: (hu 55 ((.one (.sl 0)) :: hh :: hh :: (hu 66 [])))), [(49, ((.hole) :: (.sl 1) :: (ho 2 [.sl 2, .sl 0, .sl 3])))], [(126, sh3, .ro), (87, (.int .u64), .ro), (190, sh10, .ro), (159, sh4, .ro)]⟩, ([0] ++ rg 2 55 ++ rg 60 66), [], ([0] ++ rg 3 123), [], []⟩
noncomputable def k65_10 : List PK := (ki 5 [.row sh3, .row (.int .u64), .row sh10, .row sh4])
noncomputable def W65_10 (m : Nat) (k : Kont Bool) : Cur k65_10 (Option Bool) := I.isConf_l1 m (exF k .ret ⟨((.one (.unk)) :: (.one (.ptr 0 0)) :: hh :: (hu 123 [])), [(49, ((.hole) :: (.sl 0) :: (ho 2 [.sl 1, .sl 2, .sl 3])))], [(87, (.int .u64), .ro), (190, sh10, .ro), (126, sh3, .ro), (159, sh4, .ro)]⟩ ((.bool) :: (ki 3 [.row (.int .u64), .row sh10, .row sh3, .row sh4]))) (exF k (.exit 2) ⟨((.one (.unk)) :: (.one (.ptr 0 0)) :: (hu 124 [])), [(49, ((.hole) :: (.sl 0) :: (ho 2 [.sl 1, .sl 2, .sl 3])))], [(87, (.int .u64), .ro), (190, sh10, .ro), (126, sh3, .ro), (159, sh4, .ro)]⟩ (ki 3 [.row (.int .u64), .row sh10, .row sh3, .row sh4]))
noncomputable def E65_10 (m : Nat) : List Prm → Kont Bool → Option Bool := eL k65_10 (W65_10 m)
theorem ev65_10 (m : Nat) (k : Kont Bool) (a : Args k65_10) : evL Tryz.prog G65 loopNil c65_10 (turn Tryz.prog (0, 0) H65_10 (E65_10 m) k) (H65_10.sk.fl (encP k65_10 a)) = unc k65_10 (W65_10 (m + 1) k) a := by kernel_rfl
theorem ok65_10 (m : Nat) : LoopOk Tryz.prog (0, 0) c65_10 (enter Tryz.prog (0, 0) H65_10 (E65_10 m)) := loop_gen (Fl := W65_10) (G := G65) (L := loopNil) (envCons_good good145 (envCons_good good127 (envCons_good good146 (envCons_good good90 (envCons_good good147 envNil_good))))) (no_loops (c := c65_10) (by kernel_rfl)) (fun _ _ => by kernel_rfl) ev65_10 m
noncomputable def H65_16 : LoopH := ⟨⟨((.one (.unk)) :: (.one (.ptr 0 0)) :: (hu 81 ((.one (.sl 0)) :: hh :: hh :: (hu 40 [])))), [(49, ((.hole) :: (.sl 1) :: (ho 2 [.sl 2, .sl 3, .sl 0])))], [(159, sh4, .ro), (87, (.int .u64), .ro), (190, sh10, .ro), (126, sh3, .ro)]⟩, ([0] ++ rg 2 81 ++ rg 86 40), [], ([0, 1] ++ rg 3 123), [], []⟩
noncomputable def k65_16 : List PK := (ki 5 [.row sh4, .row (.int .u64), .row sh10, .row sh3])
noncomputable def W65_16 (m : Nat) (k : Kont Bool) : Cur k65_16 (Option Bool) := I.isConf_l2 m (exF k .ret ⟨(hu 2 (hh :: (hu 123 []))), [], []⟩ [.bool]) (exF k (.exit 4) ⟨(hu 126 []), [], []⟩ [])
noncomputable def E65_16 (m : Nat) : List Prm → Kont Bool → Option Bool := eL k65_16 (W65_16 m)
theorem ev65_16 (m : Nat) (k : Kont Bool) (a : Args k65_16) : evL Tryz.prog G65 loopNil c65_16 (turn Tryz.prog (0, 0) H65_16 (E65_16 m) k) (H65_16.sk.fl (encP k65_16 a)) = unc k65_16 (W65_16 (m + 1) k) a := by kernel_rfl
theorem ok65_16 (m : Nat) : LoopOk Tryz.prog (0, 0) c65_16 (enter Tryz.prog (0, 0) H65_16 (E65_16 m)) := loop_gen (Fl := W65_16) (G := G65) (L := loopNil) (envCons_good good145 (envCons_good good127 (envCons_good good146 (envCons_good good90 (envCons_good good147 envNil_good))))) (no_loops (c := c65_16) (by kernel_rfl)) (fun _ _ => by kernel_rfl) ev65_16 m
noncomputable def L65 : LEnv Bool := (loopCons 4 (enter Tryz.prog (0, 0) H65_4 (E65_4 fu)) (loopCons 10 (enter Tryz.prog (0, 0) H65_10 (E65_10 fu)) (loopCons 16 (enter Tryz.prog (0, 0) H65_16 (E65_16 fu)) loopNil)))
theorem lq65 : loopsOf c65 = [c65_4, c65_10, c65_16] := by kernel_rfl
theorem fr65_4 : firstReg c65_4 = some 4 := by kernel_rfl
theorem le65_4 : L65 4 = enter Tryz.prog (0, 0) H65_4 (E65_4 fu) := by kernel_rfl
theorem fr65_10 : firstReg c65_10 = some 10 := by kernel_rfl
theorem le65_10 : L65 10 = enter Tryz.prog (0, 0) H65_10 (E65_10 fu) := by kernel_rfl
theorem fr65_16 : firstReg c65_16 = some 16 := by kernel_rfl
theorem le65_16 : L65 16 = enter Tryz.prog (0, 0) H65_16 (E65_16 fu) := by kernel_rfl
theorem lm65 : ∀ x ∈ [c65_4, c65_10, c65_16], ∀ id, firstReg x = some id → LoopOk Tryz.prog (0, 0) x (L65 id) := (loops_cons fr65_4 le65_4 (ok65_4 fu) (loops_cons fr65_10 le65_10 (ok65_10 fu) (loops_cons fr65_16 le65_16 (ok65_16 fu) loops_nil)))
theorem lp65 : ∀ x ∈ loopsOf c65, ∀ id, firstReg x = some id → LoopOk Tryz.prog (0, 0) x (L65 id) := loops_eq lq65 lm65
noncomputable def sg65 : Sg := ⟨⟨[.agg ((.hole) :: (.sl 0) :: (ho 2 [.sl 1, .sl 2, .sl 3]))], [], [(87, (.int .u64), .ro), (190, sh10, .ro), (126, sh3, .ro), (159, sh4, .ro)]⟩, (ki 3 [.row (.int .u64), .row sh10, .row sh3, .row sh4]), ⟨[hh], [], []⟩, [.bool]⟩
noncomputable def E65 : Fun2 := eOf sg65 I.isConf
theorem ev65 (a : Args sg65.ks) : evS Tryz.prog G65 L65 (0, 0) [] Tryz.f65 c65 (kOf sg65) (sg65.sk.fl (encP sg65.ks a)) = unc sg65.ks I.isConf a := by kernel_rfl
theorem good65 : Vm.Good Tryz.prog 65 E65 := good_gen (G := G65) (L := L65) (c := c65) (rn := []) (N := (0, 0)) (envCons_good good145 (envCons_good good127 (envCons_good good146 (envCons_good good90 (envCons_good good147 envNil_good))))) lp65 Tryz.func65 (by kernel_rfl) (by kernel_rfl) (fun _ => by kernel_rfl) ev65
noncomputable def G310 : Env := (envCons 127 [] E127 envNil)
noncomputable def c310 : Code := bodyOf Tryz.f310
noncomputable def I.isSource (a1 : Int) : Option Bool :=
(Option.bind (I.in a1 0 3) fun r2 =>
(some r2))
noncomputable def sg310 : Sg := ⟨⟨[hh], [], []⟩, [.int .i64], ⟨[hh], [], []⟩, [.bool]⟩
noncomputable def E310 : Fun2 := eOf sg310 I.isSource
theorem ev310 (a : Args sg310.ks) : evS Tryz.prog G310 loopNil (0, 0) [] Tryz.f310 c310 (kOf sg310) (sg310.sk.fl (encP sg310.ks a)) = unc sg310.ks I.isSource a := by kernel_rfl
theorem good310 : Vm.Good Tryz.prog 310 E310 := good_gen (G := G310) (L := loopNil) (c := c310) (rn := []) (N := (0, 0)) (envCons_good good127 envNil_good) (no_loops (c := c310) (by kernel_rfl)) Tryz.func310 (by kernel_rfl) (by kernel_rfl) (fun _ => by kernel_rfl) ev310
noncomputable def G129 : Env := (envCons 127 [] E127 envNil)
noncomputable def c129 : Code := bodyOf Tryz.f129
noncomputable def I.isKey (a1 : Int) : Option Bool :=
(Option.bind (I.in a1 0 15) fun r2 =>
(some r2))
noncomputable def sg129 : Sg := ⟨⟨[hh], [], []⟩, [.int .i64], ⟨[hh], [], []⟩, [.bool]⟩
noncomputable def E129 : Fun2 := eOf sg129 I.isKey
theorem ev129 (a : Args sg129.ks) : evS Tryz.prog G129 loopNil (0, 0) [] Tryz.f129 c129 (kOf sg129) (sg129.sk.fl (encP sg129.ks a)) = unc sg129.ks I.isKey a := by kernel_rfl
theorem good129 : Vm.Good Tryz.prog 129 E129 := good_gen (G := G129) (L := loopNil) (c := c129) (rn := []) (N := (0, 0)) (envCons_good good127 envNil_good) (no_loops (c := c129) (by kernel_rfl)) Tryz.func129 (by kernel_rfl) (by kernel_rfl) (fun _ => by kernel_rfl) ev129
noncomputable def G290 : Env := (envCons 310 [] E310 (envCons 127 [] E127 (envCons 129 [] E129 envNil)))
noncomputable def c290 : Code := bodyOf Tryz.f290
noncomputable def I.Punct_isPlace (a1 a2 a3 a4 : Int) : Option Bool :=
(Option.bind (I.isSource a1) fun r5 =>
(bif r5 then
(Option.bind (I.in a2 0 4) fun r6 =>
(bif r6 then
(Option.bind (I.isKey a3) fun r7 =>
(some r7))
else
(some false)))
else
(some false)))
noncomputable def sg290 : Sg := ⟨⟨[.agg (ho 4 [])], [], []⟩, (ki 4 []), ⟨[hh], [], []⟩, [.bool]⟩
noncomputable def E290 : Fun2 := eOf sg290 I.Punct_isPlace
theorem ev290 (a : Args sg290.ks) : evS Tryz.prog G290 loopNil (0, 0) [] Tryz.f290 c290 (kOf sg290) (sg290.sk.fl (encP sg290.ks a)) = unc sg290.ks I.Punct_isPlace a := by kernel_rfl
theorem good290 : Vm.Good Tryz.prog 290 E290 := good_gen (G := G290) (L := loopNil) (c := c290) (rn := []) (N := (0, 0)) (envCons_good good310 (envCons_good good127 (envCons_good good129 envNil_good))) (no_loops (c := c290) (by kernel_rfl)) Tryz.func290 (by kernel_rfl) (by kernel_rfl) (fun _ => by kernel_rfl) ev290
noncomputable def G291 : Env := envNil
noncomputable def c291 : Code := bodyOf Tryz.f291
noncomputable def I.Punct_front (a1 a2 a3 a4 a5 : Int) : Option Int :=
(let v6 : Int := (IntKind.wrap .i64 (4 - a2))
(bif decide ((0 : Int) ≤ v6) then
(some (Int.fdiv a5 (2 ^ min (Int.toNat v6) (IntKind.bits .i64))))
else
none))
noncomputable def sg291 : Sg := ⟨⟨[.agg (ho 4 []), hh], [], []⟩, (ki 5 []), ⟨[hh], [], []⟩, [.int .i64]⟩
noncomputable def E291 : Fun2 := eOf sg291 I.Punct_front
theorem ev291 (a : Args sg291.ks) : evS Tryz.prog G291 loopNil (0, 0) [] Tryz.f291 c291 (kOf sg291) (sg291.sk.fl (encP sg291.ks a)) = unc sg291.ks I.Punct_front a := by kernel_rfl
theorem good291 : Vm.Good Tryz.prog 291 E291 := good_gen (G := G291) (L := loopNil) (c := c291) (rn := []) (N := (0, 0)) envNil_good (no_loops (c := c291) (by kernel_rfl)) Tryz.func291 (by kernel_rfl) (by kernel_rfl) (fun _ => by kernel_rfl) ev291
noncomputable def G252 : Env := (envCons 290 [] E290 (envCons 291 [] E291 (envCons 90 [] E90 envNil)))
noncomputable def c252 : Code := bodyOf Tryz.f252
noncomputable def I.isPunct (a1 a2 a3 a4 a5 : Int) (a6 : List Int) : Option Bool :=
(Option.bind (I.Punct_isPlace a2 a3 a4 a5) fun r7 =>
(bif r7 then
(let v8 : Int := (IntKind.wrap .i64 (4 - a3))
(Option.bind (I.Punct_front a2 a3 a4 a5 a4) fun r9 =>
(bif decide ((0 : Int) ≤ v8) then
(let v10 : Int := (IntKind.wrap .i64 (r9 * 2 ^ min (Int.toNat v8) (IntKind.bits .i64)))
(bif (v10 == a4) then
(Option.bind (I.Lat_has a1 a5 a6) fun r11 =>
(some r11))
else
(some false)))
else
none)))
else
(some false)))
noncomputable def sg252 : Sg := ⟨⟨[.agg [.hole, .sl 0], .agg (ho 4 [])], [], [(87, (.int .u64), .ro)]⟩, (ki 5 [.row (.int .u64)]), ⟨[hh], [], []⟩, [.bool]⟩
noncomputable def E252 : Fun2 := eOf sg252 I.isPunct
theorem ev252 (a : Args sg252.ks) : evS Tryz.prog G252 loopNil (0, 0) [] Tryz.f252 c252 (kOf sg252) (sg252.sk.fl (encP sg252.ks a)) = unc sg252.ks I.isPunct a := by kernel_rfl
theorem good252 : Vm.Good Tryz.prog 252 E252 := good_gen (G := G252) (L := loopNil) (c := c252) (rn := []) (N := (0, 0)) (envCons_good good290 (envCons_good good291 (envCons_good good90 envNil_good))) (no_loops (c := c252) (by kernel_rfl)) Tryz.func252 (by kernel_rfl) (by kernel_rfl) (fun _ => by kernel_rfl) ev252
noncomputable def G262 : Env := envNil
noncomputable def c262 : Code := bodyOf Tryz.f262
noncomputable def G.cmp.isNaN_int (a1 : Int) : Option Bool :=
(some (a1 != a1))
noncomputable def sg262 : Sg := ⟨⟨[hh], [], []⟩, [.int .i64], ⟨[hh], [], []⟩, [.bool]⟩
noncomputable def E262 : Fun2 := eOf sg262 G.cmp.isNaN_int
theorem ev262 (a : Args sg262.ks) : evS Tryz.prog G262 loopNil (0, 0) [] Tryz.f262 c262 (kOf sg262) (sg262.sk.fl (encP sg262.ks a)) = unc sg262.ks G.cmp.isNaN_int a := by kernel_rfl
theorem good262 : Vm.Good Tryz.prog 262 E262 := good_gen (G := G262) (L := loopNil) (c := c262) (rn := []) (N := (0, 0)) envNil_good (no_loops (c := c262) (by kernel_rfl)) Tryz.func262 (by kernel_rfl) (by kernel_rfl) (fun _ => by kernel_rfl) ev262
noncomputable def G208 : Env := (envCons 262 [] E262 envNil)
noncomputable def c208 : Code := bodyOf Tryz.f208
noncomputable def G.cmp.Compare_int (a1 a2 : Int) : Option Int :=
(Option.bind (G.cmp.isNaN_int a1) fun r3 =>
(Option.bind (G.cmp.isNaN_int a2) fun r4 =>
(bif r3 then
(bif r4 then
(some 0)
else
(some (-1)))
else
(bif r4 then
(some 1)
else
(bif (decide (a1 < a2)) then
(some (-1))
else
(bif (decide (a2 < a1)) then
(some 1)
else
(some 0)))))))
noncomputable def sg208 : Sg := ⟨⟨[hh, hh], [], []⟩, (ki 2 []), ⟨[hh], [], []⟩, [.int .i64]⟩
noncomputable def E208 : Fun2 := eOf sg208 G.cmp.Compare_int
theorem ev208 (a : Args sg208.ks) : evS Tryz.prog G208 loopNil (0, 0) [] Tryz.f208 c208 (kOf sg208) (sg208.sk.fl (encP sg208.ks a)) = unc sg208.ks G.cmp.Compare_int a := by kernel_rfl
theorem good208 : Vm.Good Tryz.prog 208 E208 := good_gen (G := G208) (L := loopNil) (c := c208) (rn := []) (N := (0, 0)) (envCons_good good262 envNil_good) (no_loops (c := c208) (by kernel_rfl)) Tryz.func208 (by kernel_rfl) (by kernel_rfl) (fun _ => by kernel_rfl) ev208
noncomputable def G206 : Env := envNil
noncomputable def c206 : Code := bodyOf Tryz.f206
noncomputable def c206_3 : Code := (loopsOf c206).getD 0 .skip
noncomputable def G.cmp.Or_int_l0 : Nat → (Int → Int → Option Int) → (Int → Option Int) → Int → Int → Int → List Int → Option Int
  | 0, _, _, _, _, _, _ => none
  | m + 1, e3_0, e3_1, a3, a4, a5, a6 =>
    (bif (decide (a5 < a4)) then
    (bif decide ((0 : Int) ≤ a5 ∧ a5 < (a6.length : Int)) then
    (let v8 : Int := (nthI a6 a5 (0 : Int))
    (bif (v8 != a3) then
    (e3_0 v8 a3)
    else
    (G.cmp.Or_int_l0 m e3_0 e3_1 a3 a4 (IntKind.wrap .i64 (a5 + 1)) a6)))
    else
    none)
    else
    (e3_1 a3))
noncomputable def G.cmp.Or_int (a1 : List Int) : Option Int :=
(G.cmp.Or_int_l0 fu (fun y10 y11 =>
(some y10)) (fun y12 =>
(some y12)) 0 (a1.length : Int) 0 a1)
noncomputable def H206_3 : LoopH := ⟨⟨(hu 3 (hh :: (hu 2 ((.one (.sl 0)) :: hh :: hh :: (hu 9 []))))), [], [(3, (.int .i64), .ro)]⟩, ([0, 1, 2, 4, 5] ++ rg 9 9), [], ([0, 1] ++ rg 4 14), [], []⟩
noncomputable def k206_3 : List PK := (ki 3 [.row (.int .i64)])
noncomputable def W206_3 (m : Nat) (k : Kont Int) : Cur k206_3 (Option Int) := G.cmp.Or_int_l0 m (exF k .ret ⟨(hu 2 (hh :: hh :: (hu 14 []))), [], []⟩ (ki 2 [])) (exF k (.exit 0) ⟨(hu 3 (hh :: (hu 14 []))), [], []⟩ [.int .i64])
noncomputable def E206_3 (m : Nat) : List Prm → Kont Int → Option Int := eL k206_3 (W206_3 m)
theorem ev206_3 (m : Nat) (k : Kont Int) (a : Args k206_3) : evL Tryz.prog G206 loopNil c206_3 (turn Tryz.prog (0, 0) H206_3 (E206_3 m) k) (H206_3.sk.fl (encP k206_3 a)) = unc k206_3 (W206_3 (m + 1) k) a := by kernel_rfl
theorem ok206_3 (m : Nat) : LoopOk Tryz.prog (0, 0) c206_3 (enter Tryz.prog (0, 0) H206_3 (E206_3 m)) := loop_gen (Fl := W206_3) (G := G206) (L := loopNil) envNil_good (no_loops (c := c206_3) (by kernel_rfl)) (fun _ _ => by kernel_rfl) ev206_3 m
noncomputable def L206 : LEnv Int := (loopCons 3 (enter Tryz.prog (0, 0) H206_3 (E206_3 fu)) loopNil)
theorem lq206 : loopsOf c206 = [c206_3] := by kernel_rfl
theorem fr206_3 : firstReg c206_3 = some 3 := by kernel_rfl
theorem le206_3 : L206 3 = enter Tryz.prog (0, 0) H206_3 (E206_3 fu) := by kernel_rfl
theorem lm206 : ∀ x ∈ [c206_3], ∀ id, firstReg x = some id → LoopOk Tryz.prog (0, 0) x (L206 id) := (loops_cons fr206_3 le206_3 (ok206_3 fu) loops_nil)
theorem lp206 : ∀ x ∈ loopsOf c206, ∀ id, firstReg x = some id → LoopOk Tryz.prog (0, 0) x (L206 id) := loops_eq lq206 lm206
noncomputable def sg206 : Sg := ⟨⟨[.one (.sl 0)], [], [(3, (.int .i64), .ro)]⟩, [.row (.int .i64)], ⟨[hh], [], []⟩, [.int .i64]⟩
noncomputable def E206 : Fun2 := eOf sg206 G.cmp.Or_int
theorem ev206 (a : Args sg206.ks) : evS Tryz.prog G206 L206 (0, 0) [] Tryz.f206 c206 (kOf sg206) (sg206.sk.fl (encP sg206.ks a)) = unc sg206.ks G.cmp.Or_int a := by kernel_rfl
theorem good206 : Vm.Good Tryz.prog 206 E206 := good_gen (G := G206) (L := L206) (c := c206) (rn := []) (N := (0, 0)) envNil_good lp206 Tryz.func206 (by kernel_rfl) (by kernel_rfl) (fun _ => by kernel_rfl) ev206
noncomputable def G253 : Env := (envCons 208 [] E208 (envCons 206 [] E206 envNil))
noncomputable def c253 : Code := bodyOf Tryz.f253
noncomputable def I.comparePuncts (a1 a2 a3 a4 a5 a6 a7 a8 : Int) : Option Int :=
(Option.bind (G.cmp.Compare_int a1 a5) fun r9 =>
(Option.bind (G.cmp.Compare_int a2 a6) fun r10 =>
(Option.bind (G.cmp.Compare_int a3 a7) fun r11 =>
(Option.bind (G.cmp.Or_int [r9, r10, r11]) fun r12 =>
(some r12)))))
noncomputable def sg253 : Sg := ⟨⟨[.agg (ho 4 []), .agg (ho 4 [])], [], []⟩, (ki 8 []), ⟨[hh], [], []⟩, [.int .i64]⟩
noncomputable def E253 : Fun2 := eOf sg253 I.comparePuncts
theorem ev253 (a : Args sg253.ks) : evS Tryz.prog G253 loopNil (0, 0) [] Tryz.f253 c253 (kOf sg253) (sg253.sk.fl (encP sg253.ks a)) = unc sg253.ks I.comparePuncts a := by kernel_rfl
theorem good253 : Vm.Good Tryz.prog 253 E253 := good_gen (G := G253) (L := loopNil) (c := c253) (rn := []) (N := (0, 0)) (envCons_good good208 (envCons_good good206 envNil_good)) (no_loops (c := c253) (by kernel_rfl)) Tryz.func253 (by kernel_rfl) (by kernel_rfl) (fun _ => by kernel_rfl) ev253
noncomputable def G193 : Env := (envCons 252 [] E252 (envCons 253 [] E253 envNil))
noncomputable def c193 : Code := bodyOf Tryz.f193
noncomputable def c193_2 : Code := (loopsOf c193).getD 0 .skip
noncomputable def I.isPolicy_l0 : Nat → (Bool → (List (Int × Int × Int × Int)) → Option Bool) → ((List (Int × Int × Int × Int)) → Option Bool) → Int → Int → Int → (List (Int × Int × Int × Int)) → List Int → Option Bool
  | 0, _, _, _, _, _, _, _ => none
  | m + 1, e2_0, e2_1, a5, a6, a7, a8, a9 =>
    (bif (decide (a6 < a5)) then
    (bif decide ((0 : Int) ≤ a6 ∧ a6 < (a8.length : Int)) then
    (Option.bind (I.isPunct a7 ((nthI a8 a6 df7).1) ((nthI a8 a6 df7).2.1) ((nthI a8 a6 df7).2.2.1) ((nthI a8 a6 df7).2.2.2) a9) fun r11 =>
    (bif (!r11) then
    (e2_0 false a8)
    else
    (bif (decide (0 < a6)) then
    (let v13 : Int := (IntKind.wrap .i64 (a6 - 1))
    (bif decide ((0 : Int) ≤ v13 ∧ v13 < (a8.length : Int)) then
    (Option.bind (I.comparePuncts ((nthI a8 v13 df7).1) ((nthI a8 v13 df7).2.1) ((nthI a8 v13 df7).2.2.1) ((nthI a8 v13 df7).2.2.2) ((nthI a8 a6 df7).1) ((nthI a8 a6 df7).2.1) ((nthI a8 a6 df7).2.2.1) ((nthI a8 a6 df7).2.2.2)) fun r14 =>
    (bif (decide (0 ≤ r14)) then
    (e2_0 false a8)
    else
    (I.isPolicy_l0 m e2_0 e2_1 a5 (IntKind.wrap .i64 (a6 + 1)) a7 a8 a9)))
    else
    none))
    else
    (I.isPolicy_l0 m e2_0 e2_1 a5 (IntKind.wrap .i64 (a6 + 1)) a7 a8 a9))))
    else
    none)
    else
    (e2_1 a8))
noncomputable def I.isPolicy (a1 : Int) (a2 : List Int) (a3 : List (Int × Int × Int × Int)) : Option Bool :=
(I.isPolicy_l0 fu (fun y18 y19 =>
(some y18)) (fun y20 =>
(some (decide ((y20.length : Int) ≤ 12)))) (a3.length : Int) 0 a1 a3 a2)
noncomputable def H193_2 : LoopH := ⟨⟨((.one (.unk)) :: (.one (.sl 0)) :: (.one (.ptr 0 0)) :: (hu 4 ((.one (.sl 0)) :: hh :: hh :: (hu 26 [])))), [(44, [.hole, .sl 1])], [(156, sh5, .ro), (87, (.int .u64), .ro)]⟩, ([0] ++ rg 3 4 ++ rg 10 26), [], ([0, 2, 3] ++ rg 5 31), [], []⟩
noncomputable def k193_2 : List PK := (ki 3 [.row sh5, .row (.int .u64)])
noncomputable def W193_2 (m : Nat) (k : Kont Bool) : Cur k193_2 (Option Bool) := I.isPolicy_l0 m (exF k .ret ⟨((.one (.unk)) :: (.one (.sl 0)) :: (hu 2 (hh :: (hu 31 [])))), [], [(156, sh5, .ro)]⟩ [.bool, .row sh5]) (exF k (.exit 0) ⟨((.one (.unk)) :: (.one (.sl 0)) :: (hu 34 [])), [], [(156, sh5, .ro)]⟩ [.row sh5])
noncomputable def E193_2 (m : Nat) : List Prm → Kont Bool → Option Bool := eL k193_2 (W193_2 m)
theorem ev193_2 (m : Nat) (k : Kont Bool) (a : Args k193_2) : evL Tryz.prog G193 loopNil c193_2 (turn Tryz.prog (0, 0) H193_2 (E193_2 m) k) (H193_2.sk.fl (encP k193_2 a)) = unc k193_2 (W193_2 (m + 1) k) a := by kernel_rfl
theorem ok193_2 (m : Nat) : LoopOk Tryz.prog (0, 0) c193_2 (enter Tryz.prog (0, 0) H193_2 (E193_2 m)) := loop_gen (Fl := W193_2) (G := G193) (L := loopNil) (envCons_good good252 (envCons_good good253 envNil_good)) (no_loops (c := c193_2) (by kernel_rfl)) (fun _ _ => by kernel_rfl) ev193_2 m
noncomputable def L193 : LEnv Bool := (loopCons 2 (enter Tryz.prog (0, 0) H193_2 (E193_2 fu)) loopNil)
theorem lq193 : loopsOf c193 = [c193_2] := by kernel_rfl
theorem fr193_2 : firstReg c193_2 = some 2 := by kernel_rfl
theorem le193_2 : L193 2 = enter Tryz.prog (0, 0) H193_2 (E193_2 fu) := by kernel_rfl
theorem lm193 : ∀ x ∈ [c193_2], ∀ id, firstReg x = some id → LoopOk Tryz.prog (0, 0) x (L193 id) := (loops_cons fr193_2 le193_2 (ok193_2 fu) loops_nil)
theorem lp193 : ∀ x ∈ loopsOf c193, ∀ id, firstReg x = some id → LoopOk Tryz.prog (0, 0) x (L193 id) := loops_eq lq193 lm193
noncomputable def sg193 : Sg := ⟨⟨[.agg [.hole, .sl 0], .one (.sl 1)], [], [(87, (.int .u64), .ro), (156, sh5, .ro)]⟩, [.int .i64, .row (.int .u64), .row sh5], ⟨[hh], [], []⟩, [.bool]⟩
noncomputable def E193 : Fun2 := eOf sg193 I.isPolicy
theorem ev193 (a : Args sg193.ks) : evS Tryz.prog G193 L193 (0, 0) [] Tryz.f193 c193 (kOf sg193) (sg193.sk.fl (encP sg193.ks a)) = unc sg193.ks I.isPolicy a := by kernel_rfl
theorem good193 : Vm.Good Tryz.prog 193 E193 := good_gen (G := G193) (L := L193) (c := c193) (rn := []) (N := (0, 0)) (envCons_good good252 (envCons_good good253 envNil_good)) lp193 Tryz.func193 (by kernel_rfl) (by kernel_rfl) (fun _ => by kernel_rfl) ev193
noncomputable def G51 : Env := (envCons 127 [] E127 envNil)
noncomputable def c51 : Code := bodyOf Tryz.f51
noncomputable def I.isTime (a1 : Int) : Option Bool :=
(Option.bind (I.in a1 0 1000) fun r2 =>
(some r2))
noncomputable def sg51 : Sg := ⟨⟨[hh], [], []⟩, [.int .i64], ⟨[hh], [], []⟩, [.bool]⟩
noncomputable def E51 : Fun2 := eOf sg51 I.isTime
theorem ev51 (a : Args sg51.ks) : evS Tryz.prog G51 loopNil (0, 0) [] Tryz.f51 c51 (kOf sg51) (sg51.sk.fl (encP sg51.ks a)) = unc sg51.ks I.isTime a := by kernel_rfl
theorem good51 : Vm.Good Tryz.prog 51 E51 := good_gen (G := G51) (L := loopNil) (c := c51) (rn := []) (N := (0, 0)) (envCons_good good127 envNil_good) (no_loops (c := c51) (by kernel_rfl)) Tryz.func51 (by kernel_rfl) (by kernel_rfl) (fun _ => by kernel_rfl) ev51
noncomputable def G254 : Env := envNil
noncomputable def c254 : Code := bodyOf Tryz.f254
noncomputable def c254_3 : Code := (loopsOf c254).getD 0 .skip
noncomputable def I.Marks_least_l0 : Nat → (Int → Option Int) → Int → Int → Int → (List (Int × Bool)) → Option Int
  | 0, _, _, _, _, _ => none
  | m + 1, e3_0, a4, a5, a6, a7 =>
    (bif (decide (a6 < a5)) then
    (bif decide ((0 : Int) ≤ a6 ∧ a6 < (a7.length : Int)) then
    (bif (!(nthI a7 a6 df8).2) then
    (bif (decide (a4 < 0)) then
    (I.Marks_least_l0 m e3_0 ((nthI a7 a6 df8).1) a5 (IntKind.wrap .i64 (a6 + 1)) a7)
    else
    (bif (decide ((nthI a7 a6 df8).1 < a4)) then
    (I.Marks_least_l0 m e3_0 ((nthI a7 a6 df8).1) a5 (IntKind.wrap .i64 (a6 + 1)) a7)
    else
    (I.Marks_least_l0 m e3_0 a4 a5 (IntKind.wrap .i64 (a6 + 1)) a7)))
    else
    (I.Marks_least_l0 m e3_0 a4 a5 (IntKind.wrap .i64 (a6 + 1)) a7))
    else
    none)
    else
    (e3_0 a4))
noncomputable def I.Marks_least (a1 : Int) (a2 : List (Int × Bool)) : Option Int :=
(I.Marks_least_l0 fu (fun y18 =>
(some y18)) (-1) (a2.length : Int) 0 a2)
noncomputable def H254_3 : LoopH := ⟨⟨(hu 3 (hh :: (hu 3 ((.one (.sl 0)) :: hh :: hh :: (hu 20 []))))), [], [(225, sh6, .ro)]⟩, ([0, 1, 2, 4, 5, 6] ++ rg 10 20), [], ([0, 1] ++ rg 4 26), [], []⟩
noncomputable def k254_3 : List PK := (ki 3 [.row sh6])
noncomputable def W254_3 (m : Nat) (k : Kont Int) : Cur k254_3 (Option Int) := I.Marks_least_l0 m (exF k (.exit 0) ⟨(hu 3 (hh :: (hu 26 []))), [], []⟩ [.int .i64])
noncomputable def E254_3 (m : Nat) : List Prm → Kont Int → Option Int := eL k254_3 (W254_3 m)
theorem ev254_3 (m : Nat) (k : Kont Int) (a : Args k254_3) : evL Tryz.prog G254 loopNil c254_3 (turn Tryz.prog (0, 0) H254_3 (E254_3 m) k) (H254_3.sk.fl (encP k254_3 a)) = unc k254_3 (W254_3 (m + 1) k) a := by kernel_rfl
theorem ok254_3 (m : Nat) : LoopOk Tryz.prog (0, 0) c254_3 (enter Tryz.prog (0, 0) H254_3 (E254_3 m)) := loop_gen (Fl := W254_3) (G := G254) (L := loopNil) envNil_good (no_loops (c := c254_3) (by kernel_rfl)) (fun _ _ => by kernel_rfl) ev254_3 m
noncomputable def L254 : LEnv Int := (loopCons 3 (enter Tryz.prog (0, 0) H254_3 (E254_3 fu)) loopNil)
theorem lq254 : loopsOf c254 = [c254_3] := by kernel_rfl
theorem fr254_3 : firstReg c254_3 = some 3 := by kernel_rfl
theorem le254_3 : L254 3 = enter Tryz.prog (0, 0) H254_3 (E254_3 fu) := by kernel_rfl
theorem lm254 : ∀ x ∈ [c254_3], ∀ id, firstReg x = some id → LoopOk Tryz.prog (0, 0) x (L254 id) := (loops_cons fr254_3 le254_3 (ok254_3 fu) loops_nil)
theorem lp254 : ∀ x ∈ loopsOf c254, ∀ id, firstReg x = some id → LoopOk Tryz.prog (0, 0) x (L254 id) := loops_eq lq254 lm254
noncomputable def sg254 : Sg := ⟨⟨[.agg [.hole, .sl 0]], [], [(225, sh6, .ro)]⟩, [.int .i64, .row sh6], ⟨[hh], [], []⟩, [.int .i64]⟩
noncomputable def E254 : Fun2 := eOf sg254 I.Marks_least
theorem ev254 (a : Args sg254.ks) : evS Tryz.prog G254 L254 (0, 0) [] Tryz.f254 c254 (kOf sg254) (sg254.sk.fl (encP sg254.ks a)) = unc sg254.ks I.Marks_least a := by kernel_rfl
theorem good254 : Vm.Good Tryz.prog 254 E254 := good_gen (G := G254) (L := L254) (c := c254) (rn := []) (N := (0, 0)) envNil_good lp254 Tryz.func254 (by kernel_rfl) (by kernel_rfl) (fun _ => by kernel_rfl) ev254
noncomputable def G194 : Env := (envCons 51 [] E51 (envCons 127 [] E127 (envCons 254 [] E254 envNil)))
noncomputable def c194 : Code := bodyOf Tryz.f194
noncomputable def c194_3 : Code := (loopsOf c194).getD 0 .skip
noncomputable def I.areMarks_l0 : Nat → (Bool → Int → Int → (List (Int × Bool)) → Option Bool) → (Int → Int → (List (Int × Bool)) → Option Bool) → Int → Int → Int → Int → (List (Int × Bool)) → Option Bool
  | 0, _, _, _, _, _, _, _ => none
  | m + 1, e3_0, e3_1, a4, a5, a6, a7, a8 =>
    (bif (decide (a6 < a5)) then
    (bif decide ((0 : Int) ≤ a6 ∧ a6 < (a8.length : Int)) then
    (Option.bind (I.isTime ((nthI a8 a6 df8).1)) fun r10 =>
    (bif (!r10) then
    (e3_0 false a4 a7 a8)
    else
    (let v11 : Int := (if (nthI a8 a6 df8).1 > a4 then (nthI a8 a6 df8).1 else a4)
    (I.areMarks_l0 m e3_0 e3_1 v11 a5 (IntKind.wrap .i64 (a6 + 1)) a7 a8))))
    else
    none)
    else
    (e3_1 a4 a7 a8))
noncomputable def I.areMarks (a1 : Int) (a2 : List (Int × Bool)) : Option Bool :=
(I.areMarks_l0 fu (fun y13 y14 y15 y16 =>
(some y13)) (fun y17 y18 y19 =>
(Option.bind (I.in (y19.length : Int) 1 4) fun r21 =>
(bif r21 then
(Option.bind (I.isTime y18) fun r22 =>
(bif r22 then
(Option.bind (I.Marks_least y18 y19) fun r23 =>
(Option.bind (I.in y18 r23 y17) fun r24 =>
(some r24)))
else
(some false)))
else
(some false)))) (-1) (a2.length : Int) 0 a1 a2)
noncomputable def H194_3 : LoopH := ⟨⟨((.one (.unk)) :: (.one (.ptr 0 0)) :: (.one (.unk)) :: hh :: (hu 3 ((.one (.sl 0)) :: hh :: hh :: (hu 29 [])))), [(53, [.hole, .sl 0])], [(225, sh6, .ro)]⟩, ([0, 2, 4, 5, 6] ++ rg 10 29), [], ([0] ++ rg 4 35), [], []⟩
noncomputable def k194_3 : List PK := (ki 4 [.row sh6])
noncomputable def W194_3 (m : Nat) (k : Kont Bool) : Cur k194_3 (Option Bool) := I.areMarks_l0 m (exF k .ret ⟨((.one (.unk)) :: (.one (.ptr 0 0)) :: hh :: hh :: (hu 35 [])), [(53, [.hole, .sl 0])], [(225, sh6, .ro)]⟩ ((.bool) :: (ki 2 [.row sh6]))) (exF k (.exit 0) ⟨((.one (.unk)) :: (.one (.ptr 0 0)) :: (.one (.unk)) :: hh :: (hu 35 [])), [(53, [.hole, .sl 0])], [(225, sh6, .ro)]⟩ (ki 2 [.row sh6]))
noncomputable def E194_3 (m : Nat) : List Prm → Kont Bool → Option Bool := eL k194_3 (W194_3 m)
theorem ev194_3 (m : Nat) (k : Kont Bool) (a : Args k194_3) : evL Tryz.prog G194 loopNil c194_3 (turn Tryz.prog (0, 0) H194_3 (E194_3 m) k) (H194_3.sk.fl (encP k194_3 a)) = unc k194_3 (W194_3 (m + 1) k) a := by kernel_rfl
theorem ok194_3 (m : Nat) : LoopOk Tryz.prog (0, 0) c194_3 (enter Tryz.prog (0, 0) H194_3 (E194_3 m)) := loop_gen (Fl := W194_3) (G := G194) (L := loopNil) (envCons_good good51 (envCons_good good127 (envCons_good good254 envNil_good))) (no_loops (c := c194_3) (by kernel_rfl)) (fun _ _ => by kernel_rfl) ev194_3 m
noncomputable def L194 : LEnv Bool := (loopCons 3 (enter Tryz.prog (0, 0) H194_3 (E194_3 fu)) loopNil)
theorem lq194 : loopsOf c194 = [c194_3] := by kernel_rfl
theorem fr194_3 : firstReg c194_3 = some 3 := by kernel_rfl
theorem le194_3 : L194 3 = enter Tryz.prog (0, 0) H194_3 (E194_3 fu) := by kernel_rfl
theorem lm194 : ∀ x ∈ [c194_3], ∀ id, firstReg x = some id → LoopOk Tryz.prog (0, 0) x (L194 id) := (loops_cons fr194_3 le194_3 (ok194_3 fu) loops_nil)
theorem lp194 : ∀ x ∈ loopsOf c194, ∀ id, firstReg x = some id → LoopOk Tryz.prog (0, 0) x (L194 id) := loops_eq lq194 lm194
noncomputable def sg194 : Sg := ⟨⟨[.agg [.hole, .sl 0]], [], [(225, sh6, .ro)]⟩, [.int .i64, .row sh6], ⟨[hh], [], []⟩, [.bool]⟩
noncomputable def E194 : Fun2 := eOf sg194 I.areMarks
theorem ev194 (a : Args sg194.ks) : evS Tryz.prog G194 L194 (0, 0) [] Tryz.f194 c194 (kOf sg194) (sg194.sk.fl (encP sg194.ks a)) = unc sg194.ks I.areMarks a := by kernel_rfl
theorem good194 : Vm.Good Tryz.prog 194 E194 := good_gen (G := G194) (L := L194) (c := c194) (rn := []) (N := (0, 0)) (envCons_good good51 (envCons_good good127 (envCons_good good254 envNil_good))) lp194 Tryz.func194 (by kernel_rfl) (by kernel_rfl) (fun _ => by kernel_rfl) ev194
noncomputable def G128 : Env := (envCons 127 [] E127 envNil)
noncomputable def c128 : Code := bodyOf Tryz.f128
noncomputable def I.isId (a1 : Int) : Option Bool :=
(Option.bind (I.in a1 0 3) fun r2 =>
(some r2))
noncomputable def sg128 : Sg := ⟨⟨[hh], [], []⟩, [.int .i64], ⟨[hh], [], []⟩, [.bool]⟩
noncomputable def E128 : Fun2 := eOf sg128 I.isId
theorem ev128 (a : Args sg128.ks) : evS Tryz.prog G128 loopNil (0, 0) [] Tryz.f128 c128 (kOf sg128) (sg128.sk.fl (encP sg128.ks a)) = unc sg128.ks I.isId a := by kernel_rfl
theorem good128 : Vm.Good Tryz.prog 128 E128 := good_gen (G := G128) (L := loopNil) (c := c128) (rn := []) (N := (0, 0)) (envCons_good good127 envNil_good) (no_loops (c := c128) (by kernel_rfl)) Tryz.func128 (by kernel_rfl) (by kernel_rfl) (fun _ => by kernel_rfl) ev128
noncomputable def G50 : Env := (envCons 128 [] E128 (envCons 129 [] E129 (envCons 127 [] E127 envNil)))
noncomputable def c50 : Code := bodyOf Tryz.f50
noncomputable def I.isCellPlace (a1 a2 a3 : Int) : Option Bool :=
(Option.bind (I.isId a1) fun r4 =>
(bif r4 then
(Option.bind (I.isKey a2) fun r5 =>
(bif r5 then
(Option.bind (I.in a3 0 15) fun r6 =>
(some r6))
else
(some false)))
else
(some false)))
noncomputable def sg50 : Sg := ⟨⟨[hh, hh, hh], [], []⟩, (ki 3 []), ⟨[hh], [], []⟩, [.bool]⟩
noncomputable def E50 : Fun2 := eOf sg50 I.isCellPlace
theorem ev50 (a : Args sg50.ks) : evS Tryz.prog G50 loopNil (0, 0) [] Tryz.f50 c50 (kOf sg50) (sg50.sk.fl (encP sg50.ks a)) = unc sg50.ks I.isCellPlace a := by kernel_rfl
theorem good50 : Vm.Good Tryz.prog 50 E50 := good_gen (G := G50) (L := loopNil) (c := c50) (rn := []) (N := (0, 0)) (envCons_good good128 (envCons_good good129 (envCons_good good127 envNil_good))) (no_loops (c := c50) (by kernel_rfl)) Tryz.func50 (by kernel_rfl) (by kernel_rfl) (fun _ => by kernel_rfl) ev50
noncomputable def G174 : Env := envNil
noncomputable def c174 : Code := bodyOf Tryz.f174
noncomputable def I.Cell_win (a1 a2 a3 a4 a5 a6 a7 a8 a9 a10 : Int) (a11 : List Int) : Option (Int × Int) :=
(some (a3, a4))
noncomputable def sg174 : Sg := ⟨⟨[.agg (ho 10 [.sl 0])], [], [(3, (.int .i64), .ro)]⟩, (ki 7 ((.int .u64) :: (ki 2 [.row (.int .i64)]))), ⟨[.agg (ho 2 [])], [], []⟩, (ki 2 [])⟩
noncomputable def E174 : Fun2 := eOf sg174 I.Cell_win
theorem ev174 (a : Args sg174.ks) : evS Tryz.prog G174 loopNil (0, 0) [] Tryz.f174 c174 (kOf sg174) (sg174.sk.fl (encP sg174.ks a)) = unc sg174.ks I.Cell_win a := by kernel_rfl
theorem good174 : Vm.Good Tryz.prog 174 E174 := good_gen (G := G174) (L := loopNil) (c := c174) (rn := []) (N := (0, 0)) envNil_good (no_loops (c := c174) (by kernel_rfl)) Tryz.func174 (by kernel_rfl) (by kernel_rfl) (fun _ => by kernel_rfl) ev174
noncomputable def G204 : Env := envNil
noncomputable def c204 : Code := bodyOf Tryz.f204
noncomputable def I.isWin (a1 a2 : Int) : Option Bool :=
(bif (decide (0 ≤ a1)) then
(bif (decide (a1 < a2)) then
(some (decide (a2 ≤ 1100)))
else
(some false))
else
(some false))
noncomputable def sg204 : Sg := ⟨⟨[.agg (ho 2 [])], [], []⟩, (ki 2 []), ⟨[hh], [], []⟩, [.bool]⟩
noncomputable def E204 : Fun2 := eOf sg204 I.isWin
theorem ev204 (a : Args sg204.ks) : evS Tryz.prog G204 loopNil (0, 0) [] Tryz.f204 c204 (kOf sg204) (sg204.sk.fl (encP sg204.ks a)) = unc sg204.ks I.isWin a := by kernel_rfl
theorem good204 : Vm.Good Tryz.prog 204 E204 := good_gen (G := G204) (L := loopNil) (c := c204) (rn := []) (N := (0, 0)) envNil_good (no_loops (c := c204) (by kernel_rfl)) Tryz.func204 (by kernel_rfl) (by kernel_rfl) (fun _ => by kernel_rfl) ev204
noncomputable def G216 : Env := envNil
noncomputable def c216 : Code := bodyOf Tryz.f216
noncomputable def I.WideOf (a1 : Int) : Option (Int × Int) :=
(bif decide ((0 : Int) ≤ 63) then
(some ((Int.fdiv a1 (2 ^ min (Int.toNat 63) (IntKind.bits .i64))), (IntKind.wrap .u64 a1)))
else
none)
noncomputable def sg216 : Sg := ⟨⟨[hh], [], []⟩, [.int .i64], ⟨[.agg (ho 2 [])], [], []⟩, [.int .i64, .int .u64]⟩
noncomputable def E216 : Fun2 := eOf sg216 I.WideOf
theorem ev216 (a : Args sg216.ks) : evS Tryz.prog G216 loopNil (0, 0) [] Tryz.f216 c216 (kOf sg216) (sg216.sk.fl (encP sg216.ks a)) = unc sg216.ks I.WideOf a := by kernel_rfl
theorem good216 : Vm.Good Tryz.prog 216 E216 := good_gen (G := G216) (L := loopNil) (c := c216) (rn := []) (N := (0, 0)) envNil_good (no_loops (c := c216) (by kernel_rfl)) Tryz.func216 (by kernel_rfl) (by kernel_rfl) (fun _ => by kernel_rfl) ev216
noncomputable def G215 : Env := envNil
noncomputable def c215 : Code := bodyOf Tryz.f215
noncomputable def I.WideAdd (a1 a2 a3 a4 : Int) : Option (Int × Int) :=
(bif decide ((0 : Int) ≤ a2 ∧ (0 : Int) ≤ a4 ∧ (0 : Int) ≤ 0 ∧ (0 : Int) ≤ 1) then
(some ((IntKind.wrap .i64 ((IntKind.wrap .i64 (a1 + a3)) + (IntKind.wrap .i64 ((a2 + a4 + 0) / 18446744073709551616)))), ((a2 + a4 + 0) % 18446744073709551616)))
else
none)
noncomputable def sg215 : Sg := ⟨⟨[.agg (ho 2 []), .agg (ho 2 [])], [], []⟩, [.int .i64, .int .u64, .int .i64, .int .u64], ⟨[.agg (ho 2 [])], [], []⟩, [.int .i64, .int .u64]⟩
noncomputable def E215 : Fun2 := eOf sg215 I.WideAdd
theorem ev215 (a : Args sg215.ks) : evS Tryz.prog G215 loopNil (0, 0) [] Tryz.f215 c215 (kOf sg215) (sg215.sk.fl (encP sg215.ks a)) = unc sg215.ks I.WideAdd a := by kernel_rfl
theorem good215 : Vm.Good Tryz.prog 215 E215 := good_gen (G := G215) (L := loopNil) (c := c215) (rn := []) (N := (0, 0)) envNil_good (no_loops (c := c215) (by kernel_rfl)) Tryz.func215 (by kernel_rfl) (by kernel_rfl) (fun _ => by kernel_rfl) ev215
noncomputable def G259 : Env := (envCons 215 [] E215 envNil)
noncomputable def c259 : Code := bodyOf Tryz.f259
noncomputable def I.WideNeg (a1 a2 : Int) : Option (Int × Int) :=
(let v3 : Int := (Go.bits .xor .i64 (if IntKind.signed .i64 then -1 else IntKind.max .i64) a1)
(let v4 : Int := (Go.bits .xor .u64 (if IntKind.signed .u64 then -1 else IntKind.max .u64) a2)
(Option.bind (I.WideAdd v3 v4 0 1) fun r5 =>
(some (r5.1, r5.2)))))
noncomputable def sg259 : Sg := ⟨⟨[.agg (ho 2 [])], [], []⟩, [.int .i64, .int .u64], ⟨[.agg (ho 2 [])], [], []⟩, [.int .i64, .int .u64]⟩
noncomputable def E259 : Fun2 := eOf sg259 I.WideNeg
theorem ev259 (a : Args sg259.ks) : evS Tryz.prog G259 loopNil (0, 0) [] Tryz.f259 c259 (kOf sg259) (sg259.sk.fl (encP sg259.ks a)) = unc sg259.ks I.WideNeg a := by kernel_rfl
theorem good259 : Vm.Good Tryz.prog 259 E259 := good_gen (G := G259) (L := loopNil) (c := c259) (rn := []) (N := (0, 0)) (envCons_good good215 envNil_good) (no_loops (c := c259) (by kernel_rfl)) Tryz.func259 (by kernel_rfl) (by kernel_rfl) (fun _ => by kernel_rfl) ev259
noncomputable def G294 : Env := envNil
noncomputable def c294 : Code := bodyOf Tryz.f294
noncomputable def G.bits.Mul64 (a1 a2 : Int) : Option (Int × Int) :=
(let v3 : Int := (Go.bits .and .u64 a1 4294967295)
(bif decide ((0 : Int) ≤ 32) then
(let v4 : Int := (Int.fdiv a1 (2 ^ min (Int.toNat 32) (IntKind.bits .u64)))
(let v5 : Int := (Go.bits .and .u64 a2 4294967295)
(bif decide ((0 : Int) ≤ 32) then
(let v6 : Int := (Int.fdiv a2 (2 ^ min (Int.toNat 32) (IntKind.bits .u64)))
(bif decide ((0 : Int) ≤ 32) then
(let v10 : Int := (IntKind.wrap .u64 ((IntKind.wrap .u64 (v4 * v5)) + (Int.fdiv (IntKind.wrap .u64 (v3 * v5)) (2 ^ min (Int.toNat 32) (IntKind.bits .u64)))))
(bif decide ((0 : Int) ≤ 32) then
(bif decide ((0 : Int) ≤ 32) then
(some ((IntKind.wrap .u64 ((IntKind.wrap .u64 ((IntKind.wrap .u64 (v4 * v6)) + (Int.fdiv v10 (2 ^ min (Int.toNat 32) (IntKind.bits .u64))))) + (Int.fdiv (IntKind.wrap .u64 ((Go.bits .and .u64 v10 4294967295) + (IntKind.wrap .u64 (v3 * v6)))) (2 ^ min (Int.toNat 32) (IntKind.bits .u64))))), (IntKind.wrap .u64 (a1 * a2))))
else
none)
else
none))
else
none))
else
none)))
else
none))
noncomputable def sg294 : Sg := ⟨⟨[hh, hh], [], []⟩, [.int .u64, .int .u64], ⟨[hh, hh], [], []⟩, [.int .u64, .int .u64]⟩
noncomputable def E294 : Fun2 := eOf sg294 G.bits.Mul64
theorem ev294 (a : Args sg294.ks) : evS Tryz.prog G294 loopNil (0, 0) [] Tryz.f294 c294 (kOf sg294) (sg294.sk.fl (encP sg294.ks a)) = unc sg294.ks G.bits.Mul64 a := by kernel_rfl
theorem good294 : Vm.Good Tryz.prog 294 E294 := good_gen (G := G294) (L := loopNil) (c := c294) (rn := []) (N := (0, 0)) envNil_good (no_loops (c := c294) (by kernel_rfl)) Tryz.func294 (by kernel_rfl) (by kernel_rfl) (fun _ => by kernel_rfl) ev294
noncomputable def G261 : Env := (envCons 294 [] E294 (envCons 259 [] E259 envNil))
noncomputable def c261 : Code := bodyOf Tryz.f261
noncomputable def I.wideTimes (a1 a2 : Int) : Option (Int × Int) :=
(let v3 : Int := (IntKind.wrap .u64 a1)
(bif (decide (a1 < 0)) then
(Option.bind (G.bits.Mul64 (IntKind.wrap .u64 (0 - v3)) (IntKind.wrap .u64 a2)) fun r7 =>
(let v8 : Int := (IntKind.wrap .i64 r7.1)
(bif (decide (a1 < 0)) then
(Option.bind (I.WideNeg v8 r7.2) fun r10 =>
(some (r10.1, r10.2)))
else
(some (v8, r7.2)))))
else
(Option.bind (G.bits.Mul64 v3 (IntKind.wrap .u64 a2)) fun r12 =>
(let v13 : Int := (IntKind.wrap .i64 r12.1)
(bif (decide (a1 < 0)) then
(Option.bind (I.WideNeg v13 r12.2) fun r15 =>
(some (r15.1, r15.2)))
else
(some (v13, r12.2)))))))
noncomputable def sg261 : Sg := ⟨⟨[hh, hh], [], []⟩, (ki 2 []), ⟨[.agg (ho 2 [])], [], []⟩, [.int .i64, .int .u64]⟩
noncomputable def E261 : Fun2 := eOf sg261 I.wideTimes
theorem ev261 (a : Args sg261.ks) : evS Tryz.prog G261 loopNil (0, 0) [] Tryz.f261 c261 (kOf sg261) (sg261.sk.fl (encP sg261.ks a)) = unc sg261.ks I.wideTimes a := by kernel_rfl
theorem good261 : Vm.Good Tryz.prog 261 E261 := good_gen (G := G261) (L := loopNil) (c := c261) (rn := []) (N := (0, 0)) (envCons_good good294 (envCons_good good259 envNil_good)) (no_loops (c := c261) (by kernel_rfl)) Tryz.func261 (by kernel_rfl) (by kernel_rfl) (fun _ => by kernel_rfl) ev261
noncomputable def G311 : Env := envNil
noncomputable def c311 : Code := bodyOf Tryz.f311
noncomputable def G.cmp.isNaN_uint64 (a1 : Int) : Option Bool :=
(some (a1 != a1))
noncomputable def sg311 : Sg := ⟨⟨[hh], [], []⟩, [.int .u64], ⟨[hh], [], []⟩, [.bool]⟩
noncomputable def E311 : Fun2 := eOf sg311 G.cmp.isNaN_uint64
theorem ev311 (a : Args sg311.ks) : evS Tryz.prog G311 loopNil (0, 0) [] Tryz.f311 c311 (kOf sg311) (sg311.sk.fl (encP sg311.ks a)) = unc sg311.ks G.cmp.isNaN_uint64 a := by kernel_rfl
theorem good311 : Vm.Good Tryz.prog 311 E311 := good_gen (G := G311) (L := loopNil) (c := c311) (rn := []) (N := (0, 0)) envNil_good (no_loops (c := c311) (by kernel_rfl)) Tryz.func311 (by kernel_rfl) (by kernel_rfl) (fun _ => by kernel_rfl) ev311
noncomputable def G293 : Env := (envCons 311 [] E311 envNil)
noncomputable def c293 : Code := bodyOf Tryz.f293
noncomputable def G.cmp.Compare_uint64 (a1 a2 : Int) : Option Int :=
(Option.bind (G.cmp.isNaN_uint64 a1) fun r3 =>
(Option.bind (G.cmp.isNaN_uint64 a2) fun r4 =>
(bif r3 then
(bif r4 then
(some 0)
else
(some (-1)))
else
(bif r4 then
(some 1)
else
(bif (decide (a1 < a2)) then
(some (-1))
else
(bif (decide (a2 < a1)) then
(some 1)
else
(some 0)))))))
noncomputable def sg293 : Sg := ⟨⟨[hh, hh], [], []⟩, [.int .u64, .int .u64], ⟨[hh], [], []⟩, [.int .i64]⟩
noncomputable def E293 : Fun2 := eOf sg293 G.cmp.Compare_uint64
theorem ev293 (a : Args sg293.ks) : evS Tryz.prog G293 loopNil (0, 0) [] Tryz.f293 c293 (kOf sg293) (sg293.sk.fl (encP sg293.ks a)) = unc sg293.ks G.cmp.Compare_uint64 a := by kernel_rfl
theorem good293 : Vm.Good Tryz.prog 293 E293 := good_gen (G := G293) (L := loopNil) (c := c293) (rn := []) (N := (0, 0)) (envCons_good good311 envNil_good) (no_loops (c := c293) (by kernel_rfl)) Tryz.func293 (by kernel_rfl) (by kernel_rfl) (fun _ => by kernel_rfl) ev293
noncomputable def G260 : Env := (envCons 208 [] E208 (envCons 293 [] E293 (envCons 206 [] E206 envNil)))
noncomputable def c260 : Code := bodyOf Tryz.f260
noncomputable def I.WideCmp (a1 a2 a3 a4 : Int) : Option Int :=
(Option.bind (G.cmp.Compare_int a1 a3) fun r5 =>
(Option.bind (G.cmp.Compare_uint64 a2 a4) fun r6 =>
(Option.bind (G.cmp.Or_int [r5, r6]) fun r7 =>
(some r7))))
noncomputable def sg260 : Sg := ⟨⟨[.agg (ho 2 []), .agg (ho 2 [])], [], []⟩, [.int .i64, .int .u64, .int .i64, .int .u64], ⟨[hh], [], []⟩, [.int .i64]⟩
noncomputable def E260 : Fun2 := eOf sg260 I.WideCmp
theorem ev260 (a : Args sg260.ks) : evS Tryz.prog G260 loopNil (0, 0) [] Tryz.f260 c260 (kOf sg260) (sg260.sk.fl (encP sg260.ks a)) = unc sg260.ks I.WideCmp a := by kernel_rfl
theorem good260 : Vm.Good Tryz.prog 260 E260 := good_gen (G := G260) (L := loopNil) (c := c260) (rn := []) (N := (0, 0)) (envCons_good good208 (envCons_good good293 (envCons_good good206 envNil_good))) (no_loops (c := c260) (by kernel_rfl)) Tryz.func260 (by kernel_rfl) (by kernel_rfl) (fun _ => by kernel_rfl) ev260
noncomputable def G205 : Env := (envCons 127 [] E127 (envCons 216 [] E216 (envCons 259 [] E259 (envCons 215 [] E215 (envCons 261 [] E261 (envCons 260 [] E260 envNil))))))
noncomputable def c205 : Code := bodyOf Tryz.f205
noncomputable def c205_7 : Code := (loopsOf c205).getD 0 .skip
noncomputable def I.isAgg_l0 : Nat → (Bool → Int → Int → Int → Int → Int → Int → Int → List Int → Option Bool) → (Int → Int → Int → Int → Int → Int → Int → List Int → Option Bool) → Int → Int → Int → Int → Int → Int → Int → Int → Int → List Int → Option Bool
  | 0, _, _, _, _, _, _, _, _, _, _, _, _ => none
  | m + 1, e7_0, e7_1, a14, a15, a16, a17, a18, a19, a20, a21, a22, a23 =>
    (bif (decide (a15 < a14)) then
    (bif decide ((0 : Int) ≤ a15 ∧ a15 < (a23.length : Int)) then
    (let v25 : Int := (nthI a23 a15 (0 : Int))
    (bif (decide (0 < a15)) then
    (let v27 : Int := (IntKind.wrap .i64 (a15 - 1))
    (bif decide ((0 : Int) ≤ v27 ∧ v27 < (a23.length : Int)) then
    (bif (decide ((nthI a23 v27 (0 : Int)) < v25)) then
    (e7_0 false a16 a17 a18 a19 a20 a21 a22 a23)
    else
    (Option.bind (I.WideOf v25) fun r29 =>
    (Option.bind (I.WideNeg r29.1 r29.2) fun r30 =>
    (Option.bind (I.WideAdd a21 a22 r30.1 r30.2) fun r31 =>
    (I.isAgg_l0 m e7_0 e7_1 a14 (IntKind.wrap .i64 (a15 + 1)) a16 a17 a18 a19 a20 r31.1 r31.2 a23)))))
    else
    none))
    else
    (Option.bind (I.WideOf v25) fun r33 =>
    (Option.bind (I.WideNeg r33.1 r33.2) fun r34 =>
    (Option.bind (I.WideAdd a21 a22 r34.1 r34.2) fun r35 =>
    (I.isAgg_l0 m e7_0 e7_1 a14 (IntKind.wrap .i64 (a15 + 1)) a16 a17 a18 a19 a20 r35.1 r35.2 a23))))))
    else
    none)
    else
    (e7_1 a16 a17 a18 a19 a20 a21 a22 a23))
noncomputable def I.isAgg (a1 a2 a3 a4 a5 : Int) (a6 : List Int) : Option Bool :=
(bif (a1 == 0) then
(bif ((a2 == 0) && ((a3 == 0) && true)) then
(bif (a4 == 0) then
(bif (a5 == 0) then
(some ((a6.length : Int) == 0))
else
(some false))
else
(some false))
else
(some false))
else
(Option.bind (I.in a1 1 1000000) fun r9 =>
(bif (!r9) then
(some false)
else
(bif ((a6.length : Int) != (if 4 < a1 then 4 else a1)) then
(some false)
else
(bif decide ((0 : Int) ≤ 0 ∧ 0 < (a6.length : Int)) then
(bif ((nthI a6 0 (0 : Int)) != a5) then
(some false)
else
(I.isAgg_l0 fu (fun y37 y38 y39 y40 y41 y42 y43 y44 y45 =>
(some y37)) (fun y46 y47 y48 y49 y50 y51 y52 y53 =>
(let v55 : Int := (IntKind.wrap .i64 ((y53.length : Int) - 1))
(bif decide ((0 : Int) ≤ v55 ∧ v55 < (y53.length : Int)) then
(let v56 : Int := (nthI y53 v55 (0 : Int))
(bif (decide (y46 ≤ 4)) then
(bif (y49 == v56) then
(some ((y51 == 0) && ((y52 == 0) && true)))
else
(some false))
else
(let v60 : Int := (IntKind.wrap .i64 ((IntKind.wrap .i64 (y46 - 4)) - 1))
(Option.bind (I.WideOf y49) fun r61 =>
(Option.bind (I.WideNeg r61.1 r61.2) fun r62 =>
(Option.bind (I.WideAdd y51 y52 r62.1 r62.2) fun r63 =>
(bif (decide (y49 ≤ v56)) then
(Option.bind (I.wideTimes y49 v60) fun r65 =>
(Option.bind (I.WideCmp r65.1 r65.2 r63.1 r63.2) fun r66 =>
(bif (decide (r66 ≤ 0)) then
(Option.bind (I.wideTimes v56 v60) fun r68 =>
(Option.bind (I.WideCmp r63.1 r63.2 r68.1 r68.2) fun r69 =>
(some (decide (r69 ≤ 0)))))
else
(some false))))
else
(some false))))))))
else
none))) (a6.length : Int) 0 a1 a2 a3 a4 a5 a2 a3 a6))
else
none)))))
noncomputable def H205_7 : LoopH := ⟨⟨((.one (.unk)) :: (.one (.ptr 0 0)) :: (.one (.unk)) :: (.one (.ptr 1 0)) :: (hu 52 ((.one (.sl 0)) :: hh :: hh :: (hu 73 [])))), [(102, (ho 5 [.sl 0])), (100, (ho 2 []))], [(3, (.int .i64), .ro)]⟩, ([0, 2] ++ rg 4 52 ++ rg 59 73), [], ([0] ++ rg 4 128), [], []⟩
noncomputable def k205_7 : List PK := (ki 4 ((.int .u64) :: (ki 3 [.int .u64, .row (.int .i64)])))
noncomputable def W205_7 (m : Nat) (k : Kont Bool) : Cur k205_7 (Option Bool) := I.isAgg_l0 m (exF k .ret ⟨((.one (.unk)) :: (.one (.ptr 0 0)) :: hh :: (.one (.ptr 1 0)) :: (hu 128 [])), [(102, (ho 5 [.sl 0])), (100, (ho 2 []))], [(3, (.int .i64), .ro)]⟩ ((.bool) :: (ki 2 ((.int .u64) :: (ki 3 [.int .u64, .row (.int .i64)]))))) (exF k (.exit 0) ⟨((.one (.unk)) :: (.one (.ptr 0 0)) :: (.one (.unk)) :: (.one (.ptr 1 0)) :: (hu 128 [])), [(102, (ho 5 [.sl 0])), (100, (ho 2 []))], [(3, (.int .i64), .ro)]⟩ (ki 2 ((.int .u64) :: (ki 3 [.int .u64, .row (.int .i64)]))))
noncomputable def E205_7 (m : Nat) : List Prm → Kont Bool → Option Bool := eL k205_7 (W205_7 m)
theorem ev205_7 (m : Nat) (k : Kont Bool) (a : Args k205_7) : evL Tryz.prog G205 loopNil c205_7 (turn Tryz.prog (0, 0) H205_7 (E205_7 m) k) (H205_7.sk.fl (encP k205_7 a)) = unc k205_7 (W205_7 (m + 1) k) a := by kernel_rfl
theorem ok205_7 (m : Nat) : LoopOk Tryz.prog (0, 0) c205_7 (enter Tryz.prog (0, 0) H205_7 (E205_7 m)) := loop_gen (Fl := W205_7) (G := G205) (L := loopNil) (envCons_good good127 (envCons_good good216 (envCons_good good259 (envCons_good good215 (envCons_good good261 (envCons_good good260 envNil_good)))))) (no_loops (c := c205_7) (by kernel_rfl)) (fun _ _ => by kernel_rfl) ev205_7 m
noncomputable def L205 : LEnv Bool := (loopCons 7 (enter Tryz.prog (0, 0) H205_7 (E205_7 fu)) loopNil)
theorem lq205 : loopsOf c205 = [c205_7] := by kernel_rfl
theorem fr205_7 : firstReg c205_7 = some 7 := by kernel_rfl
theorem le205_7 : L205 7 = enter Tryz.prog (0, 0) H205_7 (E205_7 fu) := by kernel_rfl
theorem lm205 : ∀ x ∈ [c205_7], ∀ id, firstReg x = some id → LoopOk Tryz.prog (0, 0) x (L205 id) := (loops_cons fr205_7 le205_7 (ok205_7 fu) loops_nil)
theorem lp205 : ∀ x ∈ loopsOf c205, ∀ id, firstReg x = some id → LoopOk Tryz.prog (0, 0) x (L205 id) := loops_eq lq205 lm205
noncomputable def sg205 : Sg := ⟨⟨[.agg (ho 5 [.sl 0])], [], [(3, (.int .i64), .ro)]⟩, (ki 2 ((.int .u64) :: (ki 2 [.row (.int .i64)]))), ⟨[hh], [], []⟩, [.bool]⟩
noncomputable def E205 : Fun2 := eOf sg205 I.isAgg
theorem ev205 (a : Args sg205.ks) : evS Tryz.prog G205 L205 (0, 0) [] Tryz.f205 c205 (kOf sg205) (sg205.sk.fl (encP sg205.ks a)) = unc sg205.ks I.isAgg a := by kernel_rfl
theorem good205 : Vm.Good Tryz.prog 205 E205 := good_gen (G := G205) (L := L205) (c := c205) (rn := []) (N := (0, 0)) (envCons_good good127 (envCons_good good216 (envCons_good good259 (envCons_good good215 (envCons_good good261 (envCons_good good260 envNil_good)))))) lp205 Tryz.func205 (by kernel_rfl) (by kernel_rfl) (fun _ => by kernel_rfl) ev205
noncomputable def G125 : Env := (envCons 50 [] E50 (envCons 174 [] E174 (envCons 204 [] E204 (envCons 205 [] E205 envNil))))
noncomputable def c125 : Code := bodyOf Tryz.f125
noncomputable def I.isCell (a1 a2 a3 a4 a5 a6 a7 a8 a9 a10 : Int) (a11 : List Int) : Option Bool :=
(Option.bind (I.isCellPlace a1 a2 a5) fun r12 =>
(bif r12 then
(Option.bind (I.Cell_win a1 a2 a3 a4 a5 a6 a7 a8 a9 a10 a11) fun r13 =>
(Option.bind (I.isWin r13.1 r13.2) fun r14 =>
(bif r14 then
(Option.bind (I.isAgg a6 a7 a8 a9 a10 a11) fun r15 =>
(bif r15 then
(some (decide (0 < a6)))
else
(some false)))
else
(some false))))
else
(some false)))
noncomputable def sg125 : Sg := ⟨⟨[.agg (ho 10 [.sl 0])], [], [(3, (.int .i64), .ro)]⟩, (ki 7 ((.int .u64) :: (ki 2 [.row (.int .i64)]))), ⟨[hh], [], []⟩, [.bool]⟩
noncomputable def E125 : Fun2 := eOf sg125 I.isCell
theorem ev125 (a : Args sg125.ks) : evS Tryz.prog G125 loopNil (0, 0) [] Tryz.f125 c125 (kOf sg125) (sg125.sk.fl (encP sg125.ks a)) = unc sg125.ks I.isCell a := by kernel_rfl
theorem good125 : Vm.Good Tryz.prog 125 E125 := good_gen (G := G125) (L := loopNil) (c := c125) (rn := []) (N := (0, 0)) (envCons_good good50 (envCons_good good174 (envCons_good good204 (envCons_good good205 envNil_good)))) (no_loops (c := c125) (by kernel_rfl)) Tryz.func125 (by kernel_rfl) (by kernel_rfl) (fun _ => by kernel_rfl) ev125
noncomputable def G207 : Env := (envCons 208 [] E208 (envCons 206 [] E206 envNil))
noncomputable def c207 : Code := bodyOf Tryz.f207
noncomputable def I.compareSeats (a1 a2 a3 a4 a5 a6 a7 a8 a9 a10 a11 a12 a13 a14 a15 a16 a17 a18 a19 a20 : Int) (a21 a22 : List Int) : Option Int :=
(Option.bind (G.cmp.Compare_int a1 a11) fun r23 =>
(Option.bind (G.cmp.Compare_int a2 a12) fun r24 =>
(Option.bind (G.cmp.Compare_int a3 a13) fun r25 =>
(Option.bind (G.cmp.Compare_int a4 a14) fun r26 =>
(Option.bind (G.cmp.Or_int [r23, r24, r25, r26]) fun r28 =>
(some r28))))))
noncomputable def sg207 : Sg := ⟨⟨[.agg (ho 10 [.sl 0]), .agg (ho 10 [.sl 1])], [], [(3, (.int .i64), .ro), (3, (.int .i64), .ro)]⟩, (ki 7 ((.int .u64) :: (ki 9 ((.int .u64) :: (ki 2 [.row (.int .i64), .row (.int .i64)]))))), ⟨[hh], [], []⟩, [.int .i64]⟩
noncomputable def E207 : Fun2 := eOf sg207 I.compareSeats
theorem ev207 (a : Args sg207.ks) : evS Tryz.prog G207 loopNil (0, 0) [] Tryz.f207 c207 (kOf sg207) (sg207.sk.fl (encP sg207.ks a)) = unc sg207.ks I.compareSeats a := by kernel_rfl
theorem good207 : Vm.Good Tryz.prog 207 E207 := good_gen (G := G207) (L := loopNil) (c := c207) (rn := []) (N := (0, 0)) (envCons_good good208 (envCons_good good206 envNil_good)) (no_loops (c := c207) (by kernel_rfl)) Tryz.func207 (by kernel_rfl) (by kernel_rfl) (fun _ => by kernel_rfl) ev207
noncomputable def G126 : Env := (envCons 207 [] E207 (envCons 208 [] E208 (envCons 206 [] E206 envNil)))
noncomputable def c126 : Code := bodyOf Tryz.f126
noncomputable def I.compareCells (a1 a2 a3 a4 a5 a6 a7 a8 a9 a10 a11 a12 a13 a14 a15 a16 a17 a18 a19 a20 : Int) (a21 a22 : List Int) : Option Int :=
(Option.bind (I.compareSeats a1 a2 a3 a4 a5 a6 a7 a8 a9 a10 a11 a12 a13 a14 a15 a16 a17 a18 a19 a20 a21 a22) fun r23 =>
(Option.bind (G.cmp.Compare_int a5 a15) fun r24 =>
(Option.bind (G.cmp.Or_int [r23, r24]) fun r25 =>
(some r25))))
noncomputable def sg126 : Sg := ⟨⟨[.agg (ho 10 [.sl 0]), .agg (ho 10 [.sl 1])], [], [(3, (.int .i64), .ro), (3, (.int .i64), .ro)]⟩, (ki 7 ((.int .u64) :: (ki 9 ((.int .u64) :: (ki 2 [.row (.int .i64), .row (.int .i64)]))))), ⟨[hh], [], []⟩, [.int .i64]⟩
noncomputable def E126 : Fun2 := eOf sg126 I.compareCells
theorem ev126 (a : Args sg126.ks) : evS Tryz.prog G126 loopNil (0, 0) [] Tryz.f126 c126 (kOf sg126) (sg126.sk.fl (encP sg126.ks a)) = unc sg126.ks I.compareCells a := by kernel_rfl
theorem good126 : Vm.Good Tryz.prog 126 E126 := good_gen (G := G126) (L := loopNil) (c := c126) (rn := []) (N := (0, 0)) (envCons_good good207 (envCons_good good208 (envCons_good good206 envNil_good))) (no_loops (c := c126) (by kernel_rfl)) Tryz.func126 (by kernel_rfl) (by kernel_rfl) (fun _ => by kernel_rfl) ev126
noncomputable def G48 : Env := (envCons 125 [] E125 (envCons 126 [] E126 envNil))
noncomputable def c48 : Code := bodyOf Tryz.f48
noncomputable def c48_2 : Code := (loopsOf c48).getD 0 .skip
noncomputable def I.areCells_l0 : Nat → (Bool → (List ty5) → Option Bool) → ((List ty5) → Option Bool) → Int → Int → (List ty5) → Option Bool
  | 0, _, _, _, _, _ => none
  | m + 1, e2_0, e2_1, a3, a4, a5 =>
    (bif (decide (a4 < a3)) then
    (bif decide ((0 : Int) ≤ a4 ∧ a4 < (a5.length : Int)) then
    (Option.bind (I.isCell ((nthI a5 a4 df3).1) ((nthI a5 a4 df3).2.1) ((nthI a5 a4 df3).2.2.1) ((nthI a5 a4 df3).2.2.2.1) ((nthI a5 a4 df3).2.2.2.2.1) ((nthI a5 a4 df3).2.2.2.2.2.1) ((nthI a5 a4 df3).2.2.2.2.2.2.1.1) ((nthI a5 a4 df3).2.2.2.2.2.2.1.2) ((nthI a5 a4 df3).2.2.2.2.2.2.2.1) ((nthI a5 a4 df3).2.2.2.2.2.2.2.2.1) ((nthI a5 a4 df3).2.2.2.2.2.2.2.2.2)) fun r7 =>
    (bif (!r7) then
    (e2_0 false a5)
    else
    (bif (decide (0 < a4)) then
    (let v9 : Int := (IntKind.wrap .i64 (a4 - 1))
    (bif decide ((0 : Int) ≤ v9 ∧ v9 < (a5.length : Int)) then
    (Option.bind (I.compareCells ((nthI a5 v9 df3).1) ((nthI a5 v9 df3).2.1) ((nthI a5 v9 df3).2.2.1) ((nthI a5 v9 df3).2.2.2.1) ((nthI a5 v9 df3).2.2.2.2.1) ((nthI a5 v9 df3).2.2.2.2.2.1) ((nthI a5 v9 df3).2.2.2.2.2.2.1.1) ((nthI a5 v9 df3).2.2.2.2.2.2.1.2) ((nthI a5 v9 df3).2.2.2.2.2.2.2.1) ((nthI a5 v9 df3).2.2.2.2.2.2.2.2.1) ((nthI a5 a4 df3).1) ((nthI a5 a4 df3).2.1) ((nthI a5 a4 df3).2.2.1) ((nthI a5 a4 df3).2.2.2.1) ((nthI a5 a4 df3).2.2.2.2.1) ((nthI a5 a4 df3).2.2.2.2.2.1) ((nthI a5 a4 df3).2.2.2.2.2.2.1.1) ((nthI a5 a4 df3).2.2.2.2.2.2.1.2) ((nthI a5 a4 df3).2.2.2.2.2.2.2.1) ((nthI a5 a4 df3).2.2.2.2.2.2.2.2.1) ((nthI a5 v9 df3).2.2.2.2.2.2.2.2.2) ((nthI a5 a4 df3).2.2.2.2.2.2.2.2.2)) fun r10 =>
    (bif (decide (0 ≤ r10)) then
    (e2_0 false a5)
    else
    (I.areCells_l0 m e2_0 e2_1 a3 (IntKind.wrap .i64 (a4 + 1)) a5)))
    else
    none))
    else
    (I.areCells_l0 m e2_0 e2_1 a3 (IntKind.wrap .i64 (a4 + 1)) a5))))
    else
    none)
    else
    (e2_1 a5))
noncomputable def I.areCells (a1 : List ty5) : Option Bool :=
(I.areCells_l0 fu (fun y14 y15 =>
(some y14)) (fun y16 =>
(some (decide ((y16.length : Int) ≤ 10000)))) (a1.length : Int) 0 a1)
noncomputable def H48_2 : LoopH := ⟨⟨((.one (.sl 0)) :: (hu 4 ((.one (.sl 0)) :: hh :: hh :: (hu 25 [])))), [], [(105, sh7, .ro)]⟩, (rg 1 4 ++ rg 8 25), [], ([1] ++ rg 3 30), [], []⟩
noncomputable def k48_2 : List PK := (ki 2 [.row sh7])
noncomputable def W48_2 (m : Nat) (k : Kont Bool) : Cur k48_2 (Option Bool) := I.areCells_l0 m (exF k .ret ⟨((.one (.sl 0)) :: (.one (.unk)) :: hh :: (hu 30 [])), [], [(105, sh7, .ro)]⟩ [.bool, .row sh7]) (exF k (.exit 0) ⟨((.one (.sl 0)) :: (hu 32 [])), [], [(105, sh7, .ro)]⟩ [.row sh7])
noncomputable def E48_2 (m : Nat) : List Prm → Kont Bool → Option Bool := eL k48_2 (W48_2 m)
theorem ev48_2 (m : Nat) (k : Kont Bool) (a : Args k48_2) : evL Tryz.prog G48 loopNil c48_2 (turn Tryz.prog (0, 0) H48_2 (E48_2 m) k) (H48_2.sk.fl (encP k48_2 a)) = unc k48_2 (W48_2 (m + 1) k) a := by kernel_rfl
theorem ok48_2 (m : Nat) : LoopOk Tryz.prog (0, 0) c48_2 (enter Tryz.prog (0, 0) H48_2 (E48_2 m)) := loop_gen (Fl := W48_2) (G := G48) (L := loopNil) (envCons_good good125 (envCons_good good126 envNil_good)) (no_loops (c := c48_2) (by kernel_rfl)) (fun _ _ => by kernel_rfl) ev48_2 m
noncomputable def L48 : LEnv Bool := (loopCons 2 (enter Tryz.prog (0, 0) H48_2 (E48_2 fu)) loopNil)
theorem lq48 : loopsOf c48 = [c48_2] := by kernel_rfl
theorem fr48_2 : firstReg c48_2 = some 2 := by kernel_rfl
theorem le48_2 : L48 2 = enter Tryz.prog (0, 0) H48_2 (E48_2 fu) := by kernel_rfl
theorem lm48 : ∀ x ∈ [c48_2], ∀ id, firstReg x = some id → LoopOk Tryz.prog (0, 0) x (L48 id) := (loops_cons fr48_2 le48_2 (ok48_2 fu) loops_nil)
theorem lp48 : ∀ x ∈ loopsOf c48, ∀ id, firstReg x = some id → LoopOk Tryz.prog (0, 0) x (L48 id) := loops_eq lq48 lm48
noncomputable def sg48 : Sg := ⟨⟨[.one (.sl 0)], [], [(105, sh7, .ro)]⟩, [.row sh7], ⟨[hh], [], []⟩, [.bool]⟩
noncomputable def E48 : Fun2 := eOf sg48 I.areCells
theorem ev48 (a : Args sg48.ks) : evS Tryz.prog G48 L48 (0, 0) [] Tryz.f48 c48 (kOf sg48) (sg48.sk.fl (encP sg48.ks a)) = unc sg48.ks I.areCells a := by kernel_rfl
theorem good48 : Vm.Good Tryz.prog 48 E48 := good_gen (G := G48) (L := L48) (c := c48) (rn := []) (N := (0, 0)) (envCons_good good125 (envCons_good good126 envNil_good)) lp48 Tryz.func48 (by kernel_rfl) (by kernel_rfl) (fun _ => by kernel_rfl) ev48
noncomputable def G255 : Env := (envCons 127 [] E127 envNil)
noncomputable def c255 : Code := bodyOf Tryz.f255
noncomputable def I.isRuleNumber (a1 : Int) : Option Bool :=
(Option.bind (I.in a1 (-1) 15) fun r2 =>
(some r2))
noncomputable def sg255 : Sg := ⟨⟨[hh], [], []⟩, [.int .i64], ⟨[hh], [], []⟩, [.bool]⟩
noncomputable def E255 : Fun2 := eOf sg255 I.isRuleNumber
theorem ev255 (a : Args sg255.ks) : evS Tryz.prog G255 loopNil (0, 0) [] Tryz.f255 c255 (kOf sg255) (sg255.sk.fl (encP sg255.ks a)) = unc sg255.ks I.isRuleNumber a := by kernel_rfl
theorem good255 : Vm.Good Tryz.prog 255 E255 := good_gen (G := G255) (L := loopNil) (c := c255) (rn := []) (N := (0, 0)) (envCons_good good127 envNil_good) (no_loops (c := c255) (by kernel_rfl)) Tryz.func255 (by kernel_rfl) (by kernel_rfl) (fun _ => by kernel_rfl) ev255
noncomputable def G256 : Env := (envCons 128 [] E128 (envCons 129 [] E129 (envCons 204 [] E204 (envCons 127 [] E127 envNil))))
noncomputable def c256 : Code := bodyOf Tryz.f256
noncomputable def I.isPane (a1 a2 a3 a4 a5 a6 : Int) (a7 : Bool) (a8 : List Int) : Option Bool :=
(Option.bind (I.isId a1) fun r9 =>
(bif r9 then
(Option.bind (I.isKey a2) fun r10 =>
(bif r10 then
(Option.bind (I.isWin a3 a4) fun r11 =>
(bif r11 then
(Option.bind (I.in a5 0 15) fun r12 =>
(bif r12 then
(Option.bind (I.in a6 1 1000000) fun r13 =>
(bif r13 then
(bif (decide ((a8.length : Int) ≤ 4)) then
(some (((a8.length : Int) == 0) == a7))
else
(some false))
else
(some false)))
else
(some false)))
else
(some false)))
else
(some false)))
else
(some false)))
noncomputable def sg256 : Sg := ⟨⟨[.agg (ho 6 [.sl 0, .hole])], [], [(3, (.int .i64), .ro)]⟩, (ki 6 [.bool, .row (.int .i64)]), ⟨[hh], [], []⟩, [.bool]⟩
noncomputable def E256 : Fun2 := eOf sg256 I.isPane
theorem ev256 (a : Args sg256.ks) : evS Tryz.prog G256 loopNil (0, 0) [] Tryz.f256 c256 (kOf sg256) (sg256.sk.fl (encP sg256.ks a)) = unc sg256.ks I.isPane a := by kernel_rfl
theorem good256 : Vm.Good Tryz.prog 256 E256 := good_gen (G := G256) (L := loopNil) (c := c256) (rn := []) (N := (0, 0)) (envCons_good good128 (envCons_good good129 (envCons_good good204 (envCons_good good127 envNil_good)))) (no_loops (c := c256) (by kernel_rfl)) Tryz.func256 (by kernel_rfl) (by kernel_rfl) (fun _ => by kernel_rfl) ev256
noncomputable def G195 : Env := (envCons 147 [] E147 (envCons 127 [] E127 (envCons 255 [] E255 (envCons 256 [] E256 envNil))))
noncomputable def c195 : Code := bodyOf Tryz.f195
noncomputable def c195_6 : Code := (loopsOf c195).getD 0 .skip
noncomputable def c195_12 : Code := (loopsOf c195).getD 1 .skip
noncomputable def c195_18 : Code := (loopsOf c195).getD 2 .skip
noncomputable def I.isBox_l0 : Nat → (Bool → Int → Int → Int → Int → (List ty7) → (List (Int × Int × Int)) → Option Bool) → (Int → Int → Int → Int → (List ty7) → (List (Int × Int × Int)) → Option Bool) → Int → Int → Int → Int → Int → Int → (List ty7) → (List (Int × Int × Int)) → Option Bool
  | 0, _, _, _, _, _, _, _, _, _, _ => none
  | m + 1, e6_0, e6_1, a20, a21, a22, a23, a24, a25, a26, a27 =>
    (bif (decide (a21 < a20)) then
    (bif decide ((0 : Int) ≤ a21 ∧ a21 < (a26.length : Int)) then
    (let v32 : Bool := ((nthI a26 a21 df4).1 != (IntKind.wrap .i64 ((IntKind.wrap .i64 (a24 - (a26.length : Int))) + a21)))
    (bif v32 then
    (e6_0 false a22 a23 a24 a25 a26 a27)
    else
    (Option.bind (I.isRuleNumber ((nthI a26 a21 df4).2.1)) fun r33 =>
    (bif (!r33) then
    (e6_0 false a22 a23 a24 a25 a26 a27)
    else
    (Option.bind (I.isPane ((nthI a26 a21 df4).2.2.1) ((nthI a26 a21 df4).2.2.2.1) ((nthI a26 a21 df4).2.2.2.2.1) ((nthI a26 a21 df4).2.2.2.2.2.1) ((nthI a26 a21 df4).2.2.2.2.2.2.1) ((nthI a26 a21 df4).2.2.2.2.2.2.2.1) ((nthI a26 a21 df4).2.2.2.2.2.2.2.2.2) ((nthI a26 a21 df4).2.2.2.2.2.2.2.2.1)) fun r34 =>
    (bif (!r34) then
    (e6_0 false a22 a23 a24 a25 a26 a27)
    else
    (I.isBox_l0 m e6_0 e6_1 a20 (IntKind.wrap .i64 (a21 + 1)) a22 a23 a24 a25 a26 a27)))))))
    else
    none)
    else
    (e6_1 a22 a23 a24 a25 a26 a27))
noncomputable def I.isBox_l1 : Nat → (Bool → Int → Int → Int → Int → (List ty7) → (List (Int × Int × Int)) → Option Bool) → (Int → Int → Int → Int → (List ty7) → (List (Int × Int × Int)) → Option Bool) → Int → Int → Int → Int → Int → Int → (List (Int × Int × Int)) → (List ty7) → Option Bool
  | 0, _, _, _, _, _, _, _, _, _, _ => none
  | m + 1, e12_0, e12_1, a50, a51, a52, a53, a54, a55, a56, a57 =>
    (bif (decide (a51 < a50)) then
    (bif decide ((0 : Int) ≤ a51 ∧ a51 < (a56.length : Int)) then
    (let v62 : Bool := ((nthI a56 a51 df1).1 != (IntKind.wrap .i64 ((IntKind.wrap .i64 (a54 - (a56.length : Int))) + a51)))
    (bif v62 then
    (e12_0 false a52 a53 a54 a55 a57 a56)
    else
    (Option.bind (I.isRuleNumber ((nthI a56 a51 df1).2.1)) fun r63 =>
    (bif (!r63) then
    (e12_0 false a52 a53 a54 a55 a57 a56)
    else
    (Option.bind (I.in ((nthI a56 a51 df1).2.2) 0 15) fun r64 =>
    (bif (!r64) then
    (e12_0 false a52 a53 a54 a55 a57 a56)
    else
    (I.isBox_l1 m e12_0 e12_1 a50 (IntKind.wrap .i64 (a51 + 1)) a52 a53 a54 a55 a56 a57)))))))
    else
    none)
    else
    (e12_1 a52 a53 a54 a55 a57 a56))
noncomputable def I.isBox_l2 : Nat → (Bool → Option Bool) → (Option Bool) → Int → Int → Int → Int → Int → Int → (List ty7) → (List (Int × Int × Int)) → Option Bool
  | 0, _, _, _, _, _, _, _, _, _, _ => none
  | m + 1, e18_0, e18_1, a82, a83, a84, a85, a86, a87, a88, a89 =>
    (bif (decide (a83 < a82)) then
    (let v93 : Int := (IntKind.wrap .i64 ((IntKind.wrap .i64 ((a88.length : Int) - 1)) - a83))
    (bif decide ((0 : Int) ≤ v93 ∧ v93 < (a88.length : Int)) then
    (let v96 : Int := (IntKind.wrap .i64 ((IntKind.wrap .i64 ((a89.length : Int) - 1)) - a83))
    (bif decide ((0 : Int) ≤ v96 ∧ v96 < (a89.length : Int)) then
    (dup (let v97 : Bool := ((nthI a88 v93 df4).2.1 != (nthI a89 v96 df1).2.1)
    (bif v97 then
    (e18_0 false)
    else
    (let v98 : Bool := ((nthI a88 v93 df4).2.2.2.2.2.2.1 != (nthI a89 v96 df1).2.2)
    (bif v98 then
    (e18_0 false)
    else
    (I.isBox_l2 m e18_0 e18_1 a82 (IntKind.wrap .i64 (a83 + 1)) a84 a85 a86 a87 a88 a89))))))
    else
    none))
    else
    none))
    else
    e18_1)
noncomputable def I.isBox (a1 a2 a3 a4 : Int) (a5 : List ty7) (a6 : List (Int × Int × Int)) : Option Bool :=
(Option.bind (I.isCap a1) fun r7 =>
(bif (!r7) then
(some false)
else
(Option.bind (I.isCap a2) fun r8 =>
(bif (!r8) then
(some false)
else
(Option.bind (I.in a3 0 1000000) fun r9 =>
(bif (!r9) then
(some false)
else
(Option.bind (I.in a4 0 1000000) fun r10 =>
(bif (!r10) then
(some false)
else
(bif (decide (a1 < (a5.length : Int))) then
(some false)
else
(bif (decide (a2 < (a6.length : Int))) then
(some false)
else
(bif (decide (a3 < (a5.length : Int))) then
(some false)
else
(bif (decide (a3 < (a6.length : Int))) then
(some false)
else
(I.isBox_l0 fu (fun y36 y37 y38 y39 y40 y41 y42 =>
(some y36)) (fun y43 y44 y45 y46 y47 y48 =>
(I.isBox_l1 fu (fun y66 y67 y68 y69 y70 y71 y72 =>
(some y66)) (fun y73 y74 y75 y76 y77 y78 =>
(let v79 : Int := (y77.length : Int)
(let v80 : Int := (y78.length : Int)
(I.isBox_l2 fu (fun y100 =>
(some y100)) (some true) (if v80 < v79 then v80 else v79) 0 y73 y74 y75 y76 y77 y78)))) (y48.length : Int) 0 y43 y44 y45 y46 y48 y47)) (a5.length : Int) 0 a1 a2 a3 a4 a5 a6)))))))))))))
noncomputable def H195_6 : LoopH := ⟨⟨((.one (.unk)) :: (.one (.ptr 0 0)) :: (hu 61 ((.one (.sl 0)) :: hh :: hh :: (hu 104 [])))), [(122, (ho 4 [.sl 0, .sl 1]))], [(230, sh8, .ro), (233, sh3, .ro)]⟩, ([0] ++ rg 2 61 ++ rg 66 104), [], ([0] ++ rg 3 167), [], []⟩
noncomputable def k195_6 : List PK := (ki 6 [.row sh8, .row sh3])
noncomputable def W195_6 (m : Nat) (k : Kont Bool) : Cur k195_6 (Option Bool) := I.isBox_l0 m (exF k .ret ⟨((.one (.unk)) :: (.one (.ptr 0 0)) :: hh :: (hu 167 [])), [(122, (ho 4 [.sl 0, .sl 1]))], [(230, sh8, .ro), (233, sh3, .ro)]⟩ ((.bool) :: (ki 4 [.row sh8, .row sh3]))) (exF k (.exit 0) ⟨((.one (.unk)) :: (.one (.ptr 0 0)) :: (hu 168 [])), [(122, (ho 4 [.sl 0, .sl 1]))], [(230, sh8, .ro), (233, sh3, .ro)]⟩ (ki 4 [.row sh8, .row sh3]))
noncomputable def E195_6 (m : Nat) : List Prm → Kont Bool → Option Bool := eL k195_6 (W195_6 m)
theorem ev195_6 (m : Nat) (k : Kont Bool) (a : Args k195_6) : evL Tryz.prog G195 loopNil c195_6 (turn Tryz.prog (0, 0) H195_6 (E195_6 m) k) (H195_6.sk.fl (encP k195_6 a)) = unc k195_6 (W195_6 (m + 1) k) a := by kernel_rfl
theorem ok195_6 (m : Nat) : LoopOk Tryz.prog (0, 0) c195_6 (enter Tryz.prog (0, 0) H195_6 (E195_6 m)) := loop_gen (Fl := W195_6) (G := G195) (L := loopNil) (envCons_good good147 (envCons_good good127 (envCons_good good255 (envCons_good good256 envNil_good)))) (no_loops (c := c195_6) (by kernel_rfl)) (fun _ _ => by kernel_rfl) ev195_6 m
noncomputable def H195_12 : LoopH := ⟨⟨((.one (.unk)) :: (.one (.ptr 0 0)) :: (hu 93 ((.one (.sl 0)) :: hh :: hh :: (hu 72 [])))), [(122, (ho 4 [.sl 1, .sl 0]))], [(233, sh3, .ro), (230, sh8, .ro)]⟩, ([0] ++ rg 2 93 ++ rg 98 72), [], ([0] ++ rg 3 167), [], []⟩
noncomputable def k195_12 : List PK := (ki 6 [.row sh3, .row sh8])
noncomputable def W195_12 (m : Nat) (k : Kont Bool) : Cur k195_12 (Option Bool) := I.isBox_l1 m (exF k .ret ⟨((.one (.unk)) :: (.one (.ptr 0 0)) :: hh :: (hu 167 [])), [(122, (ho 4 [.sl 0, .sl 1]))], [(230, sh8, .ro), (233, sh3, .ro)]⟩ ((.bool) :: (ki 4 [.row sh8, .row sh3]))) (exF k (.exit 2) ⟨((.one (.unk)) :: (.one (.ptr 0 0)) :: (hu 168 [])), [(122, (ho 4 [.sl 0, .sl 1]))], [(230, sh8, .ro), (233, sh3, .ro)]⟩ (ki 4 [.row sh8, .row sh3]))
noncomputable def E195_12 (m : Nat) : List Prm → Kont Bool → Option Bool := eL k195_12 (W195_12 m)
theorem ev195_12 (m : Nat) (k : Kont Bool) (a : Args k195_12) : evL Tryz.prog G195 loopNil c195_12 (turn Tryz.prog (0, 0) H195_12 (E195_12 m) k) (H195_12.sk.fl (encP k195_12 a)) = unc k195_12 (W195_12 (m + 1) k) a := by kernel_rfl
theorem ok195_12 (m : Nat) : LoopOk Tryz.prog (0, 0) c195_12 (enter Tryz.prog (0, 0) H195_12 (E195_12 m)) := loop_gen (Fl := W195_12) (G := G195) (L := loopNil) (envCons_good good147 (envCons_good good127 (envCons_good good255 (envCons_good good256 envNil_good)))) (no_loops (c := c195_12) (by kernel_rfl)) (fun _ _ => by kernel_rfl) ev195_12 m
noncomputable def H195_18 : LoopH := ⟨⟨((.one (.unk)) :: (.one (.ptr 0 0)) :: (hu 130 (hh :: hh :: (hu 36 [])))), [(122, (ho 4 [.sl 0, .sl 1]))], [(230, sh8, .ro), (233, sh3, .ro)]⟩, ([0] ++ rg 2 130 ++ rg 134 36), [], ([0, 1] ++ rg 3 167), [], []⟩
noncomputable def k195_18 : List PK := (ki 6 [.row sh8, .row sh3])
noncomputable def W195_18 (m : Nat) (k : Kont Bool) : Cur k195_18 (Option Bool) := I.isBox_l2 m (exF k .ret ⟨(hu 2 (hh :: (hu 167 []))), [], []⟩ [.bool]) (exF k (.exit 4) ⟨(hu 170 []), [], []⟩ [])
noncomputable def E195_18 (m : Nat) : List Prm → Kont Bool → Option Bool := eL k195_18 (W195_18 m)
theorem ev195_18 (m : Nat) (k : Kont Bool) (a : Args k195_18) : evL Tryz.prog G195 loopNil c195_18 (turn Tryz.prog (0, 0) H195_18 (E195_18 m) k) (H195_18.sk.fl (encP k195_18 a)) = unc k195_18 (W195_18 (m + 1) k) a := by kernel_rfl
theorem ok195_18 (m : Nat) : LoopOk Tryz.prog (0, 0) c195_18 (enter Tryz.prog (0, 0) H195_18 (E195_18 m)) := loop_gen (Fl := W195_18) (G := G195) (L := loopNil) (envCons_good good147 (envCons_good good127 (envCons_good good255 (envCons_good good256 envNil_good)))) (no_loops (c := c195_18) (by kernel_rfl)) (fun _ _ => by kernel_rfl) ev195_18 m
noncomputable def L195 : LEnv Bool := (loopCons 6 (enter Tryz.prog (0, 0) H195_6 (E195_6 fu)) (loopCons 12 (enter Tryz.prog (0, 0) H195_12 (E195_12 fu)) (loopCons 18 (enter Tryz.prog (0, 0) H195_18 (E195_18 fu)) loopNil)))
theorem lq195 : loopsOf c195 = [c195_6, c195_12, c195_18] := by kernel_rfl
theorem fr195_6 : firstReg c195_6 = some 6 := by kernel_rfl
theorem le195_6 : L195 6 = enter Tryz.prog (0, 0) H195_6 (E195_6 fu) := by kernel_rfl
theorem fr195_12 : firstReg c195_12 = some 12 := by kernel_rfl
theorem le195_12 : L195 12 = enter Tryz.prog (0, 0) H195_12 (E195_12 fu) := by kernel_rfl
theorem fr195_18 : firstReg c195_18 = some 18 := by kernel_rfl
theorem le195_18 : L195 18 = enter Tryz.prog (0, 0) H195_18 (E195_18 fu) := by kernel_rfl
theorem lm195 : ∀ x ∈ [c195_6, c195_12, c195_18], ∀ id, firstReg x = some id → LoopOk Tryz.prog (0, 0) x (L195 id) := (loops_cons fr195_6 le195_6 (ok195_6 fu) (loops_cons fr195_12 le195_12 (ok195_12 fu) (loops_cons fr195_18 le195_18 (ok195_18 fu) loops_nil)))
theorem lp195 : ∀ x ∈ loopsOf c195, ∀ id, firstReg x = some id → LoopOk Tryz.prog (0, 0) x (L195 id) := loops_eq lq195 lm195
noncomputable def sg195 : Sg := ⟨⟨[.agg (ho 4 [.sl 0, .sl 1])], [], [(230, sh8, .ro), (233, sh3, .ro)]⟩, (ki 4 [.row sh8, .row sh3]), ⟨[hh], [], []⟩, [.bool]⟩
noncomputable def E195 : Fun2 := eOf sg195 I.isBox
theorem ev195 (a : Args sg195.ks) : evS Tryz.prog G195 L195 (0, 0) [] Tryz.f195 c195 (kOf sg195) (sg195.sk.fl (encP sg195.ks a)) = unc sg195.ks I.isBox a := by kernel_rfl
theorem good195 : Vm.Good Tryz.prog 195 E195 := good_gen (G := G195) (L := L195) (c := c195) (rn := []) (N := (0, 0)) (envCons_good good147 (envCons_good good127 (envCons_good good255 (envCons_good good256 envNil_good)))) lp195 Tryz.func195 (by kernel_rfl) (by kernel_rfl) (fun _ => by kernel_rfl) ev195
noncomputable def G105 : Env := (envCons 65 [] E65 (envCons 193 [] E193 (envCons 194 [] E194 (envCons 48 [] E48 (envCons 90 [] E90 (envCons 127 [] E127 (envCons 195 [] E195 envNil)))))))
noncomputable def c105 : Code := bodyOf Tryz.f105
noncomputable def c105_5 : Code := (loopsOf c105).getD 0 .skip
noncomputable def c105_11 : Code := (loopsOf c105).getD 1 .skip
noncomputable def c105_17 : Code := (loopsOf c105).getD 2 .skip
noncomputable def c105_23 : Code := (loopsOf c105).getD 3 .skip
noncomputable def c105_29 : Code := (loopsOf c105).getD 4 .skip
noncomputable def I.isEng_l0 : Nat → (Bool → Int → Int → Int → Int → Int → Int → Int → List Int → (List ty6) → (List (Int × Int × Int)) → (List ty10) → (List (Int × Int × Int × Int)) → (List (Int × Bool)) → (List ty5) → List Int → List Int → (List ty3) → Option Bool) → (Int → Int → Int → Int → Int → Int → Int → List Int → (List ty6) → (List (Int × Int × Int)) → (List ty10) → (List (Int × Int × Int × Int)) → (List (Int × Bool)) → (List ty5) → List Int → List Int → (List ty3) → Option Bool) → Int → Int → Int → Int → Int → Int → Int → Int → Int → (List (Int × Int × Int × Int)) → List Int → (List ty6) → (List (Int × Int × Int)) → (List ty10) → (List (Int × Bool)) → (List ty5) → List Int → List Int → (List ty3) → Option Bool
  | 0, _, _, _, _, _, _, _, _, _, _, _, _, _, _, _, _, _, _, _, _, _ => none
  | m + 1, e5_0, e5_1, a26, a27, a28, a29, a30, a31, a32, a33, a34, a35, a36, a37, a38, a39, a40, a41, a42, a43, a44 =>
    (bif (decide (a27 < a26)) then
    (bif decide ((0 : Int) ≤ a27 ∧ a27 < (a35.length : Int)) then
    (let v46 : Bool := (decide (a33 ≤ (nthI a35 a27 df7).1))
    (bif v46 then
    (e5_0 false a28 a29 a30 a31 a32 a33 a34 a36 a37 a38 a39 a35 a40 a41 a42 a43 a44)
    else
    (I.isEng_l0 m e5_0 e5_1 a26 (IntKind.wrap .i64 (a27 + 1)) a28 a29 a30 a31 a32 a33 a34 a35 a36 a37 a38 a39 a40 a41 a42 a43 a44)))
    else
    none)
    else
    (e5_1 a28 a29 a30 a31 a32 a33 a34 a36 a37 a38 a39 a35 a40 a41 a42 a43 a44))
noncomputable def I.isEng_l1 : Nat → (Bool → Int → Int → Int → Int → Int → Int → Int → List Int → (List ty6) → (List (Int × Int × Int)) → (List ty10) → (List (Int × Int × Int × Int)) → (List (Int × Bool)) → (List ty5) → List Int → List Int → (List ty3) → Option Bool) → (Int → Int → Int → Int → Int → Int → Int → List Int → (List ty6) → (List (Int × Int × Int)) → (List ty10) → (List (Int × Int × Int × Int)) → (List (Int × Bool)) → (List ty5) → List Int → List Int → (List ty3) → Option Bool) → Int → Int → Int → Int → Int → Int → Int → Int → Int → (List ty5) → List Int → (List ty6) → (List (Int × Int × Int)) → (List ty10) → (List (Int × Int × Int × Int)) → (List (Int × Bool)) → List Int → List Int → (List ty3) → Option Bool
  | 0, _, _, _, _, _, _, _, _, _, _, _, _, _, _, _, _, _, _, _, _, _ => none
  | m + 1, e11_0, e11_1, a84, a85, a86, a87, a88, a89, a90, a91, a92, a93, a94, a95, a96, a97, a98, a99, a100, a101, a102 =>
    (bif (decide (a85 < a84)) then
    (bif decide ((0 : Int) ≤ a85 ∧ a85 < (a93.length : Int)) then
    (let v105 : Bool := (decide ((a95.length : Int) ≤ (nthI a93 a85 df3).1))
    (bif v105 then
    (e11_0 false a86 a87 a88 a89 a90 a91 a92 a94 a95 a96 a97 a98 a99 a93 a100 a101 a102)
    else
    (Option.bind (I.Lat_has a90 ((nthI a93 a85 df3).2.2.2.2.1) a94) fun r106 =>
    (bif (!r106) then
    (e11_0 false a86 a87 a88 a89 a90 a91 a92 a94 a95 a96 a97 a98 a99 a93 a100 a101 a102)
    else
    (I.isEng_l1 m e11_0 e11_1 a84 (IntKind.wrap .i64 (a85 + 1)) a86 a87 a88 a89 a90 a91 a92 a93 a94 a95 a96 a97 a98 a99 a100 a101 a102)))))
    else
    none)
    else
    (e11_1 a86 a87 a88 a89 a90 a91 a92 a94 a95 a96 a97 a98 a99 a93 a100 a101 a102))
noncomputable def I.isEng_l2 : Nat → (Bool → Int → Int → Int → Int → Int → Int → Int → List Int → (List ty6) → (List (Int × Int × Int)) → (List ty10) → (List (Int × Int × Int × Int)) → (List (Int × Bool)) → (List ty5) → List Int → List Int → (List ty3) → Option Bool) → (Int → Int → Int → Int → Int → Int → Int → List Int → (List ty6) → (List (Int × Int × Int)) → (List ty10) → (List (Int × Int × Int × Int)) → (List (Int × Bool)) → (List ty5) → List Int → List Int → (List ty3) → Option Bool) → Int → Int → Int → Int → Int → Int → Int → Int → Int → List Int → List Int → (List ty6) → (List (Int × Int × Int)) → (List ty10) → (List (Int × Int × Int × Int)) → (List (Int × Bool)) → (List ty5) → List Int → (List ty3) → Option Bool
  | 0, _, _, _, _, _, _, _, _, _, _, _, _, _, _, _, _, _, _, _, _, _ => none
  | m + 1, e17_0, e17_1, a144, a145, a146, a147, a148, a149, a150, a151, a152, a153, a154, a155, a156, a157, a158, a159, a160, a161, a162 =>
    (bif (decide (a145 < a144)) then
    (bif decide ((0 : Int) ≤ a145 ∧ a145 < (a153.length : Int)) then
    (Option.bind (I.in (nthI a153 a145 (0 : Int)) 0 a152) fun r165 =>
    (bif (!r165) then
    (e17_0 false a146 a147 a148 a149 a150 a151 a152 a154 a155 a156 a157 a158 a159 a160 a153 a161 a162)
    else
    (I.isEng_l2 m e17_0 e17_1 a144 (IntKind.wrap .i64 (a145 + 1)) a146 a147 a148 a149 a150 a151 a152 a153 a154 a155 a156 a157 a158 a159 a160 a161 a162)))
    else
    none)
    else
    (e17_1 a146 a147 a148 a149 a150 a151 a152 a154 a155 a156 a157 a158 a159 a160 a153 a161 a162))
noncomputable def I.isEng_l3 : Nat → (Bool → Int → Int → Int → Int → Int → Int → Int → List Int → (List ty6) → (List (Int × Int × Int)) → (List ty10) → (List (Int × Int × Int × Int)) → (List (Int × Bool)) → (List ty5) → List Int → List Int → (List ty3) → Option Bool) → (Int → Int → Int → Int → Int → Int → Int → List Int → (List ty6) → (List (Int × Int × Int)) → (List ty10) → (List (Int × Int × Int × Int)) → (List (Int × Bool)) → (List ty5) → List Int → List Int → (List ty3) → Option Bool) → Int → Int → Int → Int → Int → Int → Int → Int → Int → List Int → List Int → (List ty6) → (List (Int × Int × Int)) → (List ty10) → (List (Int × Int × Int × Int)) → (List (Int × Bool)) → (List ty5) → List Int → (List ty3) → Option Bool
  | 0, _, _, _, _, _, _, _, _, _, _, _, _, _, _, _, _, _, _, _, _, _ => none
  | m + 1, e23_0, e23_1, a203, a204, a205, a206, a207, a208, a209, a210, a211, a212, a213, a214, a215, a216, a217, a218, a219, a220, a221 =>
    (bif (decide (a204 < a203)) then
    (bif decide ((0 : Int) ≤ a204 ∧ a204 < (a212.length : Int)) then
    (bif decide ((0 : Int) ≤ a204 ∧ a204 < (a216.length : Int)) then
    (Option.bind (I.in (nthI a212 a204 (0 : Int)) 0 ((nthI a216 a204 df6).2.2.2.2)) fun r224 =>
    (bif (!r224) then
    (e23_0 false a205 a206 a207 a208 a209 a210 a211 a213 a214 a215 a216 a217 a218 a219 a220 a212 a221)
    else
    (I.isEng_l3 m e23_0 e23_1 a203 (IntKind.wrap .i64 (a204 + 1)) a205 a206 a207 a208 a209 a210 a211 a212 a213 a214 a215 a216 a217 a218 a219 a220 a221)))
    else
    none)
    else
    none)
    else
    (e23_1 a205 a206 a207 a208 a209 a210 a211 a213 a214 a215 a216 a217 a218 a219 a220 a212 a221))
noncomputable def I.isEng_l4 : Nat → (Bool → Option Bool) → (Option Bool) → Int → Int → Int → Int → Int → (List ty3) → List Int → (List ty6) → (List (Int × Int × Int)) → (List ty10) → Option Bool
  | 0, _, _, _, _, _, _, _, _, _, _, _, _ => none
  | m + 1, e29_0, e29_1, a262, a263, a264, a265, a266, a267, a268, a269, a270, a271 =>
    (bif (decide (a263 < a262)) then
    (bif decide ((0 : Int) ≤ a263 ∧ a263 < (a267.length : Int)) then
    (Option.bind (I.isBox ((nthI a267 a263 df5).1) ((nthI a267 a263 df5).2.1) ((nthI a267 a263 df5).2.2.1) ((nthI a267 a263 df5).2.2.2.1) ((nthI a267 a263 df5).2.2.2.2.1) ((nthI a267 a263 df5).2.2.2.2.2)) fun r273 =>
    (bif (!r273) then
    (e29_0 false)
    else
    (bif decide ((0 : Int) ≤ a263 ∧ a263 < (a270.length : Int)) then
    (let v274 : Bool := ((nthI a267 a263 df5).1 != (nthI a270 a263 df1).2.1)
    (bif v274 then
    (e29_0 false)
    else
    (bif decide ((0 : Int) ≤ a263 ∧ a263 < (a270.length : Int)) then
    (let v275 : Bool := ((nthI a267 a263 df5).2.1 != (nthI a270 a263 df1).2.2)
    (bif v275 then
    (e29_0 false)
    else
    (I.isEng_l4 m e29_0 e29_1 a262 (IntKind.wrap .i64 (a263 + 1)) a264 a265 a266 a267 a268 a269 a270 a271)))
    else
    none)))
    else
    none)))
    else
    none)
    else
    e29_1)
noncomputable def I.isEng (a1 a2 a3 a4 : Int) (a5 : List Int) (a6 : List ty6) (a7 : List (Int × Int × Int)) (a8 : List ty10) (a9 : List (Int × Int × Int × Int)) (a10 : List (Int × Bool)) (a11 : List ty5) (a12 a13 : List Int) (a14 : List ty3) : Option Bool :=
(Option.bind (I.isConf a1 a2 a3 a5 a6 a7 a8) fun r15 =>
(bif (!r15) then
(some false)
else
(Option.bind (I.isPolicy a1 a5 a9) fun r16 =>
(bif (!r16) then
(some false)
else
(Option.bind (I.areMarks a4 a10) fun r17 =>
(bif (!r17) then
(some false)
else
(bif ((a10.length : Int) != a2) then
(some false)
else
(Option.bind (I.areCells a11) fun r19 =>
(bif (!r19) then
(some false)
else
(bif ((a12.length : Int) != a1) then
(some false)
else
(bif ((a13.length : Int) != (a8.length : Int)) then
(some false)
else
(bif ((a14.length : Int) != (a7.length : Int)) then
(some false)
else
(I.isEng_l0 fu (fun y48 y49 y50 y51 y52 y53 y54 y55 y56 y57 y58 y59 y60 y61 y62 y63 y64 y65 =>
(some y48)) (fun y66 y67 y68 y69 y70 y71 y72 y73 y74 y75 y76 y77 y78 y79 y80 y81 y82 =>
(I.isEng_l1 fu (fun y108 y109 y110 y111 y112 y113 y114 y115 y116 y117 y118 y119 y120 y121 y122 y123 y124 y125 =>
(some y108)) (fun y126 y127 y128 y129 y130 y131 y132 y133 y134 y135 y136 y137 y138 y139 y140 y141 y142 =>
(I.isEng_l2 fu (fun y167 y168 y169 y170 y171 y172 y173 y174 y175 y176 y177 y178 y179 y180 y181 y182 y183 y184 =>
(some y167)) (fun y185 y186 y187 y188 y189 y190 y191 y192 y193 y194 y195 y196 y197 y198 y199 y200 y201 =>
(I.isEng_l3 fu (fun y226 y227 y228 y229 y230 y231 y232 y233 y234 y235 y236 y237 y238 y239 y240 y241 y242 y243 =>
(some y226)) (fun y244 y245 y246 y247 y248 y249 y250 y251 y252 y253 y254 y255 y256 y257 y258 y259 y260 =>
(I.isEng_l4 fu (fun y277 =>
(some y277)) (some true) (y260.length : Int) 0 y248 y249 y250 y260 y251 y252 y253 y254)) (y200.length : Int) 0 y185 y186 y187 y188 y189 y190 y191 y200 y192 y193 y194 y195 y196 y197 y198 y199 y201)) (y140.length : Int) 0 y126 y127 y128 y129 y130 y131 y132 y140 y133 y134 y135 y136 y137 y138 y139 y141 y142)) (y79.length : Int) 0 y66 y67 y68 y69 y70 y71 y72 y79 y73 y74 y75 y76 y77 y78 y80 y81 y82)) (a9.length : Int) 0 a1 a2 a3 a4 a1 a2 a3 a9 a5 a6 a7 a8 a10 a11 a12 a13 a14)))))))))))))
noncomputable def H105_5 : LoopH := ⟨⟨((.one (.unk)) :: (.one (.ptr 0 0)) :: (.one (.unk)) :: (.one (.ptr 1 0)) :: (hu 72 ((.one (.sl 0)) :: hh :: hh :: (hu 96 [])))), [(57, ((.hole) :: (.sl 1) :: (ho 2 [.sl 2, .sl 3, .sl 4, .sl 0, .hole, .sl 5, .sl 6, .sl 7, .sl 8, .sl 9]))), (49, ((.hole) :: (.sl 1) :: (ho 2 [.sl 2, .sl 3, .sl 4])))], [(156, sh5, .ro), (87, (.int .u64), .ro), (190, sh10, .ro), (126, sh3, .ro), (159, sh4, .ro), (225, sh6, .ro), (105, sh7, .ro), (3, (.int .i64), .ro), (3, (.int .i64), .ro), (122, sh11, .ro)]⟩, ([0, 2] ++ rg 4 72 ++ rg 79 96), [], ([0] ++ rg 4 171), [], []⟩
noncomputable def k105_5 : List PK := (ki 9 [.row sh5, .row (.int .u64), .row sh10, .row sh3, .row sh4, .row sh6, .row sh7, .row (.int .i64), .row (.int .i64), .row sh11])
noncomputable def W105_5 (m : Nat) (k : Kont Bool) : Cur k105_5 (Option Bool) := I.isEng_l0 m (exF k .ret ⟨((.one (.unk)) :: (.one (.ptr 0 0)) :: hh :: (.one (.ptr 1 0)) :: (hu 171 [])), [(57, ((.hole) :: (.sl 0) :: (ho 2 [.sl 1, .sl 2, .sl 3, .sl 4, .hole, .sl 5, .sl 6, .sl 7, .sl 8, .sl 9]))), (49, ((.hole) :: (.sl 0) :: (ho 2 [.sl 1, .sl 2, .sl 3])))], [(87, (.int .u64), .ro), (190, sh10, .ro), (126, sh3, .ro), (159, sh4, .ro), (156, sh5, .ro), (225, sh6, .ro), (105, sh7, .ro), (3, (.int .i64), .ro), (3, (.int .i64), .ro), (122, sh11, .ro)]⟩ ((.bool) :: (ki 7 [.row (.int .u64), .row sh10, .row sh3, .row sh4, .row sh5, .row sh6, .row sh7, .row (.int .i64), .row (.int .i64), .row sh11]))) (exF k (.exit 0) ⟨((.one (.unk)) :: (.one (.ptr 0 0)) :: (.one (.unk)) :: (.one (.ptr 1 0)) :: (hu 171 [])), [(57, ((.hole) :: (.sl 0) :: (ho 2 [.sl 1, .sl 2, .sl 3, .sl 4, .hole, .sl 5, .sl 6, .sl 7, .sl 8, .sl 9]))), (49, ((.hole) :: (.sl 0) :: (ho 2 [.sl 1, .sl 2, .sl 3])))], [(87, (.int .u64), .ro), (190, sh10, .ro), (126, sh3, .ro), (159, sh4, .ro), (156, sh5, .ro), (225, sh6, .ro), (105, sh7, .ro), (3, (.int .i64), .ro), (3, (.int .i64), .ro), (122, sh11, .ro)]⟩ (ki 7 [.row (.int .u64), .row sh10, .row sh3, .row sh4, .row sh5, .row sh6, .row sh7, .row (.int .i64), .row (.int .i64), .row sh11]))
noncomputable def E105_5 (m : Nat) : List Prm → Kont Bool → Option Bool := eL k105_5 (W105_5 m)
theorem ev105_5 (m : Nat) (k : Kont Bool) (a : Args k105_5) : evL Tryz.prog G105 loopNil c105_5 (turn Tryz.prog (0, 0) H105_5 (E105_5 m) k) (H105_5.sk.fl (encP k105_5 a)) = unc k105_5 (W105_5 (m + 1) k) a := by kernel_rfl
theorem ok105_5 (m : Nat) : LoopOk Tryz.prog (0, 0) c105_5 (enter Tryz.prog (0, 0) H105_5 (E105_5 m)) := loop_gen (Fl := W105_5) (G := G105) (L := loopNil) (envCons_good good65 (envCons_good good193 (envCons_good good194 (envCons_good good48 (envCons_good good90 (envCons_good good127 (envCons_good good195 envNil_good))))))) (no_loops (c := c105_5) (by kernel_rfl)) (fun _ _ => by kernel_rfl) ev105_5 m
noncomputable def H105_11 : LoopH := ⟨⟨((.one (.unk)) :: (.one (.ptr 0 0)) :: (.one (.unk)) :: (.one (.ptr 1 0)) :: (hu 85 ((.one (.sl 0)) :: hh :: hh :: (hu 83 [])))), [(57, ((.hole) :: (.sl 1) :: (ho 2 [.sl 2, .sl 3, .sl 4, .sl 5, .hole, .sl 6, .sl 0, .sl 7, .sl 8, .sl 9]))), (49, ((.hole) :: (.sl 1) :: (ho 2 [.sl 2, .sl 3, .sl 4])))], [(105, sh7, .ro), (87, (.int .u64), .ro), (190, sh10, .ro), (126, sh3, .ro), (159, sh4, .ro), (156, sh5, .ro), (225, sh6, .ro), (3, (.int .i64), .ro), (3, (.int .i64), .ro), (122, sh11, .ro)]⟩, ([0, 2] ++ rg 4 85 ++ rg 92 83), [], ([0] ++ rg 4 171), [], []⟩
noncomputable def k105_11 : List PK := (ki 9 [.row sh7, .row (.int .u64), .row sh10, .row sh3, .row sh4, .row sh5, .row sh6, .row (.int .i64), .row (.int .i64), .row sh11])
noncomputable def W105_11 (m : Nat) (k : Kont Bool) : Cur k105_11 (Option Bool) := I.isEng_l1 m (exF k .ret ⟨((.one (.unk)) :: (.one (.ptr 0 0)) :: hh :: (.one (.ptr 1 0)) :: (hu 171 [])), [(57, ((.hole) :: (.sl 0) :: (ho 2 [.sl 1, .sl 2, .sl 3, .sl 4, .hole, .sl 5, .sl 6, .sl 7, .sl 8, .sl 9]))), (49, ((.hole) :: (.sl 0) :: (ho 2 [.sl 1, .sl 2, .sl 3])))], [(87, (.int .u64), .ro), (190, sh10, .ro), (126, sh3, .ro), (159, sh4, .ro), (156, sh5, .ro), (225, sh6, .ro), (105, sh7, .ro), (3, (.int .i64), .ro), (3, (.int .i64), .ro), (122, sh11, .ro)]⟩ ((.bool) :: (ki 7 [.row (.int .u64), .row sh10, .row sh3, .row sh4, .row sh5, .row sh6, .row sh7, .row (.int .i64), .row (.int .i64), .row sh11]))) (exF k (.exit 2) ⟨((.one (.unk)) :: (.one (.ptr 0 0)) :: (.one (.unk)) :: (.one (.ptr 1 0)) :: (hu 171 [])), [(57, ((.hole) :: (.sl 0) :: (ho 2 [.sl 1, .sl 2, .sl 3, .sl 4, .hole, .sl 5, .sl 6, .sl 7, .sl 8, .sl 9]))), (49, ((.hole) :: (.sl 0) :: (ho 2 [.sl 1, .sl 2, .sl 3])))], [(87, (.int .u64), .ro), (190, sh10, .ro), (126, sh3, .ro), (159, sh4, .ro), (156, sh5, .ro), (225, sh6, .ro), (105, sh7, .ro), (3, (.int .i64), .ro), (3, (.int .i64), .ro), (122, sh11, .ro)]⟩ (ki 7 [.row (.int .u64), .row sh10, .row sh3, .row sh4, .row sh5, .row sh6, .row sh7, .row (.int .i64), .row (.int .i64), .row sh11]))
noncomputable def E105_11 (m : Nat) : List Prm → Kont Bool → Option Bool := eL k105_11 (W105_11 m)
theorem ev105_11 (m : Nat) (k : Kont Bool) (a : Args k105_11) : evL Tryz.prog G105 loopNil c105_11 (turn Tryz.prog (0, 0) H105_11 (E105_11 m) k) (H105_11.sk.fl (encP k105_11 a)) = unc k105_11 (W105_11 (m + 1) k) a := by kernel_rfl
theorem ok105_11 (m : Nat) : LoopOk Tryz.prog (0, 0) c105_11 (enter Tryz.prog (0, 0) H105_11 (E105_11 m)) := loop_gen (Fl := W105_11) (G := G105) (L := loopNil) (envCons_good good65 (envCons_good good193 (envCons_good good194 (envCons_good good48 (envCons_good good90 (envCons_good good127 (envCons_good good195 envNil_good))))))) (no_loops (c := c105_11) (by kernel_rfl)) (fun _ _ => by kernel_rfl) ev105_11 m
noncomputable def H105_17 : LoopH := ⟨⟨((.one (.unk)) :: (.one (.ptr 0 0)) :: (.one (.unk)) :: (.one (.ptr 1 0)) :: (hu 107 ((.one (.sl 0)) :: hh :: hh :: (hu 61 [])))), [(57, ((.hole) :: (.sl 1) :: (ho 2 [.sl 2, .sl 3, .sl 4, .sl 5, .hole, .sl 6, .sl 7, .sl 0, .sl 8, .sl 9]))), (49, ((.hole) :: (.sl 1) :: (ho 2 [.sl 2, .sl 3, .sl 4])))], [(3, (.int .i64), .ro), (87, (.int .u64), .ro), (190, sh10, .ro), (126, sh3, .ro), (159, sh4, .ro), (156, sh5, .ro), (225, sh6, .ro), (105, sh7, .ro), (3, (.int .i64), .ro), (122, sh11, .ro)]⟩, ([0, 2] ++ rg 4 107 ++ rg 114 61), [], ([0] ++ rg 4 171), [], []⟩
noncomputable def k105_17 : List PK := (ki 9 [.row (.int .i64), .row (.int .u64), .row sh10, .row sh3, .row sh4, .row sh5, .row sh6, .row sh7, .row (.int .i64), .row sh11])
noncomputable def W105_17 (m : Nat) (k : Kont Bool) : Cur k105_17 (Option Bool) := I.isEng_l2 m (exF k .ret ⟨((.one (.unk)) :: (.one (.ptr 0 0)) :: hh :: (.one (.ptr 1 0)) :: (hu 171 [])), [(57, ((.hole) :: (.sl 0) :: (ho 2 [.sl 1, .sl 2, .sl 3, .sl 4, .hole, .sl 5, .sl 6, .sl 7, .sl 8, .sl 9]))), (49, ((.hole) :: (.sl 0) :: (ho 2 [.sl 1, .sl 2, .sl 3])))], [(87, (.int .u64), .ro), (190, sh10, .ro), (126, sh3, .ro), (159, sh4, .ro), (156, sh5, .ro), (225, sh6, .ro), (105, sh7, .ro), (3, (.int .i64), .ro), (3, (.int .i64), .ro), (122, sh11, .ro)]⟩ ((.bool) :: (ki 7 [.row (.int .u64), .row sh10, .row sh3, .row sh4, .row sh5, .row sh6, .row sh7, .row (.int .i64), .row (.int .i64), .row sh11]))) (exF k (.exit 4) ⟨((.one (.unk)) :: (.one (.ptr 0 0)) :: (.one (.unk)) :: (.one (.ptr 1 0)) :: (hu 171 [])), [(57, ((.hole) :: (.sl 0) :: (ho 2 [.sl 1, .sl 2, .sl 3, .sl 4, .hole, .sl 5, .sl 6, .sl 7, .sl 8, .sl 9]))), (49, ((.hole) :: (.sl 0) :: (ho 2 [.sl 1, .sl 2, .sl 3])))], [(87, (.int .u64), .ro), (190, sh10, .ro), (126, sh3, .ro), (159, sh4, .ro), (156, sh5, .ro), (225, sh6, .ro), (105, sh7, .ro), (3, (.int .i64), .ro), (3, (.int .i64), .ro), (122, sh11, .ro)]⟩ (ki 7 [.row (.int .u64), .row sh10, .row sh3, .row sh4, .row sh5, .row sh6, .row sh7, .row (.int .i64), .row (.int .i64), .row sh11]))
noncomputable def E105_17 (m : Nat) : List Prm → Kont Bool → Option Bool := eL k105_17 (W105_17 m)
theorem ev105_17 (m : Nat) (k : Kont Bool) (a : Args k105_17) : evL Tryz.prog G105 loopNil c105_17 (turn Tryz.prog (0, 0) H105_17 (E105_17 m) k) (H105_17.sk.fl (encP k105_17 a)) = unc k105_17 (W105_17 (m + 1) k) a := by kernel_rfl
theorem ok105_17 (m : Nat) : LoopOk Tryz.prog (0, 0) c105_17 (enter Tryz.prog (0, 0) H105_17 (E105_17 m)) := loop_gen (Fl := W105_17) (G := G105) (L := loopNil) (envCons_good good65 (envCons_good good193 (envCons_good good194 (envCons_good good48 (envCons_good good90 (envCons_good good127 (envCons_good good195 envNil_good))))))) (no_loops (c := c105_17) (by kernel_rfl)) (fun _ _ => by kernel_rfl) ev105_17 m
noncomputable def H105_23 : LoopH := ⟨⟨((.one (.unk)) :: (.one (.ptr 0 0)) :: (.one (.unk)) :: (.one (.ptr 1 0)) :: (hu 120 ((.one (.sl 0)) :: hh :: hh :: (hu 48 [])))), [(57, ((.hole) :: (.sl 1) :: (ho 2 [.sl 2, .sl 3, .sl 4, .sl 5, .hole, .sl 6, .sl 7, .sl 8, .sl 0, .sl 9]))), (49, ((.hole) :: (.sl 1) :: (ho 2 [.sl 2, .sl 3, .sl 4])))], [(3, (.int .i64), .ro), (87, (.int .u64), .ro), (190, sh10, .ro), (126, sh3, .ro), (159, sh4, .ro), (156, sh5, .ro), (225, sh6, .ro), (105, sh7, .ro), (3, (.int .i64), .ro), (122, sh11, .ro)]⟩, ([0, 2] ++ rg 4 120 ++ rg 127 48), [], ([0] ++ rg 4 171), [], []⟩
noncomputable def k105_23 : List PK := (ki 9 [.row (.int .i64), .row (.int .u64), .row sh10, .row sh3, .row sh4, .row sh5, .row sh6, .row sh7, .row (.int .i64), .row sh11])
noncomputable def W105_23 (m : Nat) (k : Kont Bool) : Cur k105_23 (Option Bool) := I.isEng_l3 m (exF k .ret ⟨((.one (.unk)) :: (.one (.ptr 0 0)) :: hh :: (.one (.ptr 1 0)) :: (hu 171 [])), [(57, ((.hole) :: (.sl 0) :: (ho 2 [.sl 1, .sl 2, .sl 3, .sl 4, .hole, .sl 5, .sl 6, .sl 7, .sl 8, .sl 9]))), (49, ((.hole) :: (.sl 0) :: (ho 2 [.sl 1, .sl 2, .sl 3])))], [(87, (.int .u64), .ro), (190, sh10, .ro), (126, sh3, .ro), (159, sh4, .ro), (156, sh5, .ro), (225, sh6, .ro), (105, sh7, .ro), (3, (.int .i64), .ro), (3, (.int .i64), .ro), (122, sh11, .ro)]⟩ ((.bool) :: (ki 7 [.row (.int .u64), .row sh10, .row sh3, .row sh4, .row sh5, .row sh6, .row sh7, .row (.int .i64), .row (.int .i64), .row sh11]))) (exF k (.exit 6) ⟨((.one (.unk)) :: (.one (.ptr 0 0)) :: (.one (.unk)) :: (.one (.ptr 1 0)) :: (hu 171 [])), [(57, ((.hole) :: (.sl 0) :: (ho 2 [.sl 1, .sl 2, .sl 3, .sl 4, .hole, .sl 5, .sl 6, .sl 7, .sl 8, .sl 9]))), (49, ((.hole) :: (.sl 0) :: (ho 2 [.sl 1, .sl 2, .sl 3])))], [(87, (.int .u64), .ro), (190, sh10, .ro), (126, sh3, .ro), (159, sh4, .ro), (156, sh5, .ro), (225, sh6, .ro), (105, sh7, .ro), (3, (.int .i64), .ro), (3, (.int .i64), .ro), (122, sh11, .ro)]⟩ (ki 7 [.row (.int .u64), .row sh10, .row sh3, .row sh4, .row sh5, .row sh6, .row sh7, .row (.int .i64), .row (.int .i64), .row sh11]))
noncomputable def E105_23 (m : Nat) : List Prm → Kont Bool → Option Bool := eL k105_23 (W105_23 m)
theorem ev105_23 (m : Nat) (k : Kont Bool) (a : Args k105_23) : evL Tryz.prog G105 loopNil c105_23 (turn Tryz.prog (0, 0) H105_23 (E105_23 m) k) (H105_23.sk.fl (encP k105_23 a)) = unc k105_23 (W105_23 (m + 1) k) a := by kernel_rfl
theorem ok105_23 (m : Nat) : LoopOk Tryz.prog (0, 0) c105_23 (enter Tryz.prog (0, 0) H105_23 (E105_23 m)) := loop_gen (Fl := W105_23) (G := G105) (L := loopNil) (envCons_good good65 (envCons_good good193 (envCons_good good194 (envCons_good good48 (envCons_good good90 (envCons_good good127 (envCons_good good195 envNil_good))))))) (no_loops (c := c105_23) (by kernel_rfl)) (fun _ _ => by kernel_rfl) ev105_23 m
noncomputable def H105_29 : LoopH := ⟨⟨(hu 3 ((.one (.ptr 0 0)) :: (hu 138 ((.one (.sl 0)) :: hh :: hh :: (hu 30 []))))), [(49, ((.hole) :: (.sl 1) :: (ho 2 [.sl 2, .sl 3, .sl 4])))], [(122, sh11, .ro), (87, (.int .u64), .ro), (190, sh10, .ro), (126, sh3, .ro), (159, sh4, .ro)]⟩, ([0, 1, 2] ++ rg 4 138 ++ rg 145 30), [], ([0, 1] ++ rg 3 172), [], []⟩
noncomputable def k105_29 : List PK := (ki 5 [.row sh11, .row (.int .u64), .row sh10, .row sh3, .row sh4])
noncomputable def W105_29 (m : Nat) (k : Kont Bool) : Cur k105_29 (Option Bool) := I.isEng_l4 m (exF k .ret ⟨(hu 2 (hh :: (hu 172 []))), [], []⟩ [.bool]) (exF k (.exit 8) ⟨(hu 175 []), [], []⟩ [])
noncomputable def E105_29 (m : Nat) : List Prm → Kont Bool → Option Bool := eL k105_29 (W105_29 m)
theorem ev105_29 (m : Nat) (k : Kont Bool) (a : Args k105_29) : evL Tryz.prog G105 loopNil c105_29 (turn Tryz.prog (0, 0) H105_29 (E105_29 m) k) (H105_29.sk.fl (encP k105_29 a)) = unc k105_29 (W105_29 (m + 1) k) a := by kernel_rfl
theorem ok105_29 (m : Nat) : LoopOk Tryz.prog (0, 0) c105_29 (enter Tryz.prog (0, 0) H105_29 (E105_29 m)) := loop_gen (Fl := W105_29) (G := G105) (L := loopNil) (envCons_good good65 (envCons_good good193 (envCons_good good194 (envCons_good good48 (envCons_good good90 (envCons_good good127 (envCons_good good195 envNil_good))))))) (no_loops (c := c105_29) (by kernel_rfl)) (fun _ _ => by kernel_rfl) ev105_29 m
noncomputable def L105 : LEnv Bool := (loopCons 5 (enter Tryz.prog (0, 0) H105_5 (E105_5 fu)) (loopCons 11 (enter Tryz.prog (0, 0) H105_11 (E105_11 fu)) (loopCons 17 (enter Tryz.prog (0, 0) H105_17 (E105_17 fu)) (loopCons 23 (enter Tryz.prog (0, 0) H105_23 (E105_23 fu)) (loopCons 29 (enter Tryz.prog (0, 0) H105_29 (E105_29 fu)) loopNil)))))
theorem lq105 : loopsOf c105 = [c105_5, c105_11, c105_17, c105_23, c105_29] := by kernel_rfl
theorem fr105_5 : firstReg c105_5 = some 5 := by kernel_rfl
theorem le105_5 : L105 5 = enter Tryz.prog (0, 0) H105_5 (E105_5 fu) := by kernel_rfl
theorem fr105_11 : firstReg c105_11 = some 11 := by kernel_rfl
theorem le105_11 : L105 11 = enter Tryz.prog (0, 0) H105_11 (E105_11 fu) := by kernel_rfl
theorem fr105_17 : firstReg c105_17 = some 17 := by kernel_rfl
theorem le105_17 : L105 17 = enter Tryz.prog (0, 0) H105_17 (E105_17 fu) := by kernel_rfl
theorem fr105_23 : firstReg c105_23 = some 23 := by kernel_rfl
theorem le105_23 : L105 23 = enter Tryz.prog (0, 0) H105_23 (E105_23 fu) := by kernel_rfl
theorem fr105_29 : firstReg c105_29 = some 29 := by kernel_rfl
theorem le105_29 : L105 29 = enter Tryz.prog (0, 0) H105_29 (E105_29 fu) := by kernel_rfl
theorem lm105 : ∀ x ∈ [c105_5, c105_11, c105_17, c105_23, c105_29], ∀ id, firstReg x = some id → LoopOk Tryz.prog (0, 0) x (L105 id) := (loops_cons fr105_5 le105_5 (ok105_5 fu) (loops_cons fr105_11 le105_11 (ok105_11 fu) (loops_cons fr105_17 le105_17 (ok105_17 fu) (loops_cons fr105_23 le105_23 (ok105_23 fu) (loops_cons fr105_29 le105_29 (ok105_29 fu) loops_nil)))))
theorem lp105 : ∀ x ∈ loopsOf c105, ∀ id, firstReg x = some id → LoopOk Tryz.prog (0, 0) x (L105 id) := loops_eq lq105 lm105
noncomputable def sg105 : Sg := ⟨⟨[.agg ((.hole) :: (.sl 0) :: (ho 2 [.sl 1, .sl 2, .sl 3, .sl 4, .hole, .sl 5, .sl 6, .sl 7, .sl 8, .sl 9]))], [], [(87, (.int .u64), .ro), (190, sh10, .ro), (126, sh3, .ro), (159, sh4, .ro), (156, sh5, .ro), (225, sh6, .ro), (105, sh7, .ro), (3, (.int .i64), .ro), (3, (.int .i64), .ro), (122, sh11, .ro)]⟩, (ki 4 [.row (.int .u64), .row sh10, .row sh3, .row sh4, .row sh5, .row sh6, .row sh7, .row (.int .i64), .row (.int .i64), .row sh11]), ⟨[hh], [], []⟩, [.bool]⟩
noncomputable def E105 : Fun2 := eOf sg105 I.isEng
theorem ev105 (a : Args sg105.ks) : evS Tryz.prog G105 L105 (0, 0) [] Tryz.f105 c105 (kOf sg105) (sg105.sk.fl (encP sg105.ks a)) = unc sg105.ks I.isEng a := by kernel_rfl
theorem good105 : Vm.Good Tryz.prog 105 E105 := good_gen (G := G105) (L := L105) (c := c105) (rn := []) (N := (0, 0)) (envCons_good good65 (envCons_good good193 (envCons_good good194 (envCons_good good48 (envCons_good good90 (envCons_good good127 (envCons_good good195 envNil_good))))))) lp105 Tryz.func105 (by kernel_rfl) (by kernel_rfl) (fun _ => by kernel_rfl) ev105
noncomputable def G37 : Env := (envCons 105 [] E105 envNil)
noncomputable def c37 : Code := bodyOf Tryz.f37
noncomputable def I.EngOk (a1 a2 a3 a4 : Int) (a5 : List Int) (a6 : List ty6) (a7 : List (Int × Int × Int)) (a8 : List ty10) (a9 : List (Int × Int × Int × Int)) (a10 : List (Int × Bool)) (a11 : List ty5) (a12 a13 : List Int) (a14 : List ty3) : Option Bool :=
(Option.bind (I.isEng a1 a2 a3 a4 a5 a6 a7 a8 a9 a10 a11 a12 a13 a14) fun r15 =>
(some r15))
noncomputable def sg37 : Sg := ⟨⟨[.agg ((.hole) :: (.sl 0) :: (ho 2 [.sl 1, .sl 2, .sl 3, .sl 4, .hole, .sl 5, .sl 6, .sl 7, .sl 8, .sl 9]))], [], [(87, (.int .u64), .ro), (190, sh10, .ro), (126, sh3, .ro), (159, sh4, .ro), (156, sh5, .ro), (225, sh6, .ro), (105, sh7, .ro), (3, (.int .i64), .ro), (3, (.int .i64), .ro), (122, sh11, .ro)]⟩, (ki 4 [.row (.int .u64), .row sh10, .row sh3, .row sh4, .row sh5, .row sh6, .row sh7, .row (.int .i64), .row (.int .i64), .row sh11]), ⟨[hh], [], []⟩, [.bool]⟩
noncomputable def E37 : Fun2 := eOf sg37 I.EngOk
theorem ev37 (a : Args sg37.ks) : evS Tryz.prog G37 loopNil (0, 0) [] Tryz.f37 c37 (kOf sg37) (sg37.sk.fl (encP sg37.ks a)) = unc sg37.ks I.EngOk a := by kernel_rfl
theorem good37 : Vm.Good Tryz.prog 37 E37 := good_gen (G := G37) (L := loopNil) (c := c37) (rn := []) (N := (0, 0)) (envCons_good good105 envNil_good) (no_loops (c := c37) (by kernel_rfl)) Tryz.func37 (by kernel_rfl) (by kernel_rfl) (fun _ => by kernel_rfl) ev37
noncomputable def G92 : Env := envNil
noncomputable def c92 : Code := bodyOf Tryz.f92
noncomputable def c92_4 : Code := (loopsOf c92).getD 0 .skip
noncomputable def L.eqUint64S_l0 : Nat → (Bool → Option Bool) → (Option Bool) → Int → List Int → List Int → Option Bool
  | 0, _, _, _, _, _ => none
  | m + 1, e4_0, e4_1, a5, a6, a7 =>
    (bif (decide (a5 < (a6.length : Int))) then
    (bif decide ((0 : Int) ≤ a5 ∧ a5 < (a6.length : Int)) then
    (bif decide ((0 : Int) ≤ a5 ∧ a5 < (a7.length : Int)) then
    (bif ((nthI a6 a5 (0 : Int)) != (nthI a7 a5 (0 : Int))) then
    (e4_0 false)
    else
    (L.eqUint64S_l0 m e4_0 e4_1 (IntKind.wrap .i64 (a5 + 1)) a6 a7))
    else
    none)
    else
    none)
    else
    e4_1)
noncomputable def L.eqUint64S (a1 a2 : List Int) : Option Bool :=
(bif ((a1.length : Int) != (a2.length : Int)) then
(some false)
else
(L.eqUint64S_l0 fu (fun y12 =>
(some y12)) (some true) 0 a1 a2))
noncomputable def H92_4 : LoopH := ⟨⟨((.one (.sl 0)) :: (.one (.sl 1)) :: (hu 3 (hh :: (hu 20 [])))), [], [(87, (.int .u64), .ro), (87, (.int .u64), .ro)]⟩, ([2, 3, 4] ++ rg 6 20), [], (rg 0 4 ++ rg 5 21), [], []⟩
noncomputable def k92_4 : List PK := [.int .i64, .row (.int .u64), .row (.int .u64)]
noncomputable def W92_4 (m : Nat) (k : Kont Bool) : Cur k92_4 (Option Bool) := L.eqUint64S_l0 m (exF k .ret ⟨(hu 4 (hh :: (hu 21 []))), [], []⟩ [.bool]) (exF k (.exit 0) ⟨(hu 26 []), [], []⟩ [])
noncomputable def E92_4 (m : Nat) : List Prm → Kont Bool → Option Bool := eL k92_4 (W92_4 m)
theorem ev92_4 (m : Nat) (k : Kont Bool) (a : Args k92_4) : evL Tryz.prog G92 loopNil c92_4 (turn Tryz.prog (0, 0) H92_4 (E92_4 m) k) (H92_4.sk.fl (encP k92_4 a)) = unc k92_4 (W92_4 (m + 1) k) a := by kernel_rfl
theorem ok92_4 (m : Nat) : LoopOk Tryz.prog (0, 0) c92_4 (enter Tryz.prog (0, 0) H92_4 (E92_4 m)) := loop_gen (Fl := W92_4) (G := G92) (L := loopNil) envNil_good (no_loops (c := c92_4) (by kernel_rfl)) (fun _ _ => by kernel_rfl) ev92_4 m
noncomputable def L92 : LEnv Bool := (loopCons 4 (enter Tryz.prog (0, 0) H92_4 (E92_4 fu)) loopNil)
theorem lq92 : loopsOf c92 = [c92_4] := by kernel_rfl
theorem fr92_4 : firstReg c92_4 = some 4 := by kernel_rfl
theorem le92_4 : L92 4 = enter Tryz.prog (0, 0) H92_4 (E92_4 fu) := by kernel_rfl
theorem lm92 : ∀ x ∈ [c92_4], ∀ id, firstReg x = some id → LoopOk Tryz.prog (0, 0) x (L92 id) := (loops_cons fr92_4 le92_4 (ok92_4 fu) loops_nil)
theorem lp92 : ∀ x ∈ loopsOf c92, ∀ id, firstReg x = some id → LoopOk Tryz.prog (0, 0) x (L92 id) := loops_eq lq92 lm92
noncomputable def sg92 : Sg := ⟨⟨[.one (.sl 0), .one (.sl 1)], [], [(87, (.int .u64), .ro), (87, (.int .u64), .ro)]⟩, [.row (.int .u64), .row (.int .u64)], ⟨[hh], [], []⟩, [.bool]⟩
noncomputable def E92 : Fun2 := eOf sg92 L.eqUint64S
theorem ev92 (a : Args sg92.ks) : evS Tryz.prog G92 L92 (0, 0) [] Tryz.f92 c92 (kOf sg92) (sg92.sk.fl (encP sg92.ks a)) = unc sg92.ks L.eqUint64S a := by kernel_rfl
theorem good92 : Vm.Good Tryz.prog 92 E92 := good_gen (G := G92) (L := L92) (c := c92) (rn := []) (N := (0, 0)) envNil_good lp92 Tryz.func92 (by kernel_rfl) (by kernel_rfl) (fun _ => by kernel_rfl) ev92
noncomputable def G30 : Env := (envCons 92 [] E92 envNil)
noncomputable def c30 : Code := bodyOf Tryz.f30
noncomputable def L.eqLat (a1 a2 : Int) (a3 a4 : List Int) : Option Bool :=
(bif (a1 != a2) then
(some false)
else
(Option.bind (L.eqUint64S a3 a4) fun r5 =>
(bif (!r5) then
(some false)
else
(some true))))
noncomputable def sg30 : Sg := ⟨⟨[.agg [.hole, .sl 0], .agg [.hole, .sl 1]], [], [(87, (.int .u64), .ro), (87, (.int .u64), .ro)]⟩, (ki 2 [.row (.int .u64), .row (.int .u64)]), ⟨[hh], [], []⟩, [.bool]⟩
noncomputable def E30 : Fun2 := eOf sg30 L.eqLat
theorem ev30 (a : Args sg30.ks) : evS Tryz.prog G30 loopNil (0, 0) [] Tryz.f30 c30 (kOf sg30) (sg30.sk.fl (encP sg30.ks a)) = unc sg30.ks L.eqLat a := by kernel_rfl
theorem good30 : Vm.Good Tryz.prog 30 E30 := good_gen (G := G30) (L := loopNil) (c := c30) (rn := []) (N := (0, 0)) (envCons_good good92 envNil_good) (no_loops (c := c30) (by kernel_rfl)) Tryz.func30 (by kernel_rfl) (by kernel_rfl) (fun _ => by kernel_rfl) ev30
noncomputable def G275 : Env := envNil
noncomputable def c275 : Code := bodyOf Tryz.f275
noncomputable def L.eqTok (a1 a2 a3 a4 : Int) : Option Bool :=
(bif (a1 != a3) then
(some false)
else
(bif (a2 != a4) then
(some false)
else
(some true)))
noncomputable def sg275 : Sg := ⟨⟨[.agg (ho 2 []), .agg (ho 2 [])], [], []⟩, (ki 4 []), ⟨[hh], [], []⟩, [.bool]⟩
noncomputable def E275 : Fun2 := eOf sg275 L.eqTok
theorem ev275 (a : Args sg275.ks) : evS Tryz.prog G275 loopNil (0, 0) [] Tryz.f275 c275 (kOf sg275) (sg275.sk.fl (encP sg275.ks a)) = unc sg275.ks L.eqTok a := by kernel_rfl
theorem good275 : Vm.Good Tryz.prog 275 E275 := good_gen (G := G275) (L := loopNil) (c := c275) (rn := []) (N := (0, 0)) envNil_good (no_loops (c := c275) (by kernel_rfl)) Tryz.func275 (by kernel_rfl) (by kernel_rfl) (fun _ => by kernel_rfl) ev275
noncomputable def G234 : Env := (envCons 275 [] E275 envNil)
noncomputable def c234 : Code := bodyOf Tryz.f234
noncomputable def c234_4 : Code := (loopsOf c234).getD 0 .skip
noncomputable def L.eqTokS_l0 : Nat → (Bool → Option Bool) → (Option Bool) → Int → (List (Int × Int)) → (List (Int × Int)) → Option Bool
  | 0, _, _, _, _, _ => none
  | m + 1, e4_0, e4_1, a5, a6, a7 =>
    (bif (decide (a5 < (a6.length : Int))) then
    (bif decide ((0 : Int) ≤ a5 ∧ a5 < (a6.length : Int)) then
    (bif decide ((0 : Int) ≤ a5 ∧ a5 < (a7.length : Int)) then
    (Option.bind (L.eqTok ((nthI a6 a5 df2).1) ((nthI a6 a5 df2).2) ((nthI a7 a5 df2).1) ((nthI a7 a5 df2).2)) fun r10 =>
    (bif (!r10) then
    (e4_0 false)
    else
    (L.eqTokS_l0 m e4_0 e4_1 (IntKind.wrap .i64 (a5 + 1)) a6 a7)))
    else
    none)
    else
    none)
    else
    e4_1)
noncomputable def L.eqTokS (a1 a2 : List (Int × Int)) : Option Bool :=
(bif ((a1.length : Int) != (a2.length : Int)) then
(some false)
else
(L.eqTokS_l0 fu (fun y12 =>
(some y12)) (some true) 0 a1 a2))
noncomputable def H234_4 : LoopH := ⟨⟨((.one (.sl 0)) :: (.one (.sl 1)) :: (hu 3 (hh :: (hu 21 [])))), [], [(255, sh1, .ro), (255, sh1, .ro)]⟩, ([2, 3, 4] ++ rg 6 21), [], (rg 0 4 ++ rg 5 22), [], []⟩
noncomputable def k234_4 : List PK := [.int .i64, .row sh1, .row sh1]
noncomputable def W234_4 (m : Nat) (k : Kont Bool) : Cur k234_4 (Option Bool) := L.eqTokS_l0 m (exF k .ret ⟨(hu 4 (hh :: (hu 22 []))), [], []⟩ [.bool]) (exF k (.exit 0) ⟨(hu 27 []), [], []⟩ [])
noncomputable def E234_4 (m : Nat) : List Prm → Kont Bool → Option Bool := eL k234_4 (W234_4 m)
theorem ev234_4 (m : Nat) (k : Kont Bool) (a : Args k234_4) : evL Tryz.prog G234 loopNil c234_4 (turn Tryz.prog (0, 0) H234_4 (E234_4 m) k) (H234_4.sk.fl (encP k234_4 a)) = unc k234_4 (W234_4 (m + 1) k) a := by kernel_rfl
theorem ok234_4 (m : Nat) : LoopOk Tryz.prog (0, 0) c234_4 (enter Tryz.prog (0, 0) H234_4 (E234_4 m)) := loop_gen (Fl := W234_4) (G := G234) (L := loopNil) (envCons_good good275 envNil_good) (no_loops (c := c234_4) (by kernel_rfl)) (fun _ _ => by kernel_rfl) ev234_4 m
noncomputable def L234 : LEnv Bool := (loopCons 4 (enter Tryz.prog (0, 0) H234_4 (E234_4 fu)) loopNil)
theorem lq234 : loopsOf c234 = [c234_4] := by kernel_rfl
theorem fr234_4 : firstReg c234_4 = some 4 := by kernel_rfl
theorem le234_4 : L234 4 = enter Tryz.prog (0, 0) H234_4 (E234_4 fu) := by kernel_rfl
theorem lm234 : ∀ x ∈ [c234_4], ∀ id, firstReg x = some id → LoopOk Tryz.prog (0, 0) x (L234 id) := (loops_cons fr234_4 le234_4 (ok234_4 fu) loops_nil)
theorem lp234 : ∀ x ∈ loopsOf c234, ∀ id, firstReg x = some id → LoopOk Tryz.prog (0, 0) x (L234 id) := loops_eq lq234 lm234
noncomputable def sg234 : Sg := ⟨⟨[.one (.sl 0), .one (.sl 1)], [], [(255, sh1, .ro), (255, sh1, .ro)]⟩, [.row sh1, .row sh1], ⟨[hh], [], []⟩, [.bool]⟩
noncomputable def E234 : Fun2 := eOf sg234 L.eqTokS
theorem ev234 (a : Args sg234.ks) : evS Tryz.prog G234 L234 (0, 0) [] Tryz.f234 c234 (kOf sg234) (sg234.sk.fl (encP sg234.ks a)) = unc sg234.ks L.eqTokS a := by kernel_rfl
theorem good234 : Vm.Good Tryz.prog 234 E234 := good_gen (G := G234) (L := L234) (c := c234) (rn := []) (N := (0, 0)) (envCons_good good275 envNil_good) lp234 Tryz.func234 (by kernel_rfl) (by kernel_rfl) (fun _ => by kernel_rfl) ev234
noncomputable def G235 : Env := envNil
noncomputable def c235 : Code := bodyOf Tryz.f235
noncomputable def L.eqWinDef (a1 a2 a3 a4 a5 a6 : Int) : Option Bool :=
(bif (a1 != a4) then
(some false)
else
(bif (a2 != a5) then
(some false)
else
(bif (a3 != a6) then
(some false)
else
(some true))))
noncomputable def sg235 : Sg := ⟨⟨[.agg (ho 3 []), .agg (ho 3 [])], [], []⟩, (ki 6 []), ⟨[hh], [], []⟩, [.bool]⟩
noncomputable def E235 : Fun2 := eOf sg235 L.eqWinDef
theorem ev235 (a : Args sg235.ks) : evS Tryz.prog G235 loopNil (0, 0) [] Tryz.f235 c235 (kOf sg235) (sg235.sk.fl (encP sg235.ks a)) = unc sg235.ks L.eqWinDef a := by kernel_rfl
theorem good235 : Vm.Good Tryz.prog 235 E235 := good_gen (G := G235) (L := loopNil) (c := c235) (rn := []) (N := (0, 0)) envNil_good (no_loops (c := c235) (by kernel_rfl)) Tryz.func235 (by kernel_rfl) (by kernel_rfl) (fun _ => by kernel_rfl) ev235
noncomputable def G153 : Env := (envCons 234 [] E234 (envCons 235 [] E235 envNil))
noncomputable def c153 : Code := bodyOf Tryz.f153
noncomputable def L.eqQuery (a1 a2 a3 a4 a5 a6 a7 a8 a9 a10 : Int) (a11 a12 a13 a14 : List (Int × Int)) : Option Bool :=
(Option.bind (L.eqTokS a11 a13) fun r15 =>
(bif (!r15) then
(some false)
else
(Option.bind (L.eqTokS a12 a14) fun r16 =>
(bif (!r16) then
(some false)
else
(Option.bind (L.eqWinDef a1 a2 a3 a6 a7 a8) fun r17 =>
(bif (!r17) then
(some false)
else
(bif (a4 != a9) then
(some false)
else
(bif (a5 != a10) then
(some false)
else
(some true)))))))))
noncomputable def sg153 : Sg := ⟨⟨[.agg ((.sl 0) :: (.sl 1) :: (ho 5 [])), .agg ((.sl 2) :: (.sl 3) :: (ho 5 []))], [], [(255, sh1, .ro), (255, sh1, .ro), (255, sh1, .ro), (255, sh1, .ro)]⟩, (ki 10 [.row sh1, .row sh1, .row sh1, .row sh1]), ⟨[hh], [], []⟩, [.bool]⟩
noncomputable def E153 : Fun2 := eOf sg153 L.eqQuery
theorem ev153 (a : Args sg153.ks) : evS Tryz.prog G153 loopNil (0, 0) [] Tryz.f153 c153 (kOf sg153) (sg153.sk.fl (encP sg153.ks a)) = unc sg153.ks L.eqQuery a := by kernel_rfl
theorem good153 : Vm.Good Tryz.prog 153 E153 := good_gen (G := G153) (L := loopNil) (c := c153) (rn := []) (N := (0, 0)) (envCons_good good234 (envCons_good good235 envNil_good)) (no_loops (c := c153) (by kernel_rfl)) Tryz.func153 (by kernel_rfl) (by kernel_rfl) (fun _ => by kernel_rfl) ev153
noncomputable def G70 : Env := (envCons 153 [] E153 envNil)
noncomputable def c70 : Code := bodyOf Tryz.f70
noncomputable def c70_4 : Code := (loopsOf c70).getD 0 .skip
noncomputable def L.eqQueryS_l0 : Nat → (Bool → Option Bool) → (Option Bool) → Int → (List ty6) → (List ty6) → Option Bool
  | 0, _, _, _, _, _ => none
  | m + 1, e4_0, e4_1, a5, a6, a7 =>
    (bif (decide (a5 < (a6.length : Int))) then
    (bif decide ((0 : Int) ≤ a5 ∧ a5 < (a6.length : Int)) then
    (bif decide ((0 : Int) ≤ a5 ∧ a5 < (a7.length : Int)) then
    (Option.bind (L.eqQuery ((nthI a6 a5 ([], ([], (df1, df2)))).2.2.1.1) ((nthI a6 a5 ([], ([], (df1, df2)))).2.2.1.2.1) ((nthI a6 a5 ([], ([], (df1, df2)))).2.2.1.2.2) ((nthI a6 a5 ([], ([], (df1, df2)))).2.2.2.1) ((nthI a6 a5 ([], ([], (df1, df2)))).2.2.2.2) ((nthI a7 a5 ([], ([], (df1, df2)))).2.2.1.1) ((nthI a7 a5 ([], ([], (df1, df2)))).2.2.1.2.1) ((nthI a7 a5 ([], ([], (df1, df2)))).2.2.1.2.2) ((nthI a7 a5 ([], ([], (df1, df2)))).2.2.2.1) ((nthI a7 a5 ([], ([], (df1, df2)))).2.2.2.2) ((nthI a6 a5 ([], ([], (df1, df2)))).1) ((nthI a6 a5 ([], ([], (df1, df2)))).2.1) ((nthI a7 a5 ([], ([], (df1, df2)))).1) ((nthI a7 a5 ([], ([], (df1, df2)))).2.1)) fun r10 =>
    (bif (!r10) then
    (e4_0 false)
    else
    (L.eqQueryS_l0 m e4_0 e4_1 (IntKind.wrap .i64 (a5 + 1)) a6 a7)))
    else
    none)
    else
    none)
    else
    e4_1)
noncomputable def L.eqQueryS (a1 a2 : List ty6) : Option Bool :=
(bif ((a1.length : Int) != (a2.length : Int)) then
(some false)
else
(L.eqQueryS_l0 fu (fun y12 =>
(some y12)) (some true) 0 a1 a2))
noncomputable def H70_4 : LoopH := ⟨⟨((.one (.sl 0)) :: (.one (.sl 1)) :: (hu 3 (hh :: (hu 21 [])))), [], [(190, sh10, .ro), (190, sh10, .ro)]⟩, ([2, 3, 4] ++ rg 6 21), [], (rg 0 4 ++ rg 5 22), [], []⟩
noncomputable def k70_4 : List PK := [.int .i64, .row sh10, .row sh10]
noncomputable def W70_4 (m : Nat) (k : Kont Bool) : Cur k70_4 (Option Bool) := L.eqQueryS_l0 m (exF k .ret ⟨(hu 4 (hh :: (hu 22 []))), [], []⟩ [.bool]) (exF k (.exit 0) ⟨(hu 27 []), [], []⟩ [])
noncomputable def E70_4 (m : Nat) : List Prm → Kont Bool → Option Bool := eL k70_4 (W70_4 m)
theorem ev70_4 (m : Nat) (k : Kont Bool) (a : Args k70_4) : evL Tryz.prog G70 loopNil c70_4 (turn Tryz.prog (0, 0) H70_4 (E70_4 m) k) (H70_4.sk.fl (encP k70_4 a)) = unc k70_4 (W70_4 (m + 1) k) a := by kernel_rfl
theorem ok70_4 (m : Nat) : LoopOk Tryz.prog (0, 0) c70_4 (enter Tryz.prog (0, 0) H70_4 (E70_4 m)) := loop_gen (Fl := W70_4) (G := G70) (L := loopNil) (envCons_good good153 envNil_good) (no_loops (c := c70_4) (by kernel_rfl)) (fun _ _ => by kernel_rfl) ev70_4 m
noncomputable def L70 : LEnv Bool := (loopCons 4 (enter Tryz.prog (0, 0) H70_4 (E70_4 fu)) loopNil)
theorem lq70 : loopsOf c70 = [c70_4] := by kernel_rfl
theorem fr70_4 : firstReg c70_4 = some 4 := by kernel_rfl
theorem le70_4 : L70 4 = enter Tryz.prog (0, 0) H70_4 (E70_4 fu) := by kernel_rfl
theorem lm70 : ∀ x ∈ [c70_4], ∀ id, firstReg x = some id → LoopOk Tryz.prog (0, 0) x (L70 id) := (loops_cons fr70_4 le70_4 (ok70_4 fu) loops_nil)
theorem lp70 : ∀ x ∈ loopsOf c70, ∀ id, firstReg x = some id → LoopOk Tryz.prog (0, 0) x (L70 id) := loops_eq lq70 lm70
noncomputable def sg70 : Sg := ⟨⟨[.one (.sl 0), .one (.sl 1)], [], [(190, sh10, .ro), (190, sh10, .ro)]⟩, [.row sh10, .row sh10], ⟨[hh], [], []⟩, [.bool]⟩
noncomputable def E70 : Fun2 := eOf sg70 L.eqQueryS
theorem ev70 (a : Args sg70.ks) : evS Tryz.prog G70 L70 (0, 0) [] Tryz.f70 c70 (kOf sg70) (sg70.sk.fl (encP sg70.ks a)) = unc sg70.ks L.eqQueryS a := by kernel_rfl
theorem good70 : Vm.Good Tryz.prog 70 E70 := good_gen (G := G70) (L := L70) (c := c70) (rn := []) (N := (0, 0)) (envCons_good good153 envNil_good) lp70 Tryz.func70 (by kernel_rfl) (by kernel_rfl) (fun _ => by kernel_rfl) ev70
noncomputable def G154 : Env := envNil
noncomputable def c154 : Code := bodyOf Tryz.f154
noncomputable def L.eqSub (a1 a2 a3 a4 a5 a6 : Int) : Option Bool :=
(bif (a1 != a4) then
(some false)
else
(bif (a2 != a5) then
(some false)
else
(bif (a3 != a6) then
(some false)
else
(some true))))
noncomputable def sg154 : Sg := ⟨⟨[.agg (ho 3 []), .agg (ho 3 [])], [], []⟩, (ki 6 []), ⟨[hh], [], []⟩, [.bool]⟩
noncomputable def E154 : Fun2 := eOf sg154 L.eqSub
theorem ev154 (a : Args sg154.ks) : evS Tryz.prog G154 loopNil (0, 0) [] Tryz.f154 c154 (kOf sg154) (sg154.sk.fl (encP sg154.ks a)) = unc sg154.ks L.eqSub a := by kernel_rfl
theorem good154 : Vm.Good Tryz.prog 154 E154 := good_gen (G := G154) (L := loopNil) (c := c154) (rn := []) (N := (0, 0)) envNil_good (no_loops (c := c154) (by kernel_rfl)) Tryz.func154 (by kernel_rfl) (by kernel_rfl) (fun _ => by kernel_rfl) ev154
noncomputable def G71 : Env := (envCons 154 [] E154 envNil)
noncomputable def c71 : Code := bodyOf Tryz.f71
noncomputable def c71_4 : Code := (loopsOf c71).getD 0 .skip
noncomputable def L.eqSubS_l0 : Nat → (Bool → Option Bool) → (Option Bool) → Int → (List (Int × Int × Int)) → (List (Int × Int × Int)) → Option Bool
  | 0, _, _, _, _, _ => none
  | m + 1, e4_0, e4_1, a5, a6, a7 =>
    (bif (decide (a5 < (a6.length : Int))) then
    (bif decide ((0 : Int) ≤ a5 ∧ a5 < (a6.length : Int)) then
    (bif decide ((0 : Int) ≤ a5 ∧ a5 < (a7.length : Int)) then
    (Option.bind (L.eqSub ((nthI a6 a5 df1).1) ((nthI a6 a5 df1).2.1) ((nthI a6 a5 df1).2.2) ((nthI a7 a5 df1).1) ((nthI a7 a5 df1).2.1) ((nthI a7 a5 df1).2.2)) fun r10 =>
    (bif (!r10) then
    (e4_0 false)
    else
    (L.eqSubS_l0 m e4_0 e4_1 (IntKind.wrap .i64 (a5 + 1)) a6 a7)))
    else
    none)
    else
    none)
    else
    e4_1)
noncomputable def L.eqSubS (a1 a2 : List (Int × Int × Int)) : Option Bool :=
(bif ((a1.length : Int) != (a2.length : Int)) then
(some false)
else
(L.eqSubS_l0 fu (fun y12 =>
(some y12)) (some true) 0 a1 a2))
noncomputable def H71_4 : LoopH := ⟨⟨((.one (.sl 0)) :: (.one (.sl 1)) :: (hu 3 (hh :: (hu 21 [])))), [], [(126, sh3, .ro), (126, sh3, .ro)]⟩, ([2, 3, 4] ++ rg 6 21), [], (rg 0 4 ++ rg 5 22), [], []⟩
noncomputable def k71_4 : List PK := [.int .i64, .row sh3, .row sh3]
noncomputable def W71_4 (m : Nat) (k : Kont Bool) : Cur k71_4 (Option Bool) := L.eqSubS_l0 m (exF k .ret ⟨(hu 4 (hh :: (hu 22 []))), [], []⟩ [.bool]) (exF k (.exit 0) ⟨(hu 27 []), [], []⟩ [])
noncomputable def E71_4 (m : Nat) : List Prm → Kont Bool → Option Bool := eL k71_4 (W71_4 m)
theorem ev71_4 (m : Nat) (k : Kont Bool) (a : Args k71_4) : evL Tryz.prog G71 loopNil c71_4 (turn Tryz.prog (0, 0) H71_4 (E71_4 m) k) (H71_4.sk.fl (encP k71_4 a)) = unc k71_4 (W71_4 (m + 1) k) a := by kernel_rfl
theorem ok71_4 (m : Nat) : LoopOk Tryz.prog (0, 0) c71_4 (enter Tryz.prog (0, 0) H71_4 (E71_4 m)) := loop_gen (Fl := W71_4) (G := G71) (L := loopNil) (envCons_good good154 envNil_good) (no_loops (c := c71_4) (by kernel_rfl)) (fun _ _ => by kernel_rfl) ev71_4 m
noncomputable def L71 : LEnv Bool := (loopCons 4 (enter Tryz.prog (0, 0) H71_4 (E71_4 fu)) loopNil)
theorem lq71 : loopsOf c71 = [c71_4] := by kernel_rfl
theorem fr71_4 : firstReg c71_4 = some 4 := by kernel_rfl
theorem le71_4 : L71 4 = enter Tryz.prog (0, 0) H71_4 (E71_4 fu) := by kernel_rfl
theorem lm71 : ∀ x ∈ [c71_4], ∀ id, firstReg x = some id → LoopOk Tryz.prog (0, 0) x (L71 id) := (loops_cons fr71_4 le71_4 (ok71_4 fu) loops_nil)
theorem lp71 : ∀ x ∈ loopsOf c71, ∀ id, firstReg x = some id → LoopOk Tryz.prog (0, 0) x (L71 id) := loops_eq lq71 lm71
noncomputable def sg71 : Sg := ⟨⟨[.one (.sl 0), .one (.sl 1)], [], [(126, sh3, .ro), (126, sh3, .ro)]⟩, [.row sh3, .row sh3], ⟨[hh], [], []⟩, [.bool]⟩
noncomputable def E71 : Fun2 := eOf sg71 L.eqSubS
theorem ev71 (a : Args sg71.ks) : evS Tryz.prog G71 L71 (0, 0) [] Tryz.f71 c71 (kOf sg71) (sg71.sk.fl (encP sg71.ks a)) = unc sg71.ks L.eqSubS a := by kernel_rfl
theorem good71 : Vm.Good Tryz.prog 71 E71 := good_gen (G := G71) (L := L71) (c := c71) (rn := []) (N := (0, 0)) (envCons_good good154 envNil_good) lp71 Tryz.func71 (by kernel_rfl) (by kernel_rfl) (fun _ => by kernel_rfl) ev71
noncomputable def G155 : Env := envNil
noncomputable def c155 : Code := bodyOf Tryz.f155
noncomputable def L.eqRule (a1 a2 a3 a4 a5 a6 a7 a8 a9 a10 : Int) : Option Bool :=
(bif (a1 != a6) then
(some false)
else
(bif (a2 != a7) then
(some false)
else
(bif (a3 != a8) then
(some false)
else
(bif (a4 != a9) then
(some false)
else
(bif (a5 != a10) then
(some false)
else
(some true))))))
noncomputable def sg155 : Sg := ⟨⟨[.agg (ho 5 []), .agg (ho 5 [])], [], []⟩, (ki 10 []), ⟨[hh], [], []⟩, [.bool]⟩
noncomputable def E155 : Fun2 := eOf sg155 L.eqRule
theorem ev155 (a : Args sg155.ks) : evS Tryz.prog G155 loopNil (0, 0) [] Tryz.f155 c155 (kOf sg155) (sg155.sk.fl (encP sg155.ks a)) = unc sg155.ks L.eqRule a := by kernel_rfl
theorem good155 : Vm.Good Tryz.prog 155 E155 := good_gen (G := G155) (L := loopNil) (c := c155) (rn := []) (N := (0, 0)) envNil_good (no_loops (c := c155) (by kernel_rfl)) Tryz.func155 (by kernel_rfl) (by kernel_rfl) (fun _ => by kernel_rfl) ev155
noncomputable def G72 : Env := (envCons 155 [] E155 envNil)
noncomputable def c72 : Code := bodyOf Tryz.f72
noncomputable def c72_4 : Code := (loopsOf c72).getD 0 .skip
noncomputable def L.eqRuleS_l0 : Nat → (Bool → Option Bool) → (Option Bool) → Int → (List ty10) → (List ty10) → Option Bool
  | 0, _, _, _, _, _ => none
  | m + 1, e4_0, e4_1, a5, a6, a7 =>
    (bif (decide (a5 < (a6.length : Int))) then
    (bif decide ((0 : Int) ≤ a5 ∧ a5 < (a6.length : Int)) then
    (bif decide ((0 : Int) ≤ a5 ∧ a5 < (a7.length : Int)) then
    (Option.bind (L.eqRule ((nthI a6 a5 df6).1) ((nthI a6 a5 df6).2.1) ((nthI a6 a5 df6).2.2.1) ((nthI a6 a5 df6).2.2.2.1) ((nthI a6 a5 df6).2.2.2.2) ((nthI a7 a5 df6).1) ((nthI a7 a5 df6).2.1) ((nthI a7 a5 df6).2.2.1) ((nthI a7 a5 df6).2.2.2.1) ((nthI a7 a5 df6).2.2.2.2)) fun r10 =>
    (bif (!r10) then
    (e4_0 false)
    else
    (L.eqRuleS_l0 m e4_0 e4_1 (IntKind.wrap .i64 (a5 + 1)) a6 a7)))
    else
    none)
    else
    none)
    else
    e4_1)
noncomputable def L.eqRuleS (a1 a2 : List ty10) : Option Bool :=
(bif ((a1.length : Int) != (a2.length : Int)) then
(some false)
else
(L.eqRuleS_l0 fu (fun y12 =>
(some y12)) (some true) 0 a1 a2))
noncomputable def H72_4 : LoopH := ⟨⟨((.one (.sl 0)) :: (.one (.sl 1)) :: (hu 3 (hh :: (hu 21 [])))), [], [(159, sh4, .ro), (159, sh4, .ro)]⟩, ([2, 3, 4] ++ rg 6 21), [], (rg 0 4 ++ rg 5 22), [], []⟩
noncomputable def k72_4 : List PK := [.int .i64, .row sh4, .row sh4]
noncomputable def W72_4 (m : Nat) (k : Kont Bool) : Cur k72_4 (Option Bool) := L.eqRuleS_l0 m (exF k .ret ⟨(hu 4 (hh :: (hu 22 []))), [], []⟩ [.bool]) (exF k (.exit 0) ⟨(hu 27 []), [], []⟩ [])
noncomputable def E72_4 (m : Nat) : List Prm → Kont Bool → Option Bool := eL k72_4 (W72_4 m)
theorem ev72_4 (m : Nat) (k : Kont Bool) (a : Args k72_4) : evL Tryz.prog G72 loopNil c72_4 (turn Tryz.prog (0, 0) H72_4 (E72_4 m) k) (H72_4.sk.fl (encP k72_4 a)) = unc k72_4 (W72_4 (m + 1) k) a := by kernel_rfl
theorem ok72_4 (m : Nat) : LoopOk Tryz.prog (0, 0) c72_4 (enter Tryz.prog (0, 0) H72_4 (E72_4 m)) := loop_gen (Fl := W72_4) (G := G72) (L := loopNil) (envCons_good good155 envNil_good) (no_loops (c := c72_4) (by kernel_rfl)) (fun _ _ => by kernel_rfl) ev72_4 m
noncomputable def L72 : LEnv Bool := (loopCons 4 (enter Tryz.prog (0, 0) H72_4 (E72_4 fu)) loopNil)
theorem lq72 : loopsOf c72 = [c72_4] := by kernel_rfl
theorem fr72_4 : firstReg c72_4 = some 4 := by kernel_rfl
theorem le72_4 : L72 4 = enter Tryz.prog (0, 0) H72_4 (E72_4 fu) := by kernel_rfl
theorem lm72 : ∀ x ∈ [c72_4], ∀ id, firstReg x = some id → LoopOk Tryz.prog (0, 0) x (L72 id) := (loops_cons fr72_4 le72_4 (ok72_4 fu) loops_nil)
theorem lp72 : ∀ x ∈ loopsOf c72, ∀ id, firstReg x = some id → LoopOk Tryz.prog (0, 0) x (L72 id) := loops_eq lq72 lm72
noncomputable def sg72 : Sg := ⟨⟨[.one (.sl 0), .one (.sl 1)], [], [(159, sh4, .ro), (159, sh4, .ro)]⟩, [.row sh4, .row sh4], ⟨[hh], [], []⟩, [.bool]⟩
noncomputable def E72 : Fun2 := eOf sg72 L.eqRuleS
theorem ev72 (a : Args sg72.ks) : evS Tryz.prog G72 L72 (0, 0) [] Tryz.f72 c72 (kOf sg72) (sg72.sk.fl (encP sg72.ks a)) = unc sg72.ks L.eqRuleS a := by kernel_rfl
theorem good72 : Vm.Good Tryz.prog 72 E72 := good_gen (G := G72) (L := L72) (c := c72) (rn := []) (N := (0, 0)) (envCons_good good155 envNil_good) lp72 Tryz.func72 (by kernel_rfl) (by kernel_rfl) (fun _ => by kernel_rfl) ev72
noncomputable def G21 : Env := (envCons 30 [] E30 (envCons 70 [] E70 (envCons 71 [] E71 (envCons 72 [] E72 envNil))))
noncomputable def c21 : Code := bodyOf Tryz.f21
noncomputable def L.eqConf (a1 a2 a3 a4 a5 a6 : Int) (a7 : List Int) (a8 : List ty6) (a9 : List (Int × Int × Int)) (a10 : List ty10) (a11 : List Int) (a12 : List ty6) (a13 : List (Int × Int × Int)) (a14 : List ty10) : Option Bool :=
(Option.bind (L.eqLat a1 a4 a7 a11) fun r15 =>
(bif (!r15) then
(some false)
else
(bif (a2 != a5) then
(some false)
else
(bif (a3 != a6) then
(some false)
else
(Option.bind (L.eqQueryS a8 a12) fun r16 =>
(bif (!r16) then
(some false)
else
(Option.bind (L.eqSubS a9 a13) fun r17 =>
(bif (!r17) then
(some false)
else
(Option.bind (L.eqRuleS a10 a14) fun r18 =>
(bif (!r18) then
(some false)
else
(some true)))))))))))
noncomputable def sg21 : Sg := ⟨⟨[.agg ((.hole) :: (.sl 0) :: (ho 2 [.sl 1, .sl 2, .sl 3])), .agg ((.hole) :: (.sl 4) :: (ho 2 [.sl 5, .sl 6, .sl 7]))], [], [(87, (.int .u64), .ro), (190, sh10, .ro), (126, sh3, .ro), (159, sh4, .ro), (87, (.int .u64), .ro), (190, sh10, .ro), (126, sh3, .ro), (159, sh4, .ro)]⟩, (ki 6 [.row (.int .u64), .row sh10, .row sh3, .row sh4, .row (.int .u64), .row sh10, .row sh3, .row sh4]), ⟨[hh], [], []⟩, [.bool]⟩
noncomputable def E21 : Fun2 := eOf sg21 L.eqConf
theorem ev21 (a : Args sg21.ks) : evS Tryz.prog G21 loopNil (0, 0) [] Tryz.f21 c21 (kOf sg21) (sg21.sk.fl (encP sg21.ks a)) = unc sg21.ks L.eqConf a := by kernel_rfl
theorem good21 : Vm.Good Tryz.prog 21 E21 := good_gen (G := G21) (L := loopNil) (c := c21) (rn := []) (N := (0, 0)) (envCons_good good30 (envCons_good good70 (envCons_good good71 (envCons_good good72 envNil_good)))) (no_loops (c := c21) (by kernel_rfl)) Tryz.func21 (by kernel_rfl) (by kernel_rfl) (fun _ => by kernel_rfl) ev21
noncomputable def G150 : Env := envNil
noncomputable def c150 : Code := bodyOf Tryz.f150
noncomputable def L.eqPunct (a1 a2 a3 a4 a5 a6 a7 a8 : Int) : Option Bool :=
(bif (a1 != a5) then
(some false)
else
(bif (a2 != a6) then
(some false)
else
(bif (a3 != a7) then
(some false)
else
(bif (a4 != a8) then
(some false)
else
(some true)))))
noncomputable def sg150 : Sg := ⟨⟨[.agg (ho 4 []), .agg (ho 4 [])], [], []⟩, (ki 8 []), ⟨[hh], [], []⟩, [.bool]⟩
noncomputable def E150 : Fun2 := eOf sg150 L.eqPunct
theorem ev150 (a : Args sg150.ks) : evS Tryz.prog G150 loopNil (0, 0) [] Tryz.f150 c150 (kOf sg150) (sg150.sk.fl (encP sg150.ks a)) = unc sg150.ks L.eqPunct a := by kernel_rfl
theorem good150 : Vm.Good Tryz.prog 150 E150 := good_gen (G := G150) (L := loopNil) (c := c150) (rn := []) (N := (0, 0)) envNil_good (no_loops (c := c150) (by kernel_rfl)) Tryz.func150 (by kernel_rfl) (by kernel_rfl) (fun _ => by kernel_rfl) ev150
noncomputable def G67 : Env := (envCons 150 [] E150 envNil)
noncomputable def c67 : Code := bodyOf Tryz.f67
noncomputable def c67_4 : Code := (loopsOf c67).getD 0 .skip
noncomputable def L.eqPunctS_l0 : Nat → (Bool → Option Bool) → (Option Bool) → Int → (List (Int × Int × Int × Int)) → (List (Int × Int × Int × Int)) → Option Bool
  | 0, _, _, _, _, _ => none
  | m + 1, e4_0, e4_1, a5, a6, a7 =>
    (bif (decide (a5 < (a6.length : Int))) then
    (bif decide ((0 : Int) ≤ a5 ∧ a5 < (a6.length : Int)) then
    (bif decide ((0 : Int) ≤ a5 ∧ a5 < (a7.length : Int)) then
    (Option.bind (L.eqPunct ((nthI a6 a5 df7).1) ((nthI a6 a5 df7).2.1) ((nthI a6 a5 df7).2.2.1) ((nthI a6 a5 df7).2.2.2) ((nthI a7 a5 df7).1) ((nthI a7 a5 df7).2.1) ((nthI a7 a5 df7).2.2.1) ((nthI a7 a5 df7).2.2.2)) fun r10 =>
    (bif (!r10) then
    (e4_0 false)
    else
    (L.eqPunctS_l0 m e4_0 e4_1 (IntKind.wrap .i64 (a5 + 1)) a6 a7)))
    else
    none)
    else
    none)
    else
    e4_1)
noncomputable def L.eqPunctS (a1 a2 : List (Int × Int × Int × Int)) : Option Bool :=
(bif ((a1.length : Int) != (a2.length : Int)) then
(some false)
else
(L.eqPunctS_l0 fu (fun y12 =>
(some y12)) (some true) 0 a1 a2))
noncomputable def H67_4 : LoopH := ⟨⟨((.one (.sl 0)) :: (.one (.sl 1)) :: (hu 3 (hh :: (hu 21 [])))), [], [(156, sh5, .ro), (156, sh5, .ro)]⟩, ([2, 3, 4] ++ rg 6 21), [], (rg 0 4 ++ rg 5 22), [], []⟩
noncomputable def k67_4 : List PK := [.int .i64, .row sh5, .row sh5]
noncomputable def W67_4 (m : Nat) (k : Kont Bool) : Cur k67_4 (Option Bool) := L.eqPunctS_l0 m (exF k .ret ⟨(hu 4 (hh :: (hu 22 []))), [], []⟩ [.bool]) (exF k (.exit 0) ⟨(hu 27 []), [], []⟩ [])
noncomputable def E67_4 (m : Nat) : List Prm → Kont Bool → Option Bool := eL k67_4 (W67_4 m)
theorem ev67_4 (m : Nat) (k : Kont Bool) (a : Args k67_4) : evL Tryz.prog G67 loopNil c67_4 (turn Tryz.prog (0, 0) H67_4 (E67_4 m) k) (H67_4.sk.fl (encP k67_4 a)) = unc k67_4 (W67_4 (m + 1) k) a := by kernel_rfl
theorem ok67_4 (m : Nat) : LoopOk Tryz.prog (0, 0) c67_4 (enter Tryz.prog (0, 0) H67_4 (E67_4 m)) := loop_gen (Fl := W67_4) (G := G67) (L := loopNil) (envCons_good good150 envNil_good) (no_loops (c := c67_4) (by kernel_rfl)) (fun _ _ => by kernel_rfl) ev67_4 m
noncomputable def L67 : LEnv Bool := (loopCons 4 (enter Tryz.prog (0, 0) H67_4 (E67_4 fu)) loopNil)
theorem lq67 : loopsOf c67 = [c67_4] := by kernel_rfl
theorem fr67_4 : firstReg c67_4 = some 4 := by kernel_rfl
theorem le67_4 : L67 4 = enter Tryz.prog (0, 0) H67_4 (E67_4 fu) := by kernel_rfl
theorem lm67 : ∀ x ∈ [c67_4], ∀ id, firstReg x = some id → LoopOk Tryz.prog (0, 0) x (L67 id) := (loops_cons fr67_4 le67_4 (ok67_4 fu) loops_nil)
theorem lp67 : ∀ x ∈ loopsOf c67, ∀ id, firstReg x = some id → LoopOk Tryz.prog (0, 0) x (L67 id) := loops_eq lq67 lm67
noncomputable def sg67 : Sg := ⟨⟨[.one (.sl 0), .one (.sl 1)], [], [(156, sh5, .ro), (156, sh5, .ro)]⟩, [.row sh5, .row sh5], ⟨[hh], [], []⟩, [.bool]⟩
noncomputable def E67 : Fun2 := eOf sg67 L.eqPunctS
theorem ev67 (a : Args sg67.ks) : evS Tryz.prog G67 L67 (0, 0) [] Tryz.f67 c67 (kOf sg67) (sg67.sk.fl (encP sg67.ks a)) = unc sg67.ks L.eqPunctS a := by kernel_rfl
theorem good67 : Vm.Good Tryz.prog 67 E67 := good_gen (G := G67) (L := L67) (c := c67) (rn := []) (N := (0, 0)) (envCons_good good150 envNil_good) lp67 Tryz.func67 (by kernel_rfl) (by kernel_rfl) (fun _ => by kernel_rfl) ev67
noncomputable def G231 : Env := envNil
noncomputable def c231 : Code := bodyOf Tryz.f231
noncomputable def L.eqMark (a1 : Int) (a2 : Bool) (a3 : Int) (a4 : Bool) : Option Bool :=
(bif (a1 != a3) then
(some false)
else
(bif (!(a2 == a4)) then
(some false)
else
(some true)))
noncomputable def sg231 : Sg := ⟨⟨[.agg (ho 2 []), .agg (ho 2 [])], [], []⟩, [.int .i64, .bool, .int .i64, .bool], ⟨[hh], [], []⟩, [.bool]⟩
noncomputable def E231 : Fun2 := eOf sg231 L.eqMark
theorem ev231 (a : Args sg231.ks) : evS Tryz.prog G231 loopNil (0, 0) [] Tryz.f231 c231 (kOf sg231) (sg231.sk.fl (encP sg231.ks a)) = unc sg231.ks L.eqMark a := by kernel_rfl
theorem good231 : Vm.Good Tryz.prog 231 E231 := good_gen (G := G231) (L := loopNil) (c := c231) (rn := []) (N := (0, 0)) envNil_good (no_loops (c := c231) (by kernel_rfl)) Tryz.func231 (by kernel_rfl) (by kernel_rfl) (fun _ => by kernel_rfl) ev231
noncomputable def G151 : Env := (envCons 231 [] E231 envNil)
noncomputable def c151 : Code := bodyOf Tryz.f151
noncomputable def c151_4 : Code := (loopsOf c151).getD 0 .skip
noncomputable def L.eqMarkS_l0 : Nat → (Bool → Option Bool) → (Option Bool) → Int → (List (Int × Bool)) → (List (Int × Bool)) → Option Bool
  | 0, _, _, _, _, _ => none
  | m + 1, e4_0, e4_1, a5, a6, a7 =>
    (bif (decide (a5 < (a6.length : Int))) then
    (bif decide ((0 : Int) ≤ a5 ∧ a5 < (a6.length : Int)) then
    (bif decide ((0 : Int) ≤ a5 ∧ a5 < (a7.length : Int)) then
    (Option.bind (L.eqMark ((nthI a6 a5 df8).1) ((nthI a6 a5 df8).2) ((nthI a7 a5 df8).1) ((nthI a7 a5 df8).2)) fun r10 =>
    (bif (!r10) then
    (e4_0 false)
    else
    (L.eqMarkS_l0 m e4_0 e4_1 (IntKind.wrap .i64 (a5 + 1)) a6 a7)))
    else
    none)
    else
    none)
    else
    e4_1)
noncomputable def L.eqMarkS (a1 a2 : List (Int × Bool)) : Option Bool :=
(bif ((a1.length : Int) != (a2.length : Int)) then
(some false)
else
(L.eqMarkS_l0 fu (fun y12 =>
(some y12)) (some true) 0 a1 a2))
noncomputable def H151_4 : LoopH := ⟨⟨((.one (.sl 0)) :: (.one (.sl 1)) :: (hu 3 (hh :: (hu 21 [])))), [], [(225, sh6, .ro), (225, sh6, .ro)]⟩, ([2, 3, 4] ++ rg 6 21), [], (rg 0 4 ++ rg 5 22), [], []⟩
noncomputable def k151_4 : List PK := [.int .i64, .row sh6, .row sh6]
noncomputable def W151_4 (m : Nat) (k : Kont Bool) : Cur k151_4 (Option Bool) := L.eqMarkS_l0 m (exF k .ret ⟨(hu 4 (hh :: (hu 22 []))), [], []⟩ [.bool]) (exF k (.exit 0) ⟨(hu 27 []), [], []⟩ [])
noncomputable def E151_4 (m : Nat) : List Prm → Kont Bool → Option Bool := eL k151_4 (W151_4 m)
theorem ev151_4 (m : Nat) (k : Kont Bool) (a : Args k151_4) : evL Tryz.prog G151 loopNil c151_4 (turn Tryz.prog (0, 0) H151_4 (E151_4 m) k) (H151_4.sk.fl (encP k151_4 a)) = unc k151_4 (W151_4 (m + 1) k) a := by kernel_rfl
theorem ok151_4 (m : Nat) : LoopOk Tryz.prog (0, 0) c151_4 (enter Tryz.prog (0, 0) H151_4 (E151_4 m)) := loop_gen (Fl := W151_4) (G := G151) (L := loopNil) (envCons_good good231 envNil_good) (no_loops (c := c151_4) (by kernel_rfl)) (fun _ _ => by kernel_rfl) ev151_4 m
noncomputable def L151 : LEnv Bool := (loopCons 4 (enter Tryz.prog (0, 0) H151_4 (E151_4 fu)) loopNil)
theorem lq151 : loopsOf c151 = [c151_4] := by kernel_rfl
theorem fr151_4 : firstReg c151_4 = some 4 := by kernel_rfl
theorem le151_4 : L151 4 = enter Tryz.prog (0, 0) H151_4 (E151_4 fu) := by kernel_rfl
theorem lm151 : ∀ x ∈ [c151_4], ∀ id, firstReg x = some id → LoopOk Tryz.prog (0, 0) x (L151 id) := (loops_cons fr151_4 le151_4 (ok151_4 fu) loops_nil)
theorem lp151 : ∀ x ∈ loopsOf c151, ∀ id, firstReg x = some id → LoopOk Tryz.prog (0, 0) x (L151 id) := loops_eq lq151 lm151
noncomputable def sg151 : Sg := ⟨⟨[.one (.sl 0), .one (.sl 1)], [], [(225, sh6, .ro), (225, sh6, .ro)]⟩, [.row sh6, .row sh6], ⟨[hh], [], []⟩, [.bool]⟩
noncomputable def E151 : Fun2 := eOf sg151 L.eqMarkS
theorem ev151 (a : Args sg151.ks) : evS Tryz.prog G151 L151 (0, 0) [] Tryz.f151 c151 (kOf sg151) (sg151.sk.fl (encP sg151.ks a)) = unc sg151.ks L.eqMarkS a := by kernel_rfl
theorem good151 : Vm.Good Tryz.prog 151 E151 := good_gen (G := G151) (L := L151) (c := c151) (rn := []) (N := (0, 0)) (envCons_good good231 envNil_good) lp151 Tryz.func151 (by kernel_rfl) (by kernel_rfl) (fun _ => by kernel_rfl) ev151
noncomputable def G68 : Env := (envCons 151 [] E151 envNil)
noncomputable def c68 : Code := bodyOf Tryz.f68
noncomputable def L.eqMarks (a1 a2 : Int) (a3 a4 : List (Int × Bool)) : Option Bool :=
(bif (a1 != a2) then
(some false)
else
(Option.bind (L.eqMarkS a3 a4) fun r5 =>
(bif (!r5) then
(some false)
else
(some true))))
noncomputable def sg68 : Sg := ⟨⟨[.agg [.hole, .sl 0], .agg [.hole, .sl 1]], [], [(225, sh6, .ro), (225, sh6, .ro)]⟩, (ki 2 [.row sh6, .row sh6]), ⟨[hh], [], []⟩, [.bool]⟩
noncomputable def E68 : Fun2 := eOf sg68 L.eqMarks
theorem ev68 (a : Args sg68.ks) : evS Tryz.prog G68 loopNil (0, 0) [] Tryz.f68 c68 (kOf sg68) (sg68.sk.fl (encP sg68.ks a)) = unc sg68.ks L.eqMarks a := by kernel_rfl
theorem good68 : Vm.Good Tryz.prog 68 E68 := good_gen (G := G68) (L := loopNil) (c := c68) (rn := []) (N := (0, 0)) (envCons_good good151 envNil_good) (no_loops (c := c68) (by kernel_rfl)) Tryz.func68 (by kernel_rfl) (by kernel_rfl) (fun _ => by kernel_rfl) ev68
noncomputable def G217 : Env := envNil
noncomputable def c217 : Code := bodyOf Tryz.f217
noncomputable def L.eqWide (a1 a2 a3 a4 : Int) : Option Bool :=
(bif (a1 != a3) then
(some false)
else
(bif (a2 != a4) then
(some false)
else
(some true)))
noncomputable def sg217 : Sg := ⟨⟨[.agg (ho 2 []), .agg (ho 2 [])], [], []⟩, [.int .i64, .int .u64, .int .i64, .int .u64], ⟨[hh], [], []⟩, [.bool]⟩
noncomputable def E217 : Fun2 := eOf sg217 L.eqWide
theorem ev217 (a : Args sg217.ks) : evS Tryz.prog G217 loopNil (0, 0) [] Tryz.f217 c217 (kOf sg217) (sg217.sk.fl (encP sg217.ks a)) = unc sg217.ks L.eqWide a := by kernel_rfl
theorem good217 : Vm.Good Tryz.prog 217 E217 := good_gen (G := G217) (L := loopNil) (c := c217) (rn := []) (N := (0, 0)) envNil_good (no_loops (c := c217) (by kernel_rfl)) Tryz.func217 (by kernel_rfl) (by kernel_rfl) (fun _ => by kernel_rfl) ev217
noncomputable def G31 : Env := envNil
noncomputable def c31 : Code := bodyOf Tryz.f31
noncomputable def c31_4 : Code := (loopsOf c31).getD 0 .skip
noncomputable def L.eqIntS_l0 : Nat → (Bool → Option Bool) → (Option Bool) → Int → List Int → List Int → Option Bool
  | 0, _, _, _, _, _ => none
  | m + 1, e4_0, e4_1, a5, a6, a7 =>
    (bif (decide (a5 < (a6.length : Int))) then
    (bif decide ((0 : Int) ≤ a5 ∧ a5 < (a6.length : Int)) then
    (bif decide ((0 : Int) ≤ a5 ∧ a5 < (a7.length : Int)) then
    (bif ((nthI a6 a5 (0 : Int)) != (nthI a7 a5 (0 : Int))) then
    (e4_0 false)
    else
    (L.eqIntS_l0 m e4_0 e4_1 (IntKind.wrap .i64 (a5 + 1)) a6 a7))
    else
    none)
    else
    none)
    else
    e4_1)
noncomputable def L.eqIntS (a1 a2 : List Int) : Option Bool :=
(bif ((a1.length : Int) != (a2.length : Int)) then
(some false)
else
(L.eqIntS_l0 fu (fun y12 =>
(some y12)) (some true) 0 a1 a2))
noncomputable def H31_4 : LoopH := ⟨⟨((.one (.sl 0)) :: (.one (.sl 1)) :: (hu 3 (hh :: (hu 20 [])))), [], [(3, (.int .i64), .ro), (3, (.int .i64), .ro)]⟩, ([2, 3, 4] ++ rg 6 20), [], (rg 0 4 ++ rg 5 21), [], []⟩
noncomputable def k31_4 : List PK := [.int .i64, .row (.int .i64), .row (.int .i64)]
noncomputable def W31_4 (m : Nat) (k : Kont Bool) : Cur k31_4 (Option Bool) := L.eqIntS_l0 m (exF k .ret ⟨(hu 4 (hh :: (hu 21 []))), [], []⟩ [.bool]) (exF k (.exit 0) ⟨(hu 26 []), [], []⟩ [])
noncomputable def E31_4 (m : Nat) : List Prm → Kont Bool → Option Bool := eL k31_4 (W31_4 m)
theorem ev31_4 (m : Nat) (k : Kont Bool) (a : Args k31_4) : evL Tryz.prog G31 loopNil c31_4 (turn Tryz.prog (0, 0) H31_4 (E31_4 m) k) (H31_4.sk.fl (encP k31_4 a)) = unc k31_4 (W31_4 (m + 1) k) a := by kernel_rfl
theorem ok31_4 (m : Nat) : LoopOk Tryz.prog (0, 0) c31_4 (enter Tryz.prog (0, 0) H31_4 (E31_4 m)) := loop_gen (Fl := W31_4) (G := G31) (L := loopNil) envNil_good (no_loops (c := c31_4) (by kernel_rfl)) (fun _ _ => by kernel_rfl) ev31_4 m
noncomputable def L31 : LEnv Bool := (loopCons 4 (enter Tryz.prog (0, 0) H31_4 (E31_4 fu)) loopNil)
theorem lq31 : loopsOf c31 = [c31_4] := by kernel_rfl
theorem fr31_4 : firstReg c31_4 = some 4 := by kernel_rfl
theorem le31_4 : L31 4 = enter Tryz.prog (0, 0) H31_4 (E31_4 fu) := by kernel_rfl
theorem lm31 : ∀ x ∈ [c31_4], ∀ id, firstReg x = some id → LoopOk Tryz.prog (0, 0) x (L31 id) := (loops_cons fr31_4 le31_4 (ok31_4 fu) loops_nil)
theorem lp31 : ∀ x ∈ loopsOf c31, ∀ id, firstReg x = some id → LoopOk Tryz.prog (0, 0) x (L31 id) := loops_eq lq31 lm31
noncomputable def sg31 : Sg := ⟨⟨[.one (.sl 0), .one (.sl 1)], [], [(3, (.int .i64), .ro), (3, (.int .i64), .ro)]⟩, [.row (.int .i64), .row (.int .i64)], ⟨[hh], [], []⟩, [.bool]⟩
noncomputable def E31 : Fun2 := eOf sg31 L.eqIntS
theorem ev31 (a : Args sg31.ks) : evS Tryz.prog G31 L31 (0, 0) [] Tryz.f31 c31 (kOf sg31) (sg31.sk.fl (encP sg31.ks a)) = unc sg31.ks L.eqIntS a := by kernel_rfl
theorem good31 : Vm.Good Tryz.prog 31 E31 := good_gen (G := G31) (L := L31) (c := c31) (rn := []) (N := (0, 0)) envNil_good lp31 Tryz.func31 (by kernel_rfl) (by kernel_rfl) (fun _ => by kernel_rfl) ev31
noncomputable def G136 : Env := (envCons 217 [] E217 (envCons 31 [] E31 envNil))
noncomputable def c136 : Code := bodyOf Tryz.f136
noncomputable def L.eqAgg (a1 a2 a3 a4 a5 a6 a7 a8 a9 a10 : Int) (a11 a12 : List Int) : Option Bool :=
(bif (a1 != a6) then
(some false)
else
(Option.bind (L.eqWide a2 a3 a7 a8) fun r13 =>
(bif (!r13) then
(some false)
else
(bif (a4 != a9) then
(some false)
else
(bif (a5 != a10) then
(some false)
else
(Option.bind (L.eqIntS a11 a12) fun r14 =>
(bif (!r14) then
(some false)
else
(some true))))))))
noncomputable def sg136 : Sg := ⟨⟨[.agg (ho 5 [.sl 0]), .agg (ho 5 [.sl 1])], [], [(3, (.int .i64), .ro), (3, (.int .i64), .ro)]⟩, (ki 2 ((.int .u64) :: (ki 4 ((.int .u64) :: (ki 2 [.row (.int .i64), .row (.int .i64)]))))), ⟨[hh], [], []⟩, [.bool]⟩
noncomputable def E136 : Fun2 := eOf sg136 L.eqAgg
theorem ev136 (a : Args sg136.ks) : evS Tryz.prog G136 loopNil (0, 0) [] Tryz.f136 c136 (kOf sg136) (sg136.sk.fl (encP sg136.ks a)) = unc sg136.ks L.eqAgg a := by kernel_rfl
theorem good136 : Vm.Good Tryz.prog 136 E136 := good_gen (G := G136) (L := loopNil) (c := c136) (rn := []) (N := (0, 0)) (envCons_good good217 (envCons_good good31 envNil_good)) (no_loops (c := c136) (by kernel_rfl)) Tryz.func136 (by kernel_rfl) (by kernel_rfl) (fun _ => by kernel_rfl) ev136
noncomputable def G53 : Env := (envCons 136 [] E136 envNil)
noncomputable def c53 : Code := bodyOf Tryz.f53
noncomputable def L.eqCell (a1 a2 a3 a4 a5 a6 a7 a8 a9 a10 a11 a12 a13 a14 a15 a16 a17 a18 a19 a20 : Int) (a21 a22 : List Int) : Option Bool :=
(bif (a1 != a11) then
(some false)
else
(bif (a2 != a12) then
(some false)
else
(bif (a3 != a13) then
(some false)
else
(bif (a4 != a14) then
(some false)
else
(bif (a5 != a15) then
(some false)
else
(Option.bind (L.eqAgg a6 a7 a8 a9 a10 a16 a17 a18 a19 a20 a21 a22) fun r23 =>
(bif (!r23) then
(some false)
else
(some true))))))))
noncomputable def sg53 : Sg := ⟨⟨[.agg (ho 10 [.sl 0]), .agg (ho 10 [.sl 1])], [], [(3, (.int .i64), .ro), (3, (.int .i64), .ro)]⟩, (ki 7 ((.int .u64) :: (ki 9 ((.int .u64) :: (ki 2 [.row (.int .i64), .row (.int .i64)]))))), ⟨[hh], [], []⟩, [.bool]⟩
noncomputable def E53 : Fun2 := eOf sg53 L.eqCell
theorem ev53 (a : Args sg53.ks) : evS Tryz.prog G53 loopNil (0, 0) [] Tryz.f53 c53 (kOf sg53) (sg53.sk.fl (encP sg53.ks a)) = unc sg53.ks L.eqCell a := by kernel_rfl
theorem good53 : Vm.Good Tryz.prog 53 E53 := good_gen (G := G53) (L := loopNil) (c := c53) (rn := []) (N := (0, 0)) (envCons_good good136 envNil_good) (no_loops (c := c53) (by kernel_rfl)) Tryz.func53 (by kernel_rfl) (by kernel_rfl) (fun _ => by kernel_rfl) ev53
noncomputable def G13 : Env := (envCons 53 [] E53 envNil)
noncomputable def c13 : Code := bodyOf Tryz.f13
noncomputable def c13_4 : Code := (loopsOf c13).getD 0 .skip
noncomputable def L.eqCellS_l0 : Nat → (Bool → Option Bool) → (Option Bool) → Int → (List ty5) → (List ty5) → Option Bool
  | 0, _, _, _, _, _ => none
  | m + 1, e4_0, e4_1, a5, a6, a7 =>
    (bif (decide (a5 < (a6.length : Int))) then
    (bif decide ((0 : Int) ≤ a5 ∧ a5 < (a6.length : Int)) then
    (bif decide ((0 : Int) ≤ a5 ∧ a5 < (a7.length : Int)) then
    (Option.bind (L.eqCell ((nthI a6 a5 df3).1) ((nthI a6 a5 df3).2.1) ((nthI a6 a5 df3).2.2.1) ((nthI a6 a5 df3).2.2.2.1) ((nthI a6 a5 df3).2.2.2.2.1) ((nthI a6 a5 df3).2.2.2.2.2.1) ((nthI a6 a5 df3).2.2.2.2.2.2.1.1) ((nthI a6 a5 df3).2.2.2.2.2.2.1.2) ((nthI a6 a5 df3).2.2.2.2.2.2.2.1) ((nthI a6 a5 df3).2.2.2.2.2.2.2.2.1) ((nthI a7 a5 df3).1) ((nthI a7 a5 df3).2.1) ((nthI a7 a5 df3).2.2.1) ((nthI a7 a5 df3).2.2.2.1) ((nthI a7 a5 df3).2.2.2.2.1) ((nthI a7 a5 df3).2.2.2.2.2.1) ((nthI a7 a5 df3).2.2.2.2.2.2.1.1) ((nthI a7 a5 df3).2.2.2.2.2.2.1.2) ((nthI a7 a5 df3).2.2.2.2.2.2.2.1) ((nthI a7 a5 df3).2.2.2.2.2.2.2.2.1) ((nthI a6 a5 df3).2.2.2.2.2.2.2.2.2) ((nthI a7 a5 df3).2.2.2.2.2.2.2.2.2)) fun r10 =>
    (bif (!r10) then
    (e4_0 false)
    else
    (L.eqCellS_l0 m e4_0 e4_1 (IntKind.wrap .i64 (a5 + 1)) a6 a7)))
    else
    none)
    else
    none)
    else
    e4_1)
noncomputable def L.eqCellS (a1 a2 : List ty5) : Option Bool :=
(bif ((a1.length : Int) != (a2.length : Int)) then
(some false)
else
(L.eqCellS_l0 fu (fun y12 =>
(some y12)) (some true) 0 a1 a2))
noncomputable def H13_4 : LoopH := ⟨⟨((.one (.sl 0)) :: (.one (.sl 1)) :: (hu 3 (hh :: (hu 21 [])))), [], [(105, sh7, .ro), (105, sh7, .ro)]⟩, ([2, 3, 4] ++ rg 6 21), [], (rg 0 4 ++ rg 5 22), [], []⟩
noncomputable def k13_4 : List PK := [.int .i64, .row sh7, .row sh7]
noncomputable def W13_4 (m : Nat) (k : Kont Bool) : Cur k13_4 (Option Bool) := L.eqCellS_l0 m (exF k .ret ⟨(hu 4 (hh :: (hu 22 []))), [], []⟩ [.bool]) (exF k (.exit 0) ⟨(hu 27 []), [], []⟩ [])
noncomputable def E13_4 (m : Nat) : List Prm → Kont Bool → Option Bool := eL k13_4 (W13_4 m)
theorem ev13_4 (m : Nat) (k : Kont Bool) (a : Args k13_4) : evL Tryz.prog G13 loopNil c13_4 (turn Tryz.prog (0, 0) H13_4 (E13_4 m) k) (H13_4.sk.fl (encP k13_4 a)) = unc k13_4 (W13_4 (m + 1) k) a := by kernel_rfl
theorem ok13_4 (m : Nat) : LoopOk Tryz.prog (0, 0) c13_4 (enter Tryz.prog (0, 0) H13_4 (E13_4 m)) := loop_gen (Fl := W13_4) (G := G13) (L := loopNil) (envCons_good good53 envNil_good) (no_loops (c := c13_4) (by kernel_rfl)) (fun _ _ => by kernel_rfl) ev13_4 m
noncomputable def L13 : LEnv Bool := (loopCons 4 (enter Tryz.prog (0, 0) H13_4 (E13_4 fu)) loopNil)
theorem lq13 : loopsOf c13 = [c13_4] := by kernel_rfl
theorem fr13_4 : firstReg c13_4 = some 4 := by kernel_rfl
theorem le13_4 : L13 4 = enter Tryz.prog (0, 0) H13_4 (E13_4 fu) := by kernel_rfl
theorem lm13 : ∀ x ∈ [c13_4], ∀ id, firstReg x = some id → LoopOk Tryz.prog (0, 0) x (L13 id) := (loops_cons fr13_4 le13_4 (ok13_4 fu) loops_nil)
theorem lp13 : ∀ x ∈ loopsOf c13, ∀ id, firstReg x = some id → LoopOk Tryz.prog (0, 0) x (L13 id) := loops_eq lq13 lm13
noncomputable def sg13 : Sg := ⟨⟨[.one (.sl 0), .one (.sl 1)], [], [(105, sh7, .ro), (105, sh7, .ro)]⟩, [.row sh7, .row sh7], ⟨[hh], [], []⟩, [.bool]⟩
noncomputable def E13 : Fun2 := eOf sg13 L.eqCellS
theorem ev13 (a : Args sg13.ks) : evS Tryz.prog G13 L13 (0, 0) [] Tryz.f13 c13 (kOf sg13) (sg13.sk.fl (encP sg13.ks a)) = unc sg13.ks L.eqCellS a := by kernel_rfl
theorem good13 : Vm.Good Tryz.prog 13 E13 := good_gen (G := G13) (L := L13) (c := c13) (rn := []) (N := (0, 0)) (envCons_good good53 envNil_good) lp13 Tryz.func13 (by kernel_rfl) (by kernel_rfl) (fun _ => by kernel_rfl) ev13
noncomputable def G301 : Env := (envCons 31 [] E31 envNil)
noncomputable def c301 : Code := bodyOf Tryz.f301
noncomputable def L.eqPane (a1 a2 a3 a4 a5 a6 : Int) (a7 : Bool) (a8 a9 a10 a11 a12 a13 : Int) (a14 : Bool) (a15 a16 : List Int) : Option Bool :=
(bif (a1 != a8) then
(some false)
else
(bif (a2 != a9) then
(some false)
else
(bif (a3 != a10) then
(some false)
else
(bif (a4 != a11) then
(some false)
else
(bif (a5 != a12) then
(some false)
else
(bif (a6 != a13) then
(some false)
else
(Option.bind (L.eqIntS a15 a16) fun r17 =>
(bif (!r17) then
(some false)
else
(bif (!(a7 == a14)) then
(some false)
else
(some true))))))))))
noncomputable def sg301 : Sg := ⟨⟨[.agg (ho 6 [.sl 0, .hole]), .agg (ho 6 [.sl 1, .hole])], [], [(3, (.int .i64), .ro), (3, (.int .i64), .ro)]⟩, (ki 6 ((.bool) :: (ki 6 [.bool, .row (.int .i64), .row (.int .i64)]))), ⟨[hh], [], []⟩, [.bool]⟩
noncomputable def E301 : Fun2 := eOf sg301 L.eqPane
theorem ev301 (a : Args sg301.ks) : evS Tryz.prog G301 loopNil (0, 0) [] Tryz.f301 c301 (kOf sg301) (sg301.sk.fl (encP sg301.ks a)) = unc sg301.ks L.eqPane a := by kernel_rfl
theorem good301 : Vm.Good Tryz.prog 301 E301 := good_gen (G := G301) (L := loopNil) (c := c301) (rn := []) (N := (0, 0)) (envCons_good good31 envNil_good) (no_loops (c := c301) (by kernel_rfl)) Tryz.func301 (by kernel_rfl) (by kernel_rfl) (fun _ => by kernel_rfl) ev301
noncomputable def G273 : Env := (envCons 301 [] E301 envNil)
noncomputable def c273 : Code := bodyOf Tryz.f273
noncomputable def L.eqItem (a1 a2 a3 a4 a5 a6 a7 a8 : Int) (a9 : Bool) (a10 a11 a12 a13 a14 a15 a16 a17 : Int) (a18 : Bool) (a19 a20 : List Int) : Option Bool :=
(bif (a1 != a10) then
(some false)
else
(bif (a2 != a11) then
(some false)
else
(Option.bind (L.eqPane a3 a4 a5 a6 a7 a8 a9 a12 a13 a14 a15 a16 a17 a18 a19 a20) fun r21 =>
(bif (!r21) then
(some false)
else
(some true)))))
noncomputable def sg273 : Sg := ⟨⟨[.agg (ho 8 [.sl 0, .hole]), .agg (ho 8 [.sl 1, .hole])], [], [(3, (.int .i64), .ro), (3, (.int .i64), .ro)]⟩, (ki 8 ((.bool) :: (ki 8 [.bool, .row (.int .i64), .row (.int .i64)]))), ⟨[hh], [], []⟩, [.bool]⟩
noncomputable def E273 : Fun2 := eOf sg273 L.eqItem
theorem ev273 (a : Args sg273.ks) : evS Tryz.prog G273 loopNil (0, 0) [] Tryz.f273 c273 (kOf sg273) (sg273.sk.fl (encP sg273.ks a)) = unc sg273.ks L.eqItem a := by kernel_rfl
theorem good273 : Vm.Good Tryz.prog 273 E273 := good_gen (G := G273) (L := loopNil) (c := c273) (rn := []) (N := (0, 0)) (envCons_good good301 envNil_good) (no_loops (c := c273) (by kernel_rfl)) Tryz.func273 (by kernel_rfl) (by kernel_rfl) (fun _ => by kernel_rfl) ev273
noncomputable def G232 : Env := (envCons 273 [] E273 envNil)
noncomputable def c232 : Code := bodyOf Tryz.f232
noncomputable def c232_4 : Code := (loopsOf c232).getD 0 .skip
noncomputable def L.eqItemS_l0 : Nat → (Bool → Option Bool) → (Option Bool) → Int → (List ty7) → (List ty7) → Option Bool
  | 0, _, _, _, _, _ => none
  | m + 1, e4_0, e4_1, a5, a6, a7 =>
    (bif (decide (a5 < (a6.length : Int))) then
    (bif decide ((0 : Int) ≤ a5 ∧ a5 < (a6.length : Int)) then
    (bif decide ((0 : Int) ≤ a5 ∧ a5 < (a7.length : Int)) then
    (Option.bind (L.eqItem ((nthI a6 a5 df4).1) ((nthI a6 a5 df4).2.1) ((nthI a6 a5 df4).2.2.1) ((nthI a6 a5 df4).2.2.2.1) ((nthI a6 a5 df4).2.2.2.2.1) ((nthI a6 a5 df4).2.2.2.2.2.1) ((nthI a6 a5 df4).2.2.2.2.2.2.1) ((nthI a6 a5 df4).2.2.2.2.2.2.2.1) ((nthI a6 a5 df4).2.2.2.2.2.2.2.2.2) ((nthI a7 a5 df4).1) ((nthI a7 a5 df4).2.1) ((nthI a7 a5 df4).2.2.1) ((nthI a7 a5 df4).2.2.2.1) ((nthI a7 a5 df4).2.2.2.2.1) ((nthI a7 a5 df4).2.2.2.2.2.1) ((nthI a7 a5 df4).2.2.2.2.2.2.1) ((nthI a7 a5 df4).2.2.2.2.2.2.2.1) ((nthI a7 a5 df4).2.2.2.2.2.2.2.2.2) ((nthI a6 a5 df4).2.2.2.2.2.2.2.2.1) ((nthI a7 a5 df4).2.2.2.2.2.2.2.2.1)) fun r10 =>
    (bif (!r10) then
    (e4_0 false)
    else
    (L.eqItemS_l0 m e4_0 e4_1 (IntKind.wrap .i64 (a5 + 1)) a6 a7)))
    else
    none)
    else
    none)
    else
    e4_1)
noncomputable def L.eqItemS (a1 a2 : List ty7) : Option Bool :=
(bif ((a1.length : Int) != (a2.length : Int)) then
(some false)
else
(L.eqItemS_l0 fu (fun y12 =>
(some y12)) (some true) 0 a1 a2))
noncomputable def H232_4 : LoopH := ⟨⟨((.one (.sl 0)) :: (.one (.sl 1)) :: (hu 3 (hh :: (hu 21 [])))), [], [(230, sh8, .ro), (230, sh8, .ro)]⟩, ([2, 3, 4] ++ rg 6 21), [], (rg 0 4 ++ rg 5 22), [], []⟩
noncomputable def k232_4 : List PK := [.int .i64, .row sh8, .row sh8]
noncomputable def W232_4 (m : Nat) (k : Kont Bool) : Cur k232_4 (Option Bool) := L.eqItemS_l0 m (exF k .ret ⟨(hu 4 (hh :: (hu 22 []))), [], []⟩ [.bool]) (exF k (.exit 0) ⟨(hu 27 []), [], []⟩ [])
noncomputable def E232_4 (m : Nat) : List Prm → Kont Bool → Option Bool := eL k232_4 (W232_4 m)
theorem ev232_4 (m : Nat) (k : Kont Bool) (a : Args k232_4) : evL Tryz.prog G232 loopNil c232_4 (turn Tryz.prog (0, 0) H232_4 (E232_4 m) k) (H232_4.sk.fl (encP k232_4 a)) = unc k232_4 (W232_4 (m + 1) k) a := by kernel_rfl
theorem ok232_4 (m : Nat) : LoopOk Tryz.prog (0, 0) c232_4 (enter Tryz.prog (0, 0) H232_4 (E232_4 m)) := loop_gen (Fl := W232_4) (G := G232) (L := loopNil) (envCons_good good273 envNil_good) (no_loops (c := c232_4) (by kernel_rfl)) (fun _ _ => by kernel_rfl) ev232_4 m
noncomputable def L232 : LEnv Bool := (loopCons 4 (enter Tryz.prog (0, 0) H232_4 (E232_4 fu)) loopNil)
theorem lq232 : loopsOf c232 = [c232_4] := by kernel_rfl
theorem fr232_4 : firstReg c232_4 = some 4 := by kernel_rfl
theorem le232_4 : L232 4 = enter Tryz.prog (0, 0) H232_4 (E232_4 fu) := by kernel_rfl
theorem lm232 : ∀ x ∈ [c232_4], ∀ id, firstReg x = some id → LoopOk Tryz.prog (0, 0) x (L232 id) := (loops_cons fr232_4 le232_4 (ok232_4 fu) loops_nil)
theorem lp232 : ∀ x ∈ loopsOf c232, ∀ id, firstReg x = some id → LoopOk Tryz.prog (0, 0) x (L232 id) := loops_eq lq232 lm232
noncomputable def sg232 : Sg := ⟨⟨[.one (.sl 0), .one (.sl 1)], [], [(230, sh8, .ro), (230, sh8, .ro)]⟩, [.row sh8, .row sh8], ⟨[hh], [], []⟩, [.bool]⟩
noncomputable def E232 : Fun2 := eOf sg232 L.eqItemS
theorem ev232 (a : Args sg232.ks) : evS Tryz.prog G232 L232 (0, 0) [] Tryz.f232 c232 (kOf sg232) (sg232.sk.fl (encP sg232.ks a)) = unc sg232.ks L.eqItemS a := by kernel_rfl
theorem good232 : Vm.Good Tryz.prog 232 E232 := good_gen (G := G232) (L := L232) (c := c232) (rn := []) (N := (0, 0)) (envCons_good good273 envNil_good) lp232 Tryz.func232 (by kernel_rfl) (by kernel_rfl) (fun _ => by kernel_rfl) ev232
noncomputable def G274 : Env := envNil
noncomputable def c274 : Code := bodyOf Tryz.f274
noncomputable def L.eqRec (a1 a2 a3 a4 a5 a6 : Int) : Option Bool :=
(bif (a1 != a4) then
(some false)
else
(bif (a2 != a5) then
(some false)
else
(bif (a3 != a6) then
(some false)
else
(some true))))
noncomputable def sg274 : Sg := ⟨⟨[.agg (ho 3 []), .agg (ho 3 [])], [], []⟩, (ki 6 []), ⟨[hh], [], []⟩, [.bool]⟩
noncomputable def E274 : Fun2 := eOf sg274 L.eqRec
theorem ev274 (a : Args sg274.ks) : evS Tryz.prog G274 loopNil (0, 0) [] Tryz.f274 c274 (kOf sg274) (sg274.sk.fl (encP sg274.ks a)) = unc sg274.ks L.eqRec a := by kernel_rfl
theorem good274 : Vm.Good Tryz.prog 274 E274 := good_gen (G := G274) (L := loopNil) (c := c274) (rn := []) (N := (0, 0)) envNil_good (no_loops (c := c274) (by kernel_rfl)) Tryz.func274 (by kernel_rfl) (by kernel_rfl) (fun _ => by kernel_rfl) ev274
noncomputable def G233 : Env := (envCons 274 [] E274 envNil)
noncomputable def c233 : Code := bodyOf Tryz.f233
noncomputable def c233_4 : Code := (loopsOf c233).getD 0 .skip
noncomputable def L.eqRecS_l0 : Nat → (Bool → Option Bool) → (Option Bool) → Int → (List (Int × Int × Int)) → (List (Int × Int × Int)) → Option Bool
  | 0, _, _, _, _, _ => none
  | m + 1, e4_0, e4_1, a5, a6, a7 =>
    (bif (decide (a5 < (a6.length : Int))) then
    (bif decide ((0 : Int) ≤ a5 ∧ a5 < (a6.length : Int)) then
    (bif decide ((0 : Int) ≤ a5 ∧ a5 < (a7.length : Int)) then
    (Option.bind (L.eqRec ((nthI a6 a5 df1).1) ((nthI a6 a5 df1).2.1) ((nthI a6 a5 df1).2.2) ((nthI a7 a5 df1).1) ((nthI a7 a5 df1).2.1) ((nthI a7 a5 df1).2.2)) fun r10 =>
    (bif (!r10) then
    (e4_0 false)
    else
    (L.eqRecS_l0 m e4_0 e4_1 (IntKind.wrap .i64 (a5 + 1)) a6 a7)))
    else
    none)
    else
    none)
    else
    e4_1)
noncomputable def L.eqRecS (a1 a2 : List (Int × Int × Int)) : Option Bool :=
(bif ((a1.length : Int) != (a2.length : Int)) then
(some false)
else
(L.eqRecS_l0 fu (fun y12 =>
(some y12)) (some true) 0 a1 a2))
noncomputable def H233_4 : LoopH := ⟨⟨((.one (.sl 0)) :: (.one (.sl 1)) :: (hu 3 (hh :: (hu 21 [])))), [], [(233, sh3, .ro), (233, sh3, .ro)]⟩, ([2, 3, 4] ++ rg 6 21), [], (rg 0 4 ++ rg 5 22), [], []⟩
noncomputable def k233_4 : List PK := [.int .i64, .row sh3, .row sh3]
noncomputable def W233_4 (m : Nat) (k : Kont Bool) : Cur k233_4 (Option Bool) := L.eqRecS_l0 m (exF k .ret ⟨(hu 4 (hh :: (hu 22 []))), [], []⟩ [.bool]) (exF k (.exit 0) ⟨(hu 27 []), [], []⟩ [])
noncomputable def E233_4 (m : Nat) : List Prm → Kont Bool → Option Bool := eL k233_4 (W233_4 m)
theorem ev233_4 (m : Nat) (k : Kont Bool) (a : Args k233_4) : evL Tryz.prog G233 loopNil c233_4 (turn Tryz.prog (0, 0) H233_4 (E233_4 m) k) (H233_4.sk.fl (encP k233_4 a)) = unc k233_4 (W233_4 (m + 1) k) a := by kernel_rfl
theorem ok233_4 (m : Nat) : LoopOk Tryz.prog (0, 0) c233_4 (enter Tryz.prog (0, 0) H233_4 (E233_4 m)) := loop_gen (Fl := W233_4) (G := G233) (L := loopNil) (envCons_good good274 envNil_good) (no_loops (c := c233_4) (by kernel_rfl)) (fun _ _ => by kernel_rfl) ev233_4 m
noncomputable def L233 : LEnv Bool := (loopCons 4 (enter Tryz.prog (0, 0) H233_4 (E233_4 fu)) loopNil)
theorem lq233 : loopsOf c233 = [c233_4] := by kernel_rfl
theorem fr233_4 : firstReg c233_4 = some 4 := by kernel_rfl
theorem le233_4 : L233 4 = enter Tryz.prog (0, 0) H233_4 (E233_4 fu) := by kernel_rfl
theorem lm233 : ∀ x ∈ [c233_4], ∀ id, firstReg x = some id → LoopOk Tryz.prog (0, 0) x (L233 id) := (loops_cons fr233_4 le233_4 (ok233_4 fu) loops_nil)
theorem lp233 : ∀ x ∈ loopsOf c233, ∀ id, firstReg x = some id → LoopOk Tryz.prog (0, 0) x (L233 id) := loops_eq lq233 lm233
noncomputable def sg233 : Sg := ⟨⟨[.one (.sl 0), .one (.sl 1)], [], [(233, sh3, .ro), (233, sh3, .ro)]⟩, [.row sh3, .row sh3], ⟨[hh], [], []⟩, [.bool]⟩
noncomputable def E233 : Fun2 := eOf sg233 L.eqRecS
theorem ev233 (a : Args sg233.ks) : evS Tryz.prog G233 L233 (0, 0) [] Tryz.f233 c233 (kOf sg233) (sg233.sk.fl (encP sg233.ks a)) = unc sg233.ks L.eqRecS a := by kernel_rfl
theorem good233 : Vm.Good Tryz.prog 233 E233 := good_gen (G := G233) (L := L233) (c := c233) (rn := []) (N := (0, 0)) (envCons_good good274 envNil_good) lp233 Tryz.func233 (by kernel_rfl) (by kernel_rfl) (fun _ => by kernel_rfl) ev233
noncomputable def G152 : Env := (envCons 232 [] E232 (envCons 233 [] E233 envNil))
noncomputable def c152 : Code := bodyOf Tryz.f152
noncomputable def L.eqBox (a1 a2 a3 a4 a5 a6 a7 a8 : Int) (a9 : List ty7) (a10 : List (Int × Int × Int)) (a11 : List ty7) (a12 : List (Int × Int × Int)) : Option Bool :=
(bif (a1 != a5) then
(some false)
else
(bif (a2 != a6) then
(some false)
else
(bif (a3 != a7) then
(some false)
else
(bif (a4 != a8) then
(some false)
else
(Option.bind (L.eqItemS a9 a11) fun r13 =>
(bif (!r13) then
(some false)
else
(Option.bind (L.eqRecS a10 a12) fun r14 =>
(bif (!r14) then
(some false)
else
(some true)))))))))
noncomputable def sg152 : Sg := ⟨⟨[.agg (ho 4 [.sl 0, .sl 1]), .agg (ho 4 [.sl 2, .sl 3])], [], [(230, sh8, .ro), (233, sh3, .ro), (230, sh8, .ro), (233, sh3, .ro)]⟩, (ki 8 [.row sh8, .row sh3, .row sh8, .row sh3]), ⟨[hh], [], []⟩, [.bool]⟩
noncomputable def E152 : Fun2 := eOf sg152 L.eqBox
theorem ev152 (a : Args sg152.ks) : evS Tryz.prog G152 loopNil (0, 0) [] Tryz.f152 c152 (kOf sg152) (sg152.sk.fl (encP sg152.ks a)) = unc sg152.ks L.eqBox a := by kernel_rfl
theorem good152 : Vm.Good Tryz.prog 152 E152 := good_gen (G := G152) (L := loopNil) (c := c152) (rn := []) (N := (0, 0)) (envCons_good good232 (envCons_good good233 envNil_good)) (no_loops (c := c152) (by kernel_rfl)) Tryz.func152 (by kernel_rfl) (by kernel_rfl) (fun _ => by kernel_rfl) ev152
noncomputable def G69 : Env := (envCons 152 [] E152 envNil)
noncomputable def c69 : Code := bodyOf Tryz.f69
noncomputable def c69_4 : Code := (loopsOf c69).getD 0 .skip
noncomputable def L.eqBoxS_l0 : Nat → (Bool → Option Bool) → (Option Bool) → Int → (List ty3) → (List ty3) → Option Bool
  | 0, _, _, _, _, _ => none
  | m + 1, e4_0, e4_1, a5, a6, a7 =>
    (bif (decide (a5 < (a6.length : Int))) then
    (bif decide ((0 : Int) ≤ a5 ∧ a5 < (a6.length : Int)) then
    (bif decide ((0 : Int) ≤ a5 ∧ a5 < (a7.length : Int)) then
    (Option.bind (L.eqBox ((nthI a6 a5 df5).1) ((nthI a6 a5 df5).2.1) ((nthI a6 a5 df5).2.2.1) ((nthI a6 a5 df5).2.2.2.1) ((nthI a7 a5 df5).1) ((nthI a7 a5 df5).2.1) ((nthI a7 a5 df5).2.2.1) ((nthI a7 a5 df5).2.2.2.1) ((nthI a6 a5 df5).2.2.2.2.1) ((nthI a6 a5 df5).2.2.2.2.2) ((nthI a7 a5 df5).2.2.2.2.1) ((nthI a7 a5 df5).2.2.2.2.2)) fun r10 =>
    (bif (!r10) then
    (e4_0 false)
    else
    (L.eqBoxS_l0 m e4_0 e4_1 (IntKind.wrap .i64 (a5 + 1)) a6 a7)))
    else
    none)
    else
    none)
    else
    e4_1)
noncomputable def L.eqBoxS (a1 a2 : List ty3) : Option Bool :=
(bif ((a1.length : Int) != (a2.length : Int)) then
(some false)
else
(L.eqBoxS_l0 fu (fun y12 =>
(some y12)) (some true) 0 a1 a2))
noncomputable def H69_4 : LoopH := ⟨⟨((.one (.sl 0)) :: (.one (.sl 1)) :: (hu 3 (hh :: (hu 21 [])))), [], [(122, sh11, .ro), (122, sh11, .ro)]⟩, ([2, 3, 4] ++ rg 6 21), [], (rg 0 4 ++ rg 5 22), [], []⟩
noncomputable def k69_4 : List PK := [.int .i64, .row sh11, .row sh11]
noncomputable def W69_4 (m : Nat) (k : Kont Bool) : Cur k69_4 (Option Bool) := L.eqBoxS_l0 m (exF k .ret ⟨(hu 4 (hh :: (hu 22 []))), [], []⟩ [.bool]) (exF k (.exit 0) ⟨(hu 27 []), [], []⟩ [])
noncomputable def E69_4 (m : Nat) : List Prm → Kont Bool → Option Bool := eL k69_4 (W69_4 m)
theorem ev69_4 (m : Nat) (k : Kont Bool) (a : Args k69_4) : evL Tryz.prog G69 loopNil c69_4 (turn Tryz.prog (0, 0) H69_4 (E69_4 m) k) (H69_4.sk.fl (encP k69_4 a)) = unc k69_4 (W69_4 (m + 1) k) a := by kernel_rfl
theorem ok69_4 (m : Nat) : LoopOk Tryz.prog (0, 0) c69_4 (enter Tryz.prog (0, 0) H69_4 (E69_4 m)) := loop_gen (Fl := W69_4) (G := G69) (L := loopNil) (envCons_good good152 envNil_good) (no_loops (c := c69_4) (by kernel_rfl)) (fun _ _ => by kernel_rfl) ev69_4 m
noncomputable def L69 : LEnv Bool := (loopCons 4 (enter Tryz.prog (0, 0) H69_4 (E69_4 fu)) loopNil)
theorem lq69 : loopsOf c69 = [c69_4] := by kernel_rfl
theorem fr69_4 : firstReg c69_4 = some 4 := by kernel_rfl
theorem le69_4 : L69 4 = enter Tryz.prog (0, 0) H69_4 (E69_4 fu) := by kernel_rfl
theorem lm69 : ∀ x ∈ [c69_4], ∀ id, firstReg x = some id → LoopOk Tryz.prog (0, 0) x (L69 id) := (loops_cons fr69_4 le69_4 (ok69_4 fu) loops_nil)
theorem lp69 : ∀ x ∈ loopsOf c69, ∀ id, firstReg x = some id → LoopOk Tryz.prog (0, 0) x (L69 id) := loops_eq lq69 lm69
noncomputable def sg69 : Sg := ⟨⟨[.one (.sl 0), .one (.sl 1)], [], [(122, sh11, .ro), (122, sh11, .ro)]⟩, [.row sh11, .row sh11], ⟨[hh], [], []⟩, [.bool]⟩
noncomputable def E69 : Fun2 := eOf sg69 L.eqBoxS
theorem ev69 (a : Args sg69.ks) : evS Tryz.prog G69 L69 (0, 0) [] Tryz.f69 c69 (kOf sg69) (sg69.sk.fl (encP sg69.ks a)) = unc sg69.ks L.eqBoxS a := by kernel_rfl
theorem good69 : Vm.Good Tryz.prog 69 E69 := good_gen (G := G69) (L := L69) (c := c69) (rn := []) (N := (0, 0)) (envCons_good good152 envNil_good) lp69 Tryz.func69 (by kernel_rfl) (by kernel_rfl) (fun _ => by kernel_rfl) ev69
noncomputable def G20 : Env := (envCons 21 [] E21 (envCons 67 [] E67 (envCons 68 [] E68 (envCons 13 [] E13 (envCons 31 [] E31 (envCons 69 [] E69 envNil))))))
noncomputable def c20 : Code := bodyOf Tryz.f20
noncomputable def L.eqEng (a1 a2 a3 a4 a5 a6 a7 a8 : Int) (a9 : List Int) (a10 : List ty6) (a11 : List (Int × Int × Int)) (a12 : List ty10) (a13 : List (Int × Int × Int × Int)) (a14 : List (Int × Bool)) (a15 : List ty5) (a16 a17 : List Int) (a18 : List ty3) (a19 : List Int) (a20 : List ty6) (a21 : List (Int × Int × Int)) (a22 : List ty10) (a23 : List (Int × Int × Int × Int)) (a24 : List (Int × Bool)) (a25 : List ty5) (a26 a27 : List Int) (a28 : List ty3) : Option Bool :=
(Option.bind (L.eqConf a1 a2 a3 a5 a6 a7 a9 a10 a11 a12 a19 a20 a21 a22) fun r29 =>
(bif (!r29) then
(some false)
else
(Option.bind (L.eqPunctS a13 a23) fun r30 =>
(bif (!r30) then
(some false)
else
(Option.bind (L.eqMarks a4 a8 a14 a24) fun r31 =>
(bif (!r31) then
(some false)
else
(Option.bind (L.eqCellS a15 a25) fun r32 =>
(bif (!r32) then
(some false)
else
(Option.bind (L.eqIntS a16 a26) fun r33 =>
(bif (!r33) then
(some false)
else
(Option.bind (L.eqIntS a17 a27) fun r34 =>
(bif (!r34) then
(some false)
else
(Option.bind (L.eqBoxS a18 a28) fun r35 =>
(bif (!r35) then
(some false)
else
(some true)))))))))))))))
noncomputable def sg20 : Sg := ⟨⟨[.agg ((.hole) :: (.sl 0) :: (ho 2 [.sl 1, .sl 2, .sl 3, .sl 4, .hole, .sl 5, .sl 6, .sl 7, .sl 8, .sl 9])), .agg ((.hole) :: (.sl 10) :: (ho 2 [.sl 11, .sl 12, .sl 13, .sl 14, .hole, .sl 15, .sl 16, .sl 17, .sl 18, .sl 19]))], [], [(87, (.int .u64), .ro), (190, sh10, .ro), (126, sh3, .ro), (159, sh4, .ro), (156, sh5, .ro), (225, sh6, .ro), (105, sh7, .ro), (3, (.int .i64), .ro), (3, (.int .i64), .ro), (122, sh11, .ro), (87, (.int .u64), .ro), (190, sh10, .ro), (126, sh3, .ro), (159, sh4, .ro), (156, sh5, .ro), (225, sh6, .ro), (105, sh7, .ro), (3, (.int .i64), .ro), (3, (.int .i64), .ro), (122, sh11, .ro)]⟩, (ki 8 [.row (.int .u64), .row sh10, .row sh3, .row sh4, .row sh5, .row sh6, .row sh7, .row (.int .i64), .row (.int .i64), .row sh11, .row (.int .u64), .row sh10, .row sh3, .row sh4, .row sh5, .row sh6, .row sh7, .row (.int .i64), .row (.int .i64), .row sh11]), ⟨[hh], [], []⟩, [.bool]⟩
noncomputable def E20 : Fun2 := eOf sg20 L.eqEng
theorem ev20 (a : Args sg20.ks) : evS Tryz.prog G20 loopNil (0, 0) [] Tryz.f20 c20 (kOf sg20) (sg20.sk.fl (encP sg20.ks a)) = unc sg20.ks L.eqEng a := by kernel_rfl
theorem good20 : Vm.Good Tryz.prog 20 E20 := good_gen (G := G20) (L := loopNil) (c := c20) (rn := []) (N := (0, 0)) (envCons_good good21 (envCons_good good67 (envCons_good good68 (envCons_good good13 (envCons_good good31 (envCons_good good69 envNil_good)))))) (no_loops (c := c20) (by kernel_rfl)) Tryz.func20 (by kernel_rfl) (by kernel_rfl) (fun _ => by kernel_rfl) ev20
noncomputable def G6 : Env := (envCons 34 [] E34 (envCons 36 [] E36 (envCons 35 [] E35 (envCons 37 [] E37 (envCons 20 [] E20 envNil)))))
noncomputable def c6 : Code := bodyOf Tryz.f6
noncomputable def L.FnExactEngOk (a1 a2 a3 a4 : Int) (a5 : List Int) (a6 : List ty6) (a7 : List (Int × Int × Int)) (a8 : List ty10) (a9 : List (Int × Int × Int × Int)) (a10 : List (Int × Bool)) (a11 : List ty5) (a12 a13 : List Int) (a14 : List ty3) : Option Bool :=
(Option.bind (L.szEng a1 a2 a3 a4 1048576 a5 a6 a7 a8 a9 a10 a11 a12 a13 a14) fun r15 =>
(bif (decide (r15 < 0)) then
(some true)
else
(Option.bind (L.toEng a1 a2 a3 a4 a5 a6 a7 a8 a9 a10 a11 a12 a13 a14) fun r17 =>
(Option.bind (S.EngOk r17.1 r17.2.1 r17.2.2.1 r17.2.2.2.1 r17.2.2.2.2.1 r17.2.2.2.2.2.1 r17.2.2.2.2.2.2.1 r17.2.2.2.2.2.2.2.1 r17.2.2.2.2.2.2.2.2.1 r17.2.2.2.2.2.2.2.2.2.1 r17.2.2.2.2.2.2.2.2.2.2.1 r17.2.2.2.2.2.2.2.2.2.2.2.1 r17.2.2.2.2.2.2.2.2.2.2.2.2.1 r17.2.2.2.2.2.2.2.2.2.2.2.2.2) fun r18 =>
(Option.bind (L.toEng a1 a2 a3 a4 a5 a6 a7 a8 a9 a10 a11 a12 a13 a14) fun r19 =>
(Option.bind (I.EngOk r19.1 r19.2.1 r19.2.2.1 r19.2.2.2.1 r19.2.2.2.2.1 r19.2.2.2.2.2.1 r19.2.2.2.2.2.2.1 r19.2.2.2.2.2.2.2.1 r19.2.2.2.2.2.2.2.2.1 r19.2.2.2.2.2.2.2.2.2.1 r19.2.2.2.2.2.2.2.2.2.2.1 r19.2.2.2.2.2.2.2.2.2.2.2.1 r19.2.2.2.2.2.2.2.2.2.2.2.2.1 r19.2.2.2.2.2.2.2.2.2.2.2.2.2) fun r20 =>
(bif (!(r20 == r18)) then
(some false)
else
(Option.bind (L.toEng a1 a2 a3 a4 a5 a6 a7 a8 a9 a10 a11 a12 a13 a14) fun r22 =>
(Option.bind (L.eqEng r19.1 r19.2.1 r19.2.2.1 r19.2.2.2.1 r22.1 r22.2.1 r22.2.2.1 r22.2.2.2.1 r19.2.2.2.2.1 r19.2.2.2.2.2.1 r19.2.2.2.2.2.2.1 r19.2.2.2.2.2.2.2.1 r19.2.2.2.2.2.2.2.2.1 r19.2.2.2.2.2.2.2.2.2.1 r19.2.2.2.2.2.2.2.2.2.2.1 r19.2.2.2.2.2.2.2.2.2.2.2.1 r19.2.2.2.2.2.2.2.2.2.2.2.2.1 r19.2.2.2.2.2.2.2.2.2.2.2.2.2 r22.2.2.2.2.1 r22.2.2.2.2.2.1 r22.2.2.2.2.2.2.1 r22.2.2.2.2.2.2.2.1 r22.2.2.2.2.2.2.2.2.1 r22.2.2.2.2.2.2.2.2.2.1 r22.2.2.2.2.2.2.2.2.2.2.1 r22.2.2.2.2.2.2.2.2.2.2.2.1 r22.2.2.2.2.2.2.2.2.2.2.2.2.1 r22.2.2.2.2.2.2.2.2.2.2.2.2.2) fun r23 =>
(bif (!r23) then
(some false)
else
(some true)))))))))))
noncomputable def sg6 : Sg := ⟨⟨[.agg ((.hole) :: (.sl 0) :: (ho 2 [.sl 1, .sl 2, .sl 3, .sl 4, .hole, .sl 5, .sl 6, .sl 7, .sl 8, .sl 9]))], [], [(87, (.int .u64), .ro), (185, sh2, .ro), (194, sh3, .ro), (196, sh4, .ro), (235, sh5, .ro), (272, sh6, .ro), (93, sh7, .ro), (3, (.int .i64), .ro), (3, (.int .i64), .ro), (222, sh9, .ro)]⟩, (ki 4 [.row (.int .u64), .row sh2, .row sh3, .row sh4, .row sh5, .row sh6, .row sh7, .row (.int .i64), .row (.int .i64), .row sh9]), ⟨[hh], [], []⟩, [.bool]⟩
noncomputable def E6 : Fun2 := eOf sg6 L.FnExactEngOk
theorem ev6 (a : Args sg6.ks) : evS Tryz.prog G6 loopNil (0, 0) [] Tryz.f6 c6 (kOf sg6) (sg6.sk.fl (encP sg6.ks a)) = unc sg6.ks L.FnExactEngOk a := by kernel_rfl
theorem good6 : Vm.Good Tryz.prog 6 E6 := good_gen (G := G6) (L := loopNil) (c := c6) (rn := []) (N := (0, 0)) (envCons_good good34 (envCons_good good36 (envCons_good good35 (envCons_good good37 (envCons_good good20 envNil_good))))) (no_loops (c := c6) (by kernel_rfl)) Tryz.func6 (by kernel_rfl) (by kernel_rfl) (fun _ => by kernel_rfl) ev6
end Go.Proofs.YtidojhgkpgomcaaGreat.Run
