import Derived.Test.YthddkomphkanbaaVmU
import Derived.Test.YthddkomphkanbaaProg
namespace Go.Proofs.Ythddkomphkanbaa.Run
open Go Go.RowKit Go.Proofs.YthddkomphkanbaaW.PrintWords Go.Proofs.Ythddkomphkanbaa.Vm
set_option linter.unusedVariables false
set_option maxRecDepth 100000

/-! ### L.szIntS -/
noncomputable def G114 : Env := envNil
noncomputable def c114 : Code := bodyOf Try.f114
noncomputable def L.szIntS (a1 : Int) (a2 : List Int) : Option Int :=
(let v4 : Int := (IntKind.wrap .i64 (a1 - (a2.length : Int)))
(bif (decide (v4 < 0)) then
(some (-1))
else
(some v4)))
noncomputable def R114 (x : Int) : Res := ⟨[.one (ai x)], [], []⟩
noncomputable def K114 (r : Res) : Option Int :=
  match r with
  | ⟨[.one (.val (.int .i64 v1))], [], []⟩ => some (v1)
  | _ => none
noncomputable def E114 : Fun2 := fun args bs rs =>
  match args, bs, rs with
  | [.s1 (.one (.sl 0)), .s1 (.one (.val (.int .i64 a1)))], [], [⟨3, (.int .i64), a2, .ro⟩] => some ⟨Int, L.szIntS a1 a2, R114⟩
  | _, _, _ => none
theorem ev114 (a1 : Int) (a2 : List Int) : evF Try.prog G114 loopNil (0, 0) [] Try.f114 c114 [vl 0, vi a1] [] [⟨3, (.int .i64), a2, .ro⟩] K114 = L.szIntS a1 a2 := by kernel_rfl
theorem good114 : Vm.Good Try.prog 114 E114 := by
  refine evF_good (G := G114) (c := c114) envNil_good Try.func114 (by kernel_rfl) (by kernel_rfl) (0, 0) (fun args bs rs out t h h2 => ?_)
  unfold E114 at h
  split at h
  · injection h with h
    subst h
    exact ⟨rfl, [], loopNil, K114, (by intro x hx; simp [show loopsOf c114 = [] from by kernel_rfl] at hx), (fun r t h => by unfold K114 at h; split at h; (injection h with h; subst h; rfl); cases h), (ev114 _ _).trans h2⟩
  · cases h
/-! ### L.szAgg -/
noncomputable def G76 : Env := (envCons 114 [] E114 envNil)
noncomputable def c76 : Code := bodyOf Try.f76
noncomputable def L.szAgg (a1 a2 a3 a4 a5 a6 : Int) (a7 : List Int) : Option Int :=
(Option.bind (L.szIntS a6 a7) fun r8 =>
(bif (decide (r8 < 0)) then
(some (-1))
else
(some r8)))
noncomputable def R76 (x : Int) : Res := ⟨[.one (ai x)], [], []⟩
noncomputable def K76 (r : Res) : Option Int :=
  match r with
  | ⟨[.one (.val (.int .i64 v1))], [], []⟩ => some (v1)
  | _ => none
noncomputable def E76 : Fun2 := fun args bs rs =>
  match args, bs, rs with
  | [.s1 (.agg [.val (.int .i64 a1), .val (.int .i64 a2), .val (.int .u64 a3), .val (.int .i64 a4), .val (.int .i64 a5), .sl 0]), .s1 (.one (.val (.int .i64 a6)))], [], [⟨3, (.int .i64), a7, .ro⟩] => some ⟨Int, L.szAgg a1 a2 a3 a4 a5 a6 a7, R76⟩
  | _, _, _ => none
theorem ev76 (a1 a2 a3 a4 a5 a6 : Int) (a7 : List Int) : evF Try.prog G76 loopNil (0, 0) [] Try.f76 c76 [.s1 (.agg [ai a1, ai a2, ak .u64 a3, ai a4, ai a5, .sl 0]), vi a6] [] [⟨3, (.int .i64), a7, .ro⟩] K76 = L.szAgg a1 a2 a3 a4 a5 a6 a7 := by kernel_rfl
theorem good76 : Vm.Good Try.prog 76 E76 := by
  refine evF_good (G := G76) (c := c76) (envCons_good good114 envNil_good) Try.func76 (by kernel_rfl) (by kernel_rfl) (0, 0) (fun args bs rs out t h h2 => ?_)
  unfold E76 at h
  split at h
  · injection h with h
    subst h
    exact ⟨rfl, [], loopNil, K76, (by intro x hx; simp [show loopsOf c76 = [] from by kernel_rfl] at hx), (fun r t h => by unfold K76 at h; split at h; (injection h with h; subst h; rfl); cases h), (ev76 _ _ _ _ _ _ _).trans h2⟩
  · cases h
/-! ### L.szCell -/
noncomputable def G121 : Env := (envCons 76 [] E76 envNil)
noncomputable def c121 : Code := bodyOf Try.f121
noncomputable def L.szCell (a1 a2 a3 a4 a5 a6 a7 a8 a9 a10 a11 : Int) (a12 : List Int) : Option Int :=
(Option.bind (L.szAgg a6 a7 a8 a9 a10 a11 a12) fun r13 =>
(bif (decide (r13 < 0)) then
(some (-1))
else
(some r13)))
noncomputable def R121 (x : Int) : Res := ⟨[.one (ai x)], [], []⟩
noncomputable def K121 (r : Res) : Option Int :=
  match r with
  | ⟨[.one (.val (.int .i64 v1))], [], []⟩ => some (v1)
  | _ => none
noncomputable def E121 : Fun2 := fun args bs rs =>
  match args, bs, rs with
  | [.s1 (.agg [.val (.int .i64 a1), .val (.int .i64 a2), .val (.int .i64 a3), .val (.int .i64 a4), .val (.int .i64 a5), .val (.int .i64 a6), .val (.int .i64 a7), .val (.int .u64 a8), .val (.int .i64 a9), .val (.int .i64 a10), .sl 0]), .s1 (.one (.val (.int .i64 a11)))], [], [⟨3, (.int .i64), a12, .ro⟩] => some ⟨Int, L.szCell a1 a2 a3 a4 a5 a6 a7 a8 a9 a10 a11 a12, R121⟩
  | _, _, _ => none
theorem ev121 (a1 a2 a3 a4 a5 a6 a7 a8 a9 a10 a11 : Int) (a12 : List Int) : evF Try.prog G121 loopNil (0, 0) [] Try.f121 c121 [.s1 (.agg [ai a1, ai a2, ai a3, ai a4, ai a5, ai a6, ai a7, ak .u64 a8, ai a9, ai a10, .sl 0]), vi a11] [] [⟨3, (.int .i64), a12, .ro⟩] K121 = L.szCell a1 a2 a3 a4 a5 a6 a7 a8 a9 a10 a11 a12 := by kernel_rfl
theorem good121 : Vm.Good Try.prog 121 E121 := by
  refine evF_good (G := G121) (c := c121) (envCons_good good76 envNil_good) Try.func121 (by kernel_rfl) (by kernel_rfl) (0, 0) (fun args bs rs out t h h2 => ?_)
  unfold E121 at h
  split at h
  · injection h with h
    subst h
    exact ⟨rfl, [], loopNil, K121, (by intro x hx; simp [show loopsOf c121 = [] from by kernel_rfl] at hx), (fun r t h => by unfold K121 at h; split at h; (injection h with h; subst h; rfl); cases h), (ev121 _ _ _ _ _ _ _ _ _ _ _ _).trans h2⟩
  · cases h
/-! ### L.szCellS -/
noncomputable def G50 : Env := (envCons 121 [] E121 envNil)
noncomputable def c50 : Code := bodyOf Try.f50
noncomputable def c50_5 : Code := (loopsOf c50).getD 0 .skip
noncomputable def L.szCellS_l0 : Nat → (Int → Int → Option Int) → (Int → Option Int) → Int → Int → (List (Int × Int × Int × Int × Int × Int × (Int × Int) × Int × Int × List Int)) → Option Int
  | 0, _, _, _, _, _ => none
  | m + 1, e5_0, e5_1, a6, a7, a8 =>
    (bif (decide (a7 < (a8.length : Int))) then
    (bif decide ((0 : Int) ≤ a7 ∧ a7 < (a8.length : Int)) then
    (Option.bind (L.szCell ((nthI a8 a7 ((0 : Int), ((0 : Int), ((0 : Int), ((0 : Int), ((0 : Int), ((0 : Int), (((0 : Int), (0 : Int)), ((0 : Int), ((0 : Int), [])))))))))).1) ((nthI a8 a7 ((0 : Int), ((0 : Int), ((0 : Int), ((0 : Int), ((0 : Int), ((0 : Int), (((0 : Int), (0 : Int)), ((0 : Int), ((0 : Int), [])))))))))).2.1) ((nthI a8 a7 ((0 : Int), ((0 : Int), ((0 : Int), ((0 : Int), ((0 : Int), ((0 : Int), (((0 : Int), (0 : Int)), ((0 : Int), ((0 : Int), [])))))))))).2.2.1) ((nthI a8 a7 ((0 : Int), ((0 : Int), ((0 : Int), ((0 : Int), ((0 : Int), ((0 : Int), (((0 : Int), (0 : Int)), ((0 : Int), ((0 : Int), [])))))))))).2.2.2.1) ((nthI a8 a7 ((0 : Int), ((0 : Int), ((0 : Int), ((0 : Int), ((0 : Int), ((0 : Int), (((0 : Int), (0 : Int)), ((0 : Int), ((0 : Int), [])))))))))).2.2.2.2.1) ((nthI a8 a7 ((0 : Int), ((0 : Int), ((0 : Int), ((0 : Int), ((0 : Int), ((0 : Int), (((0 : Int), (0 : Int)), ((0 : Int), ((0 : Int), [])))))))))).2.2.2.2.2.1) ((nthI a8 a7 ((0 : Int), ((0 : Int), ((0 : Int), ((0 : Int), ((0 : Int), ((0 : Int), (((0 : Int), (0 : Int)), ((0 : Int), ((0 : Int), [])))))))))).2.2.2.2.2.2.1.1) ((nthI a8 a7 ((0 : Int), ((0 : Int), ((0 : Int), ((0 : Int), ((0 : Int), ((0 : Int), (((0 : Int), (0 : Int)), ((0 : Int), ((0 : Int), [])))))))))).2.2.2.2.2.2.1.2) ((nthI a8 a7 ((0 : Int), ((0 : Int), ((0 : Int), ((0 : Int), ((0 : Int), ((0 : Int), (((0 : Int), (0 : Int)), ((0 : Int), ((0 : Int), [])))))))))).2.2.2.2.2.2.2.1) ((nthI a8 a7 ((0 : Int), ((0 : Int), ((0 : Int), ((0 : Int), ((0 : Int), ((0 : Int), (((0 : Int), (0 : Int)), ((0 : Int), ((0 : Int), [])))))))))).2.2.2.2.2.2.2.2.1) a6 ((nthI a8 a7 ((0 : Int), ((0 : Int), ((0 : Int), ((0 : Int), ((0 : Int), ((0 : Int), (((0 : Int), (0 : Int)), ((0 : Int), ((0 : Int), [])))))))))).2.2.2.2.2.2.2.2.2)) fun r11 =>
    (bif (decide (r11 < 0)) then
    (e5_0 r11 (-1))
    else
    (L.szCellS_l0 m e5_0 e5_1 r11 (IntKind.wrap .i64 (a7 + 1)) a8)))
    else
    none)
    else
    (e5_1 a6))
noncomputable def L.szCellS (a1 : Int) (a2 : List (Int × Int × Int × Int × Int × Int × (Int × Int) × Int × Int × List Int)) : Option Int :=
(let v4 : Int := (IntKind.wrap .i64 (a1 - (a2.length : Int)))
(bif (decide (v4 < 0)) then
(some (-1))
else
(L.szCellS_l0 fu (fun y14 y15 =>
(some y15)) (fun y16 =>
(some y16)) v4 0 a2)))
noncomputable def H50_5 : LoopH := ⟨⟨((.one (.sl 0)) :: hh :: (hu 3 (hh :: (hu 21 [])))), [], [(177, (.pair (.int .i64) (.pair (.int .i64) (.pair (.int .i64) (.pair (.int .i64) (.pair (.int .i64) (.pair (.int .i64) (.pair (.pair (.int .i64) (.int .u64)) (.pair (.int .i64) (.pair (.int .i64) (.sl 3 (.int .i64))))))))))), .ro)]⟩, [2, 3, 4, 6, 7, 8, 9, 10, 11, 12, 13, 14, 15, 16, 17, 18, 19, 20, 21, 22, 23, 24, 25, 26], [], [0, 2, 3, 5, 6, 7, 8, 9, 10, 11, 12, 13, 14, 15, 16, 17, 18, 19, 20, 21, 22, 23, 24, 25, 26], []⟩
noncomputable def E50_5 (m : Nat) (ps : List Prm) (k : Kont Int) : Option Int :=
  match ps with
  | [.v (.int .i64 a6), .v (.int .i64 a7), .row (.pair (.int .i64) (.pair (.int .i64) (.pair (.int .i64) (.pair (.int .i64) (.pair (.int .i64) (.pair (.int .i64) (.pair (.pair (.int .i64) (.int .u64)) (.pair (.int .i64) (.pair (.int .i64) (.sl 3 (.int .i64))))))))))) a8] => L.szCellS_l0 m (fun z20 z21 => k .ret (⟨((.s1 (.one (.unk))) :: (vi z20) :: (vu 2 ((vi z21) :: (vu 22 [])))), [], []⟩ : St)) (fun z22 => k (.exit 0) (⟨((.s1 (.one (.unk))) :: (vi z22) :: (vu 25 [])), [], []⟩ : St)) a6 a7 a8
  | _ => none
noncomputable def S50_5 (a6 a7 : Int) (a8 : List (Int × Int × Int × Int × Int × Int × (Int × Int) × Int × Int × List Int)) : St := (⟨((vl 0) :: (vi a6) :: (vu 3 ((vi a7) :: (vu 21 [])))), [], [⟨177, (.pair (.int .i64) (.pair (.int .i64) (.pair (.int .i64) (.pair (.int .i64) (.pair (.int .i64) (.pair (.int .i64) (.pair (.pair (.int .i64) (.int .u64)) (.pair (.int .i64) (.pair (.int .i64) (.sl 3 (.int .i64))))))))))), a8, .ro⟩]⟩ : St)
theorem ev50_5 (m : Nat) (k : Kont Int) (a6 a7 : Int) (a8 : List (Int × Int × Int × Int × Int × Int × (Int × Int) × Int × Int × List Int)) : evC Try.prog G50 loopNil c50_5 (S50_5 a6 a7 a8) (turn Try.prog (0, 0) H50_5 (E50_5 m) k) = E50_5 (m + 1) [.v (.int .i64 a6), .v (.int .i64 a7), .row (.pair (.int .i64) (.pair (.int .i64) (.pair (.int .i64) (.pair (.int .i64) (.pair (.int .i64) (.pair (.int .i64) (.pair (.pair (.int .i64) (.int .u64)) (.pair (.int .i64) (.pair (.int .i64) (.sl 3 (.int .i64))))))))))) a8] k := by kernel_rfl
theorem ok50_5 (m : Nat) : LoopOk Try.prog (0, 0) c50_5 (enter Try.prog (0, 0) H50_5 (E50_5 m)) := by
  refine loop_ok (G := G50) (L := loopNil) (envCons_good good121 envNil_good) (by intro x hx; simp [show loopsOf c50_5 = [] from by kernel_rfl] at hx) (fun ps k => by unfold E50_5; split <;> rfl) (fun m ps k r h => ?_) m
  have h0 := h
  unfold E50_5 at h
  split at h
  · exact ⟨S50_5 _ _ _, by kernel_rfl, (ev50_5 m k _ _ _).trans h0⟩
  · cases h
noncomputable def L50 : LEnv Int := (loopCons 5 (enter Try.prog (0, 0) H50_5 (E50_5 fu)) loopNil)
theorem lq50 : loopsOf c50 = [c50_5] := by kernel_rfl
theorem fr50_5 : firstReg c50_5 = some 5 := by kernel_rfl
theorem le50_5 : L50 5 = enter Try.prog (0, 0) H50_5 (E50_5 fu) := by kernel_rfl
theorem lm50 : ∀ x ∈ [c50_5], ∀ id, firstReg x = some id → LoopOk Try.prog (0, 0) x (L50 id) := (loops_cons fr50_5 le50_5 (ok50_5 fu) loops_nil)
theorem lp50 : ∀ x ∈ loopsOf c50, ∀ id, firstReg x = some id → LoopOk Try.prog (0, 0) x (L50 id) := loops_eq lq50 lm50
noncomputable def R50 (x : Int) : Res := ⟨[.one (ai x)], [], []⟩
noncomputable def K50 (r : Res) : Option Int :=
  match r with
  | ⟨[.one (.val (.int .i64 v1))], [], []⟩ => some (v1)
  | _ => none
noncomputable def E50 : Fun2 := fun args bs rs =>
  match args, bs, rs with
  | [.s1 (.one (.sl 0)), .s1 (.one (.val (.int .i64 a1)))], [], [⟨177, (.pair (.int .i64) (.pair (.int .i64) (.pair (.int .i64) (.pair (.int .i64) (.pair (.int .i64) (.pair (.int .i64) (.pair (.pair (.int .i64) (.int .u64)) (.pair (.int .i64) (.pair (.int .i64) (.sl 3 (.int .i64))))))))))), a2, .ro⟩] => some ⟨Int, L.szCellS a1 a2, R50⟩
  | _, _, _ => none
theorem ev50 (a1 : Int) (a2 : List (Int × Int × Int × Int × Int × Int × (Int × Int) × Int × Int × List Int)) : evF Try.prog G50 L50 (0, 0) [] Try.f50 c50 [vl 0, vi a1] [] [⟨177, (.pair (.int .i64) (.pair (.int .i64) (.pair (.int .i64) (.pair (.int .i64) (.pair (.int .i64) (.pair (.int .i64) (.pair (.pair (.int .i64) (.int .u64)) (.pair (.int .i64) (.pair (.int .i64) (.sl 3 (.int .i64))))))))))), a2, .ro⟩] K50 = L.szCellS a1 a2 := by kernel_rfl
theorem good50 : Vm.Good Try.prog 50 E50 := by
  refine evF_good (G := G50) (c := c50) (envCons_good good121 envNil_good) Try.func50 (by kernel_rfl) (by kernel_rfl) (0, 0) (fun args bs rs out t h h2 => ?_)
  unfold E50 at h
  split at h
  · injection h with h
    subst h
    exact ⟨rfl, [], L50, K50, lp50, (fun r t h => by unfold K50 at h; split at h; (injection h with h; subst h; rfl); cases h), (ev50 _ _).trans h2⟩
  · cases h
/-! ### L.toWide -/
noncomputable def G164 : Env := envNil
noncomputable def c164 : Code := bodyOf Try.f164
noncomputable def L.toWide (a1 a2 : Int) : Option (Int × Int) :=
(some (a1, a2))
noncomputable def R164 (x : Int × Int) : Res := ⟨[.agg [ai x.1, ak .u64 x.2]], [], []⟩
noncomputable def K164 (r : Res) : Option (Int × Int) :=
  match r with
  | ⟨[.agg [.val (.int .i64 v1), .val (.int .u64 v2)]], [], []⟩ => some (v1, v2)
  | _ => none
noncomputable def E164 : Fun2 := fun args bs rs =>
  match args, bs, rs with
  | [.s1 (.agg [.val (.int .i64 a1), .val (.int .u64 a2)])], [], [] => some ⟨Int × Int, L.toWide a1 a2, R164⟩
  | _, _, _ => none
theorem ev164 (a1 a2 : Int) : evF Try.prog G164 loopNil (0, 0) [] Try.f164 c164 [.s1 (.agg [ai a1, ak .u64 a2])] [] [] K164 = L.toWide a1 a2 := by kernel_rfl
theorem good164 : Vm.Good Try.prog 164 E164 := by
  refine evF_good (G := G164) (c := c164) envNil_good Try.func164 (by kernel_rfl) (by kernel_rfl) (0, 0) (fun args bs rs out t h h2 => ?_)
  unfold E164 at h
  split at h
  · injection h with h
    subst h
    exact ⟨rfl, [], loopNil, K164, (by intro x hx; simp [show loopsOf c164 = [] from by kernel_rfl] at hx), (fun r t h => by unfold K164 at h; split at h; (injection h with h; subst h; rfl); cases h), (ev164 _ _).trans h2⟩
  · cases h
/-! ### L.toIntS -/
noncomputable def G118 : Env := envNil
noncomputable def c118 : Code := bodyOf Try.f118
noncomputable def c118_3 : Code := (loopsOf c118).getD 0 .skip
noncomputable def L.toIntS_l0 : Nat → (List Int → Option (List Int)) → Int → List Int → List Int → Option (List Int)
  | 0, _, _, _, _ => none
  | m + 1, e3_0, a4, a5, a6 =>
    (bif (decide (a4 < (a5.length : Int))) then
    (bif decide ((0 : Int) ≤ a4 ∧ a4 < (a5.length : Int)) then
    (bif decide ((0 : Int) ≤ a4 ∧ a4 < (a6.length : Int)) then
    (L.toIntS_l0 m e3_0 (IntKind.wrap .i64 (a4 + 1)) a5 (a6.set (Int.toNat a4) (nthI a5 a4 (0 : Int))))
    else
    none)
    else
    none)
    else
    (e3_0 a6))
noncomputable def L.toIntS (a1 : List Int) : Option (List Int) :=
(let v2 : Int := (a1.length : Int)
(bif decide ((0 : Int) ≤ v2 ∧ v2 ≤ v2 ∧ (8 : Int) * v2 ≤ 281474976710656 ∧ v2 ≤ 9223372036854775807) then
(L.toIntS_l0 fu (fun y11 =>
(some y11)) 0 a1 (List.replicate (Int.toNat v2) (0 : Int)))
else
none))
noncomputable def H118_3 : LoopH := ⟨⟨((.one (.sl 0)) :: (hu 2 ((.one (.sl 1)) :: hh :: (hu 17 [])))), [], [(3, (.int .i64), .ro), (3, (.int .i64), .own)]⟩, [1, 2, 5, 6, 7, 8, 9, 10, 11, 12, 13, 14, 15, 16, 17, 18, 19, 20, 21], [], [0, 1, 4, 5, 6, 7, 8, 9, 10, 11, 12, 13, 14, 15, 16, 17, 18, 19, 20, 21], []⟩
noncomputable def E118_3 (m : Nat) (ps : List Prm) (k : Kont (List Int)) : Option (List Int) :=
  match ps with
  | [.v (.int .i64 a4), .row (.int .i64) a5, .row (.int .i64) a6] => L.toIntS_l0 m (fun z13 => k (.exit 0) (⟨(vu 3 ((vl 0) :: (vu 18 []))), [], [⟨3, (.int .i64), z13, .own⟩]⟩ : St)) a4 a5 a6
  | _ => none
noncomputable def S118_3 (a4 : Int) (a5 a6 : List Int) : St := (⟨((vl 0) :: (vu 2 ((vl 1) :: (vi a4) :: (vu 17 [])))), [], [⟨3, (.int .i64), a5, .ro⟩, ⟨3, (.int .i64), a6, .own⟩]⟩ : St)
theorem ev118_3 (m : Nat) (k : Kont (List Int)) (a4 : Int) (a5 a6 : List Int) : evC Try.prog G118 loopNil c118_3 (S118_3 a4 a5 a6) (turn Try.prog (0, 0) H118_3 (E118_3 m) k) = E118_3 (m + 1) [.v (.int .i64 a4), .row (.int .i64) a5, .row (.int .i64) a6] k := by kernel_rfl
theorem ok118_3 (m : Nat) : LoopOk Try.prog (0, 0) c118_3 (enter Try.prog (0, 0) H118_3 (E118_3 m)) := by
  refine loop_ok (G := G118) (L := loopNil) envNil_good (by intro x hx; simp [show loopsOf c118_3 = [] from by kernel_rfl] at hx) (fun ps k => by unfold E118_3; split <;> rfl) (fun m ps k r h => ?_) m
  have h0 := h
  unfold E118_3 at h
  split at h
  · exact ⟨S118_3 _ _ _, by kernel_rfl, (ev118_3 m k _ _ _).trans h0⟩
  · cases h
noncomputable def L118 : LEnv (List Int) := (loopCons 3 (enter Try.prog (0, 0) H118_3 (E118_3 fu)) loopNil)
theorem lq118 : loopsOf c118 = [c118_3] := by kernel_rfl
theorem fr118_3 : firstReg c118_3 = some 3 := by kernel_rfl
theorem le118_3 : L118 3 = enter Try.prog (0, 0) H118_3 (E118_3 fu) := by kernel_rfl
theorem lm118 : ∀ x ∈ [c118_3], ∀ id, firstReg x = some id → LoopOk Try.prog (0, 0) x (L118 id) := (loops_cons fr118_3 le118_3 (ok118_3 fu) loops_nil)
theorem lp118 : ∀ x ∈ loopsOf c118, ∀ id, firstReg x = some id → LoopOk Try.prog (0, 0) x (L118 id) := loops_eq lq118 lm118
noncomputable def R118 (x : List Int) : Res := ⟨[.one (.sl 0)], [], [⟨3, (.int .i64), x, .own⟩]⟩
noncomputable def K118 (r : Res) : Option (List Int) :=
  match r with
  | ⟨[.one (.sl 0)], [], [⟨3, (.int .i64), v1, .own⟩]⟩ => some (v1)
  | _ => none
noncomputable def E118 : Fun2 := fun args bs rs =>
  match args, bs, rs with
  | [.s1 (.one (.sl 0))], [], [⟨3, (.int .i64), a1, .ro⟩] => some ⟨List Int, L.toIntS a1, R118⟩
  | _, _, _ => none
theorem ev118 (a1 : List Int) : evF Try.prog G118 L118 (0, 0) [] Try.f118 c118 [vl 0] [] [⟨3, (.int .i64), a1, .ro⟩] K118 = L.toIntS a1 := by kernel_rfl
theorem good118 : Vm.Good Try.prog 118 E118 := by
  refine evF_good (G := G118) (c := c118) envNil_good Try.func118 (by kernel_rfl) (by kernel_rfl) (0, 0) (fun args bs rs out t h h2 => ?_)
  unfold E118 at h
  split at h
  · injection h with h
    subst h
    exact ⟨rfl, [], L118, K118, lp118, (fun r t h => by unfold K118 at h; split at h; (injection h with h; subst h; rfl); cases h), (ev118 _).trans h2⟩
  · cases h
/-! ### L.toAgg -/
noncomputable def G80 : Env := (envCons 164 [] E164 (envCons 118 [] E118 envNil))
noncomputable def c80 : Code := bodyOf Try.f80
noncomputable def L.toAgg (a1 a2 a3 a4 a5 : Int) (a6 : List Int) : Option (Int × Int × Int × Int × Int × List Int) :=
(Option.bind (L.toWide a2 a3) fun r7 =>
(Option.bind (L.toIntS a6) fun r8 =>
(some (a1, r7.1, r7.2, a4, a5, r8))))
noncomputable def R80 (x : Int × Int × Int × Int × Int × List Int) : Res := ⟨[.agg [ai x.1, ai x.2.1, ak .u64 x.2.2.1, ai x.2.2.2.1, ai x.2.2.2.2.1, .sl 0]], [], [⟨3, (.int .i64), x.2.2.2.2.2, .own⟩]⟩
noncomputable def K80 (r : Res) : Option (Int × Int × Int × Int × Int × List Int) :=
  match r with
  | ⟨[.agg [.val (.int .i64 v1), .val (.int .i64 v2), .val (.int .u64 v3), .val (.int .i64 v4), .val (.int .i64 v5), .sl 0]], [], [⟨3, (.int .i64), v6, .own⟩]⟩ => some (v1, v2, v3, v4, v5, v6)
  | _ => none
noncomputable def E80 : Fun2 := fun args bs rs =>
  match args, bs, rs with
  | [.s1 (.agg [.val (.int .i64 a1), .val (.int .i64 a2), .val (.int .u64 a3), .val (.int .i64 a4), .val (.int .i64 a5), .sl 0])], [], [⟨3, (.int .i64), a6, .ro⟩] => some ⟨Int × Int × Int × Int × Int × List Int, L.toAgg a1 a2 a3 a4 a5 a6, R80⟩
  | _, _, _ => none
theorem ev80 (a1 a2 a3 a4 a5 : Int) (a6 : List Int) : evF Try.prog G80 loopNil (0, 0) [] Try.f80 c80 [.s1 (.agg [ai a1, ai a2, ak .u64 a3, ai a4, ai a5, .sl 0])] [] [⟨3, (.int .i64), a6, .ro⟩] K80 = L.toAgg a1 a2 a3 a4 a5 a6 := by kernel_rfl
theorem good80 : Vm.Good Try.prog 80 E80 := by
  refine evF_good (G := G80) (c := c80) (envCons_good good164 (envCons_good good118 envNil_good)) Try.func80 (by kernel_rfl) (by kernel_rfl) (0, 0) (fun args bs rs out t h h2 => ?_)
  unfold E80 at h
  split at h
  · injection h with h
    subst h
    exact ⟨rfl, [], loopNil, K80, (by intro x hx; simp [show loopsOf c80 = [] from by kernel_rfl] at hx), (fun r t h => by unfold K80 at h; split at h; (injection h with h; subst h; rfl); cases h), (ev80 _ _ _ _ _ _).trans h2⟩
  · cases h
/-! ### L.toCell -/
noncomputable def G124 : Env := (envCons 80 [] E80 envNil)
noncomputable def c124 : Code := bodyOf Try.f124
noncomputable def L.toCell (a1 a2 a3 a4 a5 a6 a7 a8 a9 a10 : Int) (a11 : List Int) : Option (Int × Int × Int × Int × Int × Int × Int × Int × Int × Int × List Int) :=
(Option.bind (L.toAgg a6 a7 a8 a9 a10 a11) fun r12 =>
(some (a1, a2, a3, a4, a5, r12.1, r12.2.1, r12.2.2.1, r12.2.2.2.1, r12.2.2.2.2.1, r12.2.2.2.2.2)))
noncomputable def R124 (x : Int × Int × Int × Int × Int × Int × Int × Int × Int × Int × List Int) : Res := ⟨[.agg [ai x.1, ai x.2.1, ai x.2.2.1, ai x.2.2.2.1, ai x.2.2.2.2.1, ai x.2.2.2.2.2.1, ai x.2.2.2.2.2.2.1, ak .u64 x.2.2.2.2.2.2.2.1, ai x.2.2.2.2.2.2.2.2.1, ai x.2.2.2.2.2.2.2.2.2.1, .sl 0]], [], [⟨3, (.int .i64), x.2.2.2.2.2.2.2.2.2.2, .own⟩]⟩
noncomputable def K124 (r : Res) : Option (Int × Int × Int × Int × Int × Int × Int × Int × Int × Int × List Int) :=
  match r with
  | ⟨[.agg [.val (.int .i64 v1), .val (.int .i64 v2), .val (.int .i64 v3), .val (.int .i64 v4), .val (.int .i64 v5), .val (.int .i64 v6), .val (.int .i64 v7), .val (.int .u64 v8), .val (.int .i64 v9), .val (.int .i64 v10), .sl 0]], [], [⟨3, (.int .i64), v11, .own⟩]⟩ => some (v1, v2, v3, v4, v5, v6, v7, v8, v9, v10, v11)
  | _ => none
noncomputable def E124 : Fun2 := fun args bs rs =>
  match args, bs, rs with
  | [.s1 (.agg [.val (.int .i64 a1), .val (.int .i64 a2), .val (.int .i64 a3), .val (.int .i64 a4), .val (.int .i64 a5), .val (.int .i64 a6), .val (.int .i64 a7), .val (.int .u64 a8), .val (.int .i64 a9), .val (.int .i64 a10), .sl 0])], [], [⟨3, (.int .i64), a11, .ro⟩] => some ⟨Int × Int × Int × Int × Int × Int × Int × Int × Int × Int × List Int, L.toCell a1 a2 a3 a4 a5 a6 a7 a8 a9 a10 a11, R124⟩
  | _, _, _ => none
theorem ev124 (a1 a2 a3 a4 a5 a6 a7 a8 a9 a10 : Int) (a11 : List Int) : evF Try.prog G124 loopNil (0, 0) [] Try.f124 c124 [.s1 (.agg [ai a1, ai a2, ai a3, ai a4, ai a5, ai a6, ai a7, ak .u64 a8, ai a9, ai a10, .sl 0])] [] [⟨3, (.int .i64), a11, .ro⟩] K124 = L.toCell a1 a2 a3 a4 a5 a6 a7 a8 a9 a10 a11 := by kernel_rfl
theorem good124 : Vm.Good Try.prog 124 E124 := by
  refine evF_good (G := G124) (c := c124) (envCons_good good80 envNil_good) Try.func124 (by kernel_rfl) (by kernel_rfl) (0, 0) (fun args bs rs out t h h2 => ?_)
  unfold E124 at h
  split at h
  · injection h with h
    subst h
    exact ⟨rfl, [], loopNil, K124, (by intro x hx; simp [show loopsOf c124 = [] from by kernel_rfl] at hx), (fun r t h => by unfold K124 at h; split at h; (injection h with h; subst h; rfl); cases h), (ev124 _ _ _ _ _ _ _ _ _ _ _).trans h2⟩
  · cases h
/-! ### L.toCellS -/
noncomputable def G52 : Env := (envCons 124 [] E124 envNil)
noncomputable def c52 : Code := bodyOf Try.f52
noncomputable def c52_3 : Code := (loopsOf c52).getD 0 .skip
noncomputable def L.toCellS_l0 : Nat → ((List (Int × Int × Int × Int × Int × Int × (Int × Int) × Int × Int × List Int)) → Option ((List (Int × Int × Int × Int × Int × Int × (Int × Int) × Int × Int × List Int)))) → Int → (List (Int × Int × Int × Int × Int × Int × (Int × Int) × Int × Int × List Int)) → (List (Int × Int × Int × Int × Int × Int × (Int × Int) × Int × Int × List Int)) → Option ((List (Int × Int × Int × Int × Int × Int × (Int × Int) × Int × Int × List Int)))
  | 0, _, _, _, _ => none
  | m + 1, e3_0, a4, a5, a6 =>
    (bif (decide (a4 < (a5.length : Int))) then
    (bif decide ((0 : Int) ≤ a4 ∧ a4 < (a5.length : Int)) then
    (Option.bind (L.toCell ((nthI a5 a4 ((0 : Int), ((0 : Int), ((0 : Int), ((0 : Int), ((0 : Int), ((0 : Int), (((0 : Int), (0 : Int)), ((0 : Int), ((0 : Int), [])))))))))).1) ((nthI a5 a4 ((0 : Int), ((0 : Int), ((0 : Int), ((0 : Int), ((0 : Int), ((0 : Int), (((0 : Int), (0 : Int)), ((0 : Int), ((0 : Int), [])))))))))).2.1) ((nthI a5 a4 ((0 : Int), ((0 : Int), ((0 : Int), ((0 : Int), ((0 : Int), ((0 : Int), (((0 : Int), (0 : Int)), ((0 : Int), ((0 : Int), [])))))))))).2.2.1) ((nthI a5 a4 ((0 : Int), ((0 : Int), ((0 : Int), ((0 : Int), ((0 : Int), ((0 : Int), (((0 : Int), (0 : Int)), ((0 : Int), ((0 : Int), [])))))))))).2.2.2.1) ((nthI a5 a4 ((0 : Int), ((0 : Int), ((0 : Int), ((0 : Int), ((0 : Int), ((0 : Int), (((0 : Int), (0 : Int)), ((0 : Int), ((0 : Int), [])))))))))).2.2.2.2.1) ((nthI a5 a4 ((0 : Int), ((0 : Int), ((0 : Int), ((0 : Int), ((0 : Int), ((0 : Int), (((0 : Int), (0 : Int)), ((0 : Int), ((0 : Int), [])))))))))).2.2.2.2.2.1) ((nthI a5 a4 ((0 : Int), ((0 : Int), ((0 : Int), ((0 : Int), ((0 : Int), ((0 : Int), (((0 : Int), (0 : Int)), ((0 : Int), ((0 : Int), [])))))))))).2.2.2.2.2.2.1.1) ((nthI a5 a4 ((0 : Int), ((0 : Int), ((0 : Int), ((0 : Int), ((0 : Int), ((0 : Int), (((0 : Int), (0 : Int)), ((0 : Int), ((0 : Int), [])))))))))).2.2.2.2.2.2.1.2) ((nthI a5 a4 ((0 : Int), ((0 : Int), ((0 : Int), ((0 : Int), ((0 : Int), ((0 : Int), (((0 : Int), (0 : Int)), ((0 : Int), ((0 : Int), [])))))))))).2.2.2.2.2.2.2.1) ((nthI a5 a4 ((0 : Int), ((0 : Int), ((0 : Int), ((0 : Int), ((0 : Int), ((0 : Int), (((0 : Int), (0 : Int)), ((0 : Int), ((0 : Int), [])))))))))).2.2.2.2.2.2.2.2.1) ((nthI a5 a4 ((0 : Int), ((0 : Int), ((0 : Int), ((0 : Int), ((0 : Int), ((0 : Int), (((0 : Int), (0 : Int)), ((0 : Int), ((0 : Int), [])))))))))).2.2.2.2.2.2.2.2.2)) fun r9 =>
    (bif decide ((0 : Int) ≤ a4 ∧ a4 < (a6.length : Int)) then
    (let v10 : List (Int × Int × Int × Int × Int × Int × (Int × Int) × Int × Int × List Int) := (a6.set (Int.toNat a4) (r9.1, (r9.2.1, (r9.2.2.1, (r9.2.2.2.1, (r9.2.2.2.2.1, (r9.2.2.2.2.2.1, ((r9.2.2.2.2.2.2.1, r9.2.2.2.2.2.2.2.1), (r9.2.2.2.2.2.2.2.2.1, (r9.2.2.2.2.2.2.2.2.2.1, r9.2.2.2.2.2.2.2.2.2.2))))))))))
    (L.toCellS_l0 m e3_0 (IntKind.wrap .i64 (a4 + 1)) a5 v10))
    else
    none))
    else
    none)
    else
    (e3_0 a6))
noncomputable def L.toCellS (a1 : List (Int × Int × Int × Int × Int × Int × (Int × Int) × Int × Int × List Int)) : Option ((List (Int × Int × Int × Int × Int × Int × (Int × Int) × Int × Int × List Int))) :=
(let v2 : Int := (a1.length : Int)
(bif decide ((0 : Int) ≤ v2 ∧ v2 ≤ v2 ∧ (104 : Int) * v2 ≤ 281474976710656 ∧ v2 ≤ 9223372036854775807) then
(let v3 : List (Int × Int × Int × Int × Int × Int × (Int × Int) × Int × Int × List Int) := (List.replicate (Int.toNat v2) (0, (0, (0, (0, (0, (0, ((0, 0), (0, (0, []))))))))))
(L.toCellS_l0 fu (fun y12 =>
(some y12)) 0 a1 v3))
else
none))
noncomputable def H52_3 : LoopH := ⟨⟨((.one (.sl 0)) :: (hu 2 ((.one (.sl 1)) :: hh :: (hu 18 [])))), [], [(177, (.pair (.int .i64) (.pair (.int .i64) (.pair (.int .i64) (.pair (.int .i64) (.pair (.int .i64) (.pair (.int .i64) (.pair (.pair (.int .i64) (.int .u64)) (.pair (.int .i64) (.pair (.int .i64) (.sl 3 (.int .i64))))))))))), .ro), (180, (.pair (.int .i64) (.pair (.int .i64) (.pair (.int .i64) (.pair (.int .i64) (.pair (.int .i64) (.pair (.int .i64) (.pair (.pair (.int .i64) (.int .u64)) (.pair (.int .i64) (.pair (.int .i64) (.sl 3 (.int .i64))))))))))), .own)]⟩, [1, 2, 5, 6, 7, 8, 9, 10, 11, 12, 13, 14, 15, 16, 17, 18, 19, 20, 21, 22], [], [0, 1, 4, 5, 6, 7, 8, 9, 10, 11, 12, 13, 14, 15, 16, 17, 18, 19, 20, 21, 22], []⟩
noncomputable def E52_3 (m : Nat) (ps : List Prm) (k : Kont ((List (Int × Int × Int × Int × Int × Int × (Int × Int) × Int × Int × List Int)))) : Option ((List (Int × Int × Int × Int × Int × Int × (Int × Int) × Int × Int × List Int))) :=
  match ps with
  | [.v (.int .i64 a4), .row (.pair (.int .i64) (.pair (.int .i64) (.pair (.int .i64) (.pair (.int .i64) (.pair (.int .i64) (.pair (.int .i64) (.pair (.pair (.int .i64) (.int .u64)) (.pair (.int .i64) (.pair (.int .i64) (.sl 3 (.int .i64))))))))))) a5, .row (.pair (.int .i64) (.pair (.int .i64) (.pair (.int .i64) (.pair (.int .i64) (.pair (.int .i64) (.pair (.int .i64) (.pair (.pair (.int .i64) (.int .u64)) (.pair (.int .i64) (.pair (.int .i64) (.sl 3 (.int .i64))))))))))) a6] => L.toCellS_l0 m (fun z14 => k (.exit 0) (⟨(vu 3 ((vl 0) :: (vu 19 []))), [], [⟨180, (.pair (.int .i64) (.pair (.int .i64) (.pair (.int .i64) (.pair (.int .i64) (.pair (.int .i64) (.pair (.int .i64) (.pair (.pair (.int .i64) (.int .u64)) (.pair (.int .i64) (.pair (.int .i64) (.sl 3 (.int .i64))))))))))), z14, .own⟩]⟩ : St)) a4 a5 a6
  | _ => none
noncomputable def S52_3 (a4 : Int) (a5 a6 : List (Int × Int × Int × Int × Int × Int × (Int × Int) × Int × Int × List Int)) : St := (⟨((vl 0) :: (vu 2 ((vl 1) :: (vi a4) :: (vu 18 [])))), [], [⟨177, (.pair (.int .i64) (.pair (.int .i64) (.pair (.int .i64) (.pair (.int .i64) (.pair (.int .i64) (.pair (.int .i64) (.pair (.pair (.int .i64) (.int .u64)) (.pair (.int .i64) (.pair (.int .i64) (.sl 3 (.int .i64))))))))))), a5, .ro⟩, ⟨180, (.pair (.int .i64) (.pair (.int .i64) (.pair (.int .i64) (.pair (.int .i64) (.pair (.int .i64) (.pair (.int .i64) (.pair (.pair (.int .i64) (.int .u64)) (.pair (.int .i64) (.pair (.int .i64) (.sl 3 (.int .i64))))))))))), a6, .own⟩]⟩ : St)
theorem ev52_3 (m : Nat) (k : Kont ((List (Int × Int × Int × Int × Int × Int × (Int × Int) × Int × Int × List Int)))) (a4 : Int) (a5 a6 : List (Int × Int × Int × Int × Int × Int × (Int × Int) × Int × Int × List Int)) : evC Try.prog G52 loopNil c52_3 (S52_3 a4 a5 a6) (turn Try.prog (0, 0) H52_3 (E52_3 m) k) = E52_3 (m + 1) [.v (.int .i64 a4), .row (.pair (.int .i64) (.pair (.int .i64) (.pair (.int .i64) (.pair (.int .i64) (.pair (.int .i64) (.pair (.int .i64) (.pair (.pair (.int .i64) (.int .u64)) (.pair (.int .i64) (.pair (.int .i64) (.sl 3 (.int .i64))))))))))) a5, .row (.pair (.int .i64) (.pair (.int .i64) (.pair (.int .i64) (.pair (.int .i64) (.pair (.int .i64) (.pair (.int .i64) (.pair (.pair (.int .i64) (.int .u64)) (.pair (.int .i64) (.pair (.int .i64) (.sl 3 (.int .i64))))))))))) a6] k := by kernel_rfl
theorem ok52_3 (m : Nat) : LoopOk Try.prog (0, 0) c52_3 (enter Try.prog (0, 0) H52_3 (E52_3 m)) := by
  refine loop_ok (G := G52) (L := loopNil) (envCons_good good124 envNil_good) (by intro x hx; simp [show loopsOf c52_3 = [] from by kernel_rfl] at hx) (fun ps k => by unfold E52_3; split <;> rfl) (fun m ps k r h => ?_) m
  have h0 := h
  unfold E52_3 at h
  split at h
  · exact ⟨S52_3 _ _ _, by kernel_rfl, (ev52_3 m k _ _ _).trans h0⟩
  · cases h
noncomputable def L52 : LEnv ((List (Int × Int × Int × Int × Int × Int × (Int × Int) × Int × Int × List Int))) := (loopCons 3 (enter Try.prog (0, 0) H52_3 (E52_3 fu)) loopNil)
theorem lq52 : loopsOf c52 = [c52_3] := by kernel_rfl
theorem fr52_3 : firstReg c52_3 = some 3 := by kernel_rfl
theorem le52_3 : L52 3 = enter Try.prog (0, 0) H52_3 (E52_3 fu) := by kernel_rfl
theorem lm52 : ∀ x ∈ [c52_3], ∀ id, firstReg x = some id → LoopOk Try.prog (0, 0) x (L52 id) := (loops_cons fr52_3 le52_3 (ok52_3 fu) loops_nil)
theorem lp52 : ∀ x ∈ loopsOf c52, ∀ id, firstReg x = some id → LoopOk Try.prog (0, 0) x (L52 id) := loops_eq lq52 lm52
noncomputable def R52 (x : (List (Int × Int × Int × Int × Int × Int × (Int × Int) × Int × Int × List Int))) : Res := ⟨[.one (.sl 0)], [], [⟨180, (.pair (.int .i64) (.pair (.int .i64) (.pair (.int .i64) (.pair (.int .i64) (.pair (.int .i64) (.pair (.int .i64) (.pair (.pair (.int .i64) (.int .u64)) (.pair (.int .i64) (.pair (.int .i64) (.sl 3 (.int .i64))))))))))), x, .own⟩]⟩
noncomputable def K52 (r : Res) : Option ((List (Int × Int × Int × Int × Int × Int × (Int × Int) × Int × Int × List Int))) :=
  match r with
  | ⟨[.one (.sl 0)], [], [⟨180, (.pair (.int .i64) (.pair (.int .i64) (.pair (.int .i64) (.pair (.int .i64) (.pair (.int .i64) (.pair (.int .i64) (.pair (.pair (.int .i64) (.int .u64)) (.pair (.int .i64) (.pair (.int .i64) (.sl 3 (.int .i64))))))))))), v1, .own⟩]⟩ => some (v1)
  | _ => none
noncomputable def E52 : Fun2 := fun args bs rs =>
  match args, bs, rs with
  | [.s1 (.one (.sl 0))], [], [⟨177, (.pair (.int .i64) (.pair (.int .i64) (.pair (.int .i64) (.pair (.int .i64) (.pair (.int .i64) (.pair (.int .i64) (.pair (.pair (.int .i64) (.int .u64)) (.pair (.int .i64) (.pair (.int .i64) (.sl 3 (.int .i64))))))))))), a1, .ro⟩] => some ⟨(List (Int × Int × Int × Int × Int × Int × (Int × Int) × Int × Int × List Int)), L.toCellS a1, R52⟩
  | _, _, _ => none
theorem ev52 (a1 : List (Int × Int × Int × Int × Int × Int × (Int × Int) × Int × Int × List Int)) : evF Try.prog G52 L52 (0, 0) [] Try.f52 c52 [vl 0] [] [⟨177, (.pair (.int .i64) (.pair (.int .i64) (.pair (.int .i64) (.pair (.int .i64) (.pair (.int .i64) (.pair (.int .i64) (.pair (.pair (.int .i64) (.int .u64)) (.pair (.int .i64) (.pair (.int .i64) (.sl 3 (.int .i64))))))))))), a1, .ro⟩] K52 = L.toCellS a1 := by kernel_rfl
theorem good52 : Vm.Good Try.prog 52 E52 := by
  refine evF_good (G := G52) (c := c52) (envCons_good good124 envNil_good) Try.func52 (by kernel_rfl) (by kernel_rfl) (0, 0) (fun args bs rs out t h h2 => ?_)
  unfold E52 at h
  split at h
  · injection h with h
    subst h
    exact ⟨rfl, [], L52, K52, lp52, (fun r t h => by unfold K52 at h; split at h; (injection h with h; subst h; rfl); cases h), (ev52 _).trans h2⟩
  · cases h
/-! ### S.l04Key -/
noncomputable def G188 : Env := envNil
noncomputable def c188 : Code := bodyOf Try.f188
noncomputable def S.l04Key (a1 : Int) : Option Bool :=
(bif (decide (0 ≤ a1)) then
(some (decide (a1 ≤ 15)))
else
(some false))
noncomputable def R188 (x : Bool) : Res := ⟨[.one (ab x)], [], []⟩
noncomputable def K188 (r : Res) : Option Bool :=
  match r with
  | ⟨[.one (.val (.bool v1))], [], []⟩ => some (v1)
  | _ => none
noncomputable def E188 : Fun2 := fun args bs rs =>
  match args, bs, rs with
  | [.s1 (.one (.val (.int .i64 a1)))], [], [] => some ⟨Bool, S.l04Key a1, R188⟩
  | _, _, _ => none
theorem ev188 (a1 : Int) : evF Try.prog G188 loopNil (0, 0) [] Try.f188 c188 [vi a1] [] [] K188 = S.l04Key a1 := by kernel_rfl
theorem good188 : Vm.Good Try.prog 188 E188 := by
  refine evF_good (G := G188) (c := c188) envNil_good Try.func188 (by kernel_rfl) (by kernel_rfl) (0, 0) (fun args bs rs out t h h2 => ?_)
  unfold E188 at h
  split at h
  · injection h with h
    subst h
    exact ⟨rfl, [], loopNil, K188, (by intro x hx; simp [show loopsOf c188 = [] from by kernel_rfl] at hx), (fun r t h => by unfold K188 at h; split at h; (injection h with h; subst h; rfl); cases h), (ev188 _).trans h2⟩
  · cases h
/-! ### S.l06Win -/
noncomputable def G189 : Env := envNil
noncomputable def c189 : Code := bodyOf Try.f189
noncomputable def S.l06Win (a1 a2 : Int) : Option Bool :=
(bif (decide (0 ≤ a1)) then
(bif (decide (a1 < a2)) then
(some (decide (a2 ≤ 1100)))
else
(some false))
else
(some false))
noncomputable def R189 (x : Bool) : Res := ⟨[.one (ab x)], [], []⟩
noncomputable def K189 (r : Res) : Option Bool :=
  match r with
  | ⟨[.one (.val (.bool v1))], [], []⟩ => some (v1)
  | _ => none
noncomputable def E189 : Fun2 := fun args bs rs =>
  match args, bs, rs with
  | [.s1 (.agg [.val (.int .i64 a1), .val (.int .i64 a2)])], [], [] => some ⟨Bool, S.l06Win a1 a2, R189⟩
  | _, _, _ => none
theorem ev189 (a1 a2 : Int) : evF Try.prog G189 loopNil (0, 0) [] Try.f189 c189 [.s1 (.agg [ai a1, ai a2])] [] [] K189 = S.l06Win a1 a2 := by kernel_rfl
theorem good189 : Vm.Good Try.prog 189 E189 := by
  refine evF_good (G := G189) (c := c189) envNil_good Try.func189 (by kernel_rfl) (by kernel_rfl) (0, 0) (fun args bs rs out t h h2 => ?_)
  unfold E189 at h
  split at h
  · injection h with h
    subst h
    exact ⟨rfl, [], loopNil, K189, (by intro x hx; simp [show loopsOf c189 = [] from by kernel_rfl] at hx), (fun r t h => by unfold K189 at h; split at h; (injection h with h; subst h; rfl); cases h), (ev189 _ _).trans h2⟩
  · cases h
/-! ### S.TopOf -/
noncomputable def G215 : Env := envNil
noncomputable def c215 : Code := bodyOf Try.f215
noncomputable def c215_3 : Code := (loopsOf c215).getD 0 .skip
noncomputable def c215_6 : Code := (loopsOf c215_3).getD 0 .skip
noncomputable def S.TopOf_l1 : Nat → (Int → List Int → List Int → Option (List Int)) → Int → Int → List Int → List Int → Option (List Int)
  | 0, _, _, _, _, _ => none
  | m + 1, e6_0, a10, a11, a12, a13 =>
    (bif (decide (a11 < (a12.length : Int))) then
    (bif decide ((0 : Int) ≤ a11 ∧ a11 < (a12.length : Int)) then
    (bif decide ((0 : Int) ≤ a10 ∧ a10 < (a12.length : Int)) then
    (let v16 : Bool := (decide ((nthI a12 a10 (0 : Int)) < (nthI a12 a11 (0 : Int))))
    (bif v16 then
    (S.TopOf_l1 m e6_0 a11 (IntKind.wrap .i64 (a11 + 1)) a12 a13)
    else
    (S.TopOf_l1 m e6_0 a10 (IntKind.wrap .i64 (a11 + 1)) a12 a13)))
    else
    none)
    else
    none)
    else
    (e6_0 a10 a12 a13))
noncomputable def S.TopOf_l0 : Nat → (List Int → Option (List Int)) → List Int → List Int → Option (List Int)
  | 0, _, _, _ => none
  | m + 1, e3_0, a4, a5 =>
    (bif (decide ((a5.length : Int) < 4)) then
    (bif (decide (0 < (a4.length : Int))) then
    (S.TopOf_l1 fu (fun y19 y20 y21 =>
    (bif decide ((0 : Int) ≤ y19 ∧ y19 < (y20.length : Int)) then
    (let v22 : List Int := [(nthI y20 y19 (0 : Int))]
    (bif decide ((y21.length + v22.length) * 8 ≤ 140737488355328) then
    (bif decide ((0 : Int) ≤ 0 ∧ 0 ≤ y19 ∧ y19 ≤ (y20.length : Int)) then
    (let v23 : Int := (IntKind.wrap .i64 (y19 + 1))
    (bif decide ((0 : Int) ≤ v23 ∧ v23 ≤ (y20.length : Int) ∧ (y20.length : Int) ≤ (y20.length : Int)) then
    (bif decide ((([] : List (Int)).length + ((y20.take (Int.toNat y19)).drop (Int.toNat 0)).length) * 8 ≤ 140737488355328) then
    (let v24 : List Int := (([] : List (Int)) ++ ((y20.take (Int.toNat y19)).drop (Int.toNat 0)))
    (bif decide ((v24.length + ((y20.take (Int.toNat (y20.length : Int))).drop (Int.toNat v23)).length) * 8 ≤ 140737488355328) then
    (let v25 : List Int := (v24 ++ ((y20.take (Int.toNat (y20.length : Int))).drop (Int.toNat v23)))
    (S.TopOf_l0 m e3_0 v25 (y21 ++ v22)))
    else
    none))
    else
    none)
    else
    none))
    else
    none)
    else
    none))
    else
    none)) 0 0 a4 a5)
    else
    (e3_0 a5))
    else
    (e3_0 a5))
noncomputable def S.TopOf (a1 a2 : List Int) : Option (List Int) :=
(bif decide ((([] : List (Int)).length + a1.length) * 8 ≤ 140737488355328) then
(let v3 : List Int := (([] : List (Int)) ++ a1)
(bif decide ((v3.length + a2.length) * 8 ≤ 140737488355328) then
(S.TopOf_l0 fu (fun y26 =>
(some y26)) (v3 ++ a2) [])
else
none))
else
none)
noncomputable def H215_6 : LoopH := ⟨⟨(hu 5 ((.one (.sl 0)) :: (.one (.sl 1)) :: hh :: hh :: (hu 48 []))), [], [(3, (.int .i64), .own), (3, (.int .i64), .own)]⟩, [0, 1, 2, 3, 4, 9, 10, 11, 12, 13, 14, 15, 16, 17, 18, 19, 20, 21, 22, 23, 24, 25, 26, 27, 28, 29, 30, 31, 32, 33, 34, 35, 36, 37, 38, 39, 40, 41, 42, 43, 44, 45, 46, 47, 48, 49, 50, 51, 52, 53, 54, 55, 56], [], [0, 1, 2, 3, 8, 9, 10, 11, 12, 13, 14, 15, 16, 17, 18, 19, 20, 21, 22, 23, 24, 25, 26, 27, 28, 29, 30, 31, 32, 33, 34, 35, 36, 37, 38, 39, 40, 41, 42, 43, 44, 45, 46, 47, 48, 49, 50, 51, 52, 53, 54, 55, 56], []⟩
noncomputable def E215_6 (m : Nat) (ps : List Prm) (k : Kont (List Int)) : Option (List Int) :=
  match ps with
  | [.v (.int .i64 a10), .v (.int .i64 a11), .row (.int .i64) a12, .row (.int .i64) a13] => S.TopOf_l1 m (fun z31 z32 z33 => k (.exit 2) (⟨(vu 5 ((vl 0) :: (vl 1) :: (vi z31) :: (vu 49 []))), [], [⟨3, (.int .i64), z32, .own⟩, ⟨3, (.int .i64), z33, .own⟩]⟩ : St)) a10 a11 a12 a13
  | _ => none
noncomputable def S215_6 (a10 a11 : Int) (a12 a13 : List Int) : St := (⟨(vu 5 ((vl 0) :: (vl 1) :: (vi a10) :: (vi a11) :: (vu 48 []))), [], [⟨3, (.int .i64), a12, .own⟩, ⟨3, (.int .i64), a13, .own⟩]⟩ : St)
theorem ev215_6 (m : Nat) (k : Kont (List Int)) (a10 a11 : Int) (a12 a13 : List Int) : evC Try.prog G215 loopNil c215_6 (S215_6 a10 a11 a12 a13) (turn Try.prog (0, 0) H215_6 (E215_6 m) k) = E215_6 (m + 1) [.v (.int .i64 a10), .v (.int .i64 a11), .row (.int .i64) a12, .row (.int .i64) a13] k := by kernel_rfl
theorem ok215_6 (m : Nat) : LoopOk Try.prog (0, 0) c215_6 (enter Try.prog (0, 0) H215_6 (E215_6 m)) := by
  refine loop_ok (G := G215) (L := loopNil) envNil_good (by intro x hx; simp [show loopsOf c215_6 = [] from by kernel_rfl] at hx) (fun ps k => by unfold E215_6; split <;> rfl) (fun m ps k r h => ?_) m
  have h0 := h
  unfold E215_6 at h
  split at h
  · exact ⟨S215_6 _ _ _ _, by kernel_rfl, (ev215_6 m k _ _ _ _).trans h0⟩
  · cases h
noncomputable def L215_3 : LEnv (List Int) := (loopCons 6 (enter Try.prog (0, 0) H215_6 (E215_6 fu)) loopNil)
theorem lq215_3 : loopsOf c215_3 = [c215_6] := by kernel_rfl
theorem fr215_6 : firstReg c215_6 = some 6 := by kernel_rfl
theorem le215_6 : L215_3 6 = enter Try.prog (0, 0) H215_6 (E215_6 fu) := by kernel_rfl
theorem lm215_3 : ∀ x ∈ [c215_6], ∀ id, firstReg x = some id → LoopOk Try.prog (0, 0) x (L215_3 id) := (loops_cons fr215_6 le215_6 (ok215_6 fu) loops_nil)
theorem lp215_3 : ∀ x ∈ loopsOf c215_3, ∀ id, firstReg x = some id → LoopOk Try.prog (0, 0) x (L215_3 id) := loops_eq lq215_3 lm215_3
noncomputable def H215_3 : LoopH := ⟨⟨(hu 5 ((.one (.sl 0)) :: (.one (.sl 1)) :: (hu 50 []))), [], [(3, (.int .i64), .own), (3, (.int .i64), .own)]⟩, [0, 1, 2, 3, 4, 7, 8, 9, 10, 11, 12, 13, 14, 15, 16, 17, 18, 19, 20, 21, 22, 23, 24, 25, 26, 27, 28, 29, 30, 31, 32, 33, 34, 35, 36, 37, 38, 39, 40, 41, 42, 43, 44, 45, 46, 47, 48, 49, 50, 51, 52, 53, 54, 55, 56], [], [0, 1, 2, 3, 5, 7, 8, 9, 10, 11, 12, 13, 14, 15, 16, 17, 18, 19, 20, 21, 22, 23, 24, 25, 26, 27, 28, 29, 30, 31, 32, 33, 34, 35, 36, 37, 38, 39, 40, 41, 42, 43, 44, 45, 46, 47, 48, 49, 50, 51, 52, 53, 54, 55, 56], []⟩
noncomputable def E215_3 (m : Nat) (ps : List Prm) (k : Kont (List Int)) : Option (List Int) :=
  match ps with
  | [.row (.int .i64) a4, .row (.int .i64) a5] => S.TopOf_l0 m (fun z34 => k (.exit 0) (⟨(vu 6 ((vl 0) :: (vu 50 []))), [], [⟨3, (.int .i64), z34, .own⟩]⟩ : St)) a4 a5
  | _ => none
noncomputable def S215_3 (a4 a5 : List Int) : St := (⟨(vu 5 ((vl 0) :: (vl 1) :: (vu 50 []))), [], [⟨3, (.int .i64), a4, .own⟩, ⟨3, (.int .i64), a5, .own⟩]⟩ : St)
theorem ev215_3 (m : Nat) (k : Kont (List Int)) (a4 a5 : List Int) : evC Try.prog G215 L215_3 c215_3 (S215_3 a4 a5) (turn Try.prog (0, 0) H215_3 (E215_3 m) k) = E215_3 (m + 1) [.row (.int .i64) a4, .row (.int .i64) a5] k := by kernel_rfl
theorem ok215_3 (m : Nat) : LoopOk Try.prog (0, 0) c215_3 (enter Try.prog (0, 0) H215_3 (E215_3 m)) := by
  refine loop_ok (G := G215) (L := L215_3) envNil_good lp215_3 (fun ps k => by unfold E215_3; split <;> rfl) (fun m ps k r h => ?_) m
  have h0 := h
  unfold E215_3 at h
  split at h
  · exact ⟨S215_3 _ _, by kernel_rfl, (ev215_3 m k _ _).trans h0⟩
  · cases h
noncomputable def L215 : LEnv (List Int) := (loopCons 3 (enter Try.prog (0, 0) H215_3 (E215_3 fu)) loopNil)
theorem lq215 : loopsOf c215 = [c215_3] := by kernel_rfl
theorem fr215_3 : firstReg c215_3 = some 3 := by kernel_rfl
theorem le215_3 : L215 3 = enter Try.prog (0, 0) H215_3 (E215_3 fu) := by kernel_rfl
theorem lm215 : ∀ x ∈ [c215_3], ∀ id, firstReg x = some id → LoopOk Try.prog (0, 0) x (L215 id) := (loops_cons fr215_3 le215_3 (ok215_3 fu) loops_nil)
theorem lp215 : ∀ x ∈ loopsOf c215, ∀ id, firstReg x = some id → LoopOk Try.prog (0, 0) x (L215 id) := loops_eq lq215 lm215
noncomputable def R215 (x : List Int) : Res := ⟨[.one (.sl 0)], [], [⟨3, (.int .i64), x, .own⟩]⟩
noncomputable def K215 (r : Res) : Option (List Int) :=
  match r with
  | ⟨[.one (.sl 0)], [], [⟨3, (.int .i64), v1, .own⟩]⟩ => some (v1)
  | _ => none
noncomputable def E215 : Fun2 := fun args bs rs =>
  match args, bs, rs with
  | [.s1 (.one (.sl 0)), .s1 (.one (.sl 1))], [], [⟨3, (.int .i64), a1, .ro⟩, ⟨3, (.int .i64), a2, .ro⟩] => some ⟨List Int, S.TopOf a1 a2, R215⟩
  | _, _, _ => none
theorem ev215 (a1 a2 : List Int) : evF Try.prog G215 L215 (0, 0) [] Try.f215 c215 [vl 0, vl 1] [] [⟨3, (.int .i64), a1, .ro⟩, ⟨3, (.int .i64), a2, .ro⟩] K215 = S.TopOf a1 a2 := by kernel_rfl
theorem good215 : Vm.Good Try.prog 215 E215 := by
  refine evF_good (G := G215) (c := c215) envNil_good Try.func215 (by kernel_rfl) (by kernel_rfl) (0, 0) (fun args bs rs out t h h2 => ?_)
  unfold E215 at h
  split at h
  · injection h with h
    subst h
    exact ⟨rfl, [], L215, K215, lp215, (fun r t h => by unfold K215 at h; split at h; (injection h with h; subst h; rfl); cases h), (ev215 _ _).trans h2⟩
  · cases h
/-! ### S.l07Same -/
noncomputable def G214 : Env := envNil
noncomputable def c214 : Code := bodyOf Try.f214
noncomputable def c214_4 : Code := (loopsOf c214).getD 0 .skip
noncomputable def S.l07Same_l0 : Nat → (Bool → Option Bool) → (Option Bool) → Int → List Int → List Int → Option Bool
  | 0, _, _, _, _, _ => none
  | m + 1, e4_0, e4_1, a5, a6, a7 =>
    (bif (decide (a5 < (a6.length : Int))) then
    (bif decide ((0 : Int) ≤ a5 ∧ a5 < (a6.length : Int)) then
    (bif decide ((0 : Int) ≤ a5 ∧ a5 < (a7.length : Int)) then
    (bif ((nthI a6 a5 (0 : Int)) != (nthI a7 a5 (0 : Int))) then
    (e4_0 false)
    else
    (S.l07Same_l0 m e4_0 e4_1 (IntKind.wrap .i64 (a5 + 1)) a6 a7))
    else
    none)
    else
    none)
    else
    e4_1)
noncomputable def S.l07Same (a1 a2 : List Int) : Option Bool :=
(bif ((a1.length : Int) != (a2.length : Int)) then
(some false)
else
(S.l07Same_l0 fu (fun y12 =>
(some y12)) (some true) 0 a1 a2))
noncomputable def H214_4 : LoopH := ⟨⟨((.one (.sl 0)) :: (.one (.sl 1)) :: (hu 3 (hh :: (hu 20 [])))), [], [(3, (.int .i64), .ro), (3, (.int .i64), .ro)]⟩, [2, 3, 4, 6, 7, 8, 9, 10, 11, 12, 13, 14, 15, 16, 17, 18, 19, 20, 21, 22, 23, 24, 25], [], [0, 1, 2, 3, 5, 6, 7, 8, 9, 10, 11, 12, 13, 14, 15, 16, 17, 18, 19, 20, 21, 22, 23, 24, 25], []⟩
noncomputable def E214_4 (m : Nat) (ps : List Prm) (k : Kont Bool) : Option Bool :=
  match ps with
  | [.v (.int .i64 a5), .row (.int .i64) a6, .row (.int .i64) a7] => S.l07Same_l0 m (fun z14 => k .ret (⟨(vu 4 ((vb z14) :: (vu 21 []))), [], []⟩ : St)) (k (.exit 0) (⟨(vu 26 []), [], []⟩ : St)) a5 a6 a7
  | _ => none
noncomputable def S214_4 (a5 : Int) (a6 a7 : List Int) : St := (⟨((vl 0) :: (vl 1) :: (vu 3 ((vi a5) :: (vu 20 [])))), [], [⟨3, (.int .i64), a6, .ro⟩, ⟨3, (.int .i64), a7, .ro⟩]⟩ : St)
theorem ev214_4 (m : Nat) (k : Kont Bool) (a5 : Int) (a6 a7 : List Int) : evC Try.prog G214 loopNil c214_4 (S214_4 a5 a6 a7) (turn Try.prog (0, 0) H214_4 (E214_4 m) k) = E214_4 (m + 1) [.v (.int .i64 a5), .row (.int .i64) a6, .row (.int .i64) a7] k := by kernel_rfl
theorem ok214_4 (m : Nat) : LoopOk Try.prog (0, 0) c214_4 (enter Try.prog (0, 0) H214_4 (E214_4 m)) := by
  refine loop_ok (G := G214) (L := loopNil) envNil_good (by intro x hx; simp [show loopsOf c214_4 = [] from by kernel_rfl] at hx) (fun ps k => by unfold E214_4; split <;> rfl) (fun m ps k r h => ?_) m
  have h0 := h
  unfold E214_4 at h
  split at h
  · exact ⟨S214_4 _ _ _, by kernel_rfl, (ev214_4 m k _ _ _).trans h0⟩
  · cases h
noncomputable def L214 : LEnv Bool := (loopCons 4 (enter Try.prog (0, 0) H214_4 (E214_4 fu)) loopNil)
theorem lq214 : loopsOf c214 = [c214_4] := by kernel_rfl
theorem fr214_4 : firstReg c214_4 = some 4 := by kernel_rfl
theorem le214_4 : L214 4 = enter Try.prog (0, 0) H214_4 (E214_4 fu) := by kernel_rfl
theorem lm214 : ∀ x ∈ [c214_4], ∀ id, firstReg x = some id → LoopOk Try.prog (0, 0) x (L214 id) := (loops_cons fr214_4 le214_4 (ok214_4 fu) loops_nil)
theorem lp214 : ∀ x ∈ loopsOf c214, ∀ id, firstReg x = some id → LoopOk Try.prog (0, 0) x (L214 id) := loops_eq lq214 lm214
noncomputable def R214 (x : Bool) : Res := ⟨[.one (ab x)], [], []⟩
noncomputable def K214 (r : Res) : Option Bool :=
  match r with
  | ⟨[.one (.val (.bool v1))], [], []⟩ => some (v1)
  | _ => none
noncomputable def E214 : Fun2 := fun args bs rs =>
  match args, bs, rs with
  | [.s1 (.one (.sl 0)), .s1 (.one (.sl 1))], [], [⟨3, (.int .i64), a1, .ro⟩, ⟨3, (.int .i64), a2, .ro⟩] => some ⟨Bool, S.l07Same a1 a2, R214⟩
  | _, _, _ => none
theorem ev214 (a1 a2 : List Int) : evF Try.prog G214 L214 (0, 0) [] Try.f214 c214 [vl 0, vl 1] [] [⟨3, (.int .i64), a1, .ro⟩, ⟨3, (.int .i64), a2, .ro⟩] K214 = S.l07Same a1 a2 := by kernel_rfl
theorem good214 : Vm.Good Try.prog 214 E214 := by
  refine evF_good (G := G214) (c := c214) envNil_good Try.func214 (by kernel_rfl) (by kernel_rfl) (0, 0) (fun args bs rs out t h h2 => ?_)
  unfold E214 at h
  split at h
  · injection h with h
    subst h
    exact ⟨rfl, [], L214, K214, lp214, (fun r t h => by unfold K214 at h; split at h; (injection h with h; subst h; rfl); cases h), (ev214 _ _).trans h2⟩
  · cases h
/-! ### S.WideOf -/
noncomputable def G217 : Env := envNil
noncomputable def c217 : Code := bodyOf Try.f217
noncomputable def S.WideOf (a1 : Int) : Option (Int × Int) :=
(bif (decide (a1 < 0)) then
(some ((-1), (IntKind.wrap .u64 a1)))
else
(some (0, (IntKind.wrap .u64 a1))))
noncomputable def R217 (x : Int × Int) : Res := ⟨[.agg [ai x.1, ak .u64 x.2]], [], []⟩
noncomputable def K217 (r : Res) : Option (Int × Int) :=
  match r with
  | ⟨[.agg [.val (.int .i64 v1), .val (.int .u64 v2)]], [], []⟩ => some (v1, v2)
  | _ => none
noncomputable def E217 : Fun2 := fun args bs rs =>
  match args, bs, rs with
  | [.s1 (.one (.val (.int .i64 a1)))], [], [] => some ⟨Int × Int, S.WideOf a1, R217⟩
  | _, _, _ => none
theorem ev217 (a1 : Int) : evF Try.prog G217 loopNil (0, 0) [] Try.f217 c217 [vi a1] [] [] K217 = S.WideOf a1 := by kernel_rfl
theorem good217 : Vm.Good Try.prog 217 E217 := by
  refine evF_good (G := G217) (c := c217) envNil_good Try.func217 (by kernel_rfl) (by kernel_rfl) (0, 0) (fun args bs rs out t h h2 => ?_)
  unfold E217 at h
  split at h
  · injection h with h
    subst h
    exact ⟨rfl, [], loopNil, K217, (by intro x hx; simp [show loopsOf c217 = [] from by kernel_rfl] at hx), (fun r t h => by unfold K217 at h; split at h; (injection h with h; subst h; rfl); cases h), (ev217 _).trans h2⟩
  · cases h
/-! ### S.WideAdd -/
noncomputable def G216 : Env := envNil
noncomputable def c216 : Code := bodyOf Try.f216
noncomputable def S.WideAdd (a1 a2 a3 a4 : Int) : Option (Int × Int) :=
(let v5 : Int := (IntKind.wrap .u64 (a2 + a4))
(let v8 : Int := (IntKind.wrap .u64 ((IntKind.wrap .u64 a1) + (IntKind.wrap .u64 a3)))
(bif (decide (v5 < a2)) then
(some ((IntKind.wrap .i64 (IntKind.wrap .u64 (v8 + 1))), v5))
else
(some ((IntKind.wrap .i64 v8), v5)))))
noncomputable def R216 (x : Int × Int) : Res := ⟨[.agg [ai x.1, ak .u64 x.2]], [], []⟩
noncomputable def K216 (r : Res) : Option (Int × Int) :=
  match r with
  | ⟨[.agg [.val (.int .i64 v1), .val (.int .u64 v2)]], [], []⟩ => some (v1, v2)
  | _ => none
noncomputable def E216 : Fun2 := fun args bs rs =>
  match args, bs, rs with
  | [.s1 (.agg [.val (.int .i64 a1), .val (.int .u64 a2)]), .s1 (.agg [.val (.int .i64 a3), .val (.int .u64 a4)])], [], [] => some ⟨Int × Int, S.WideAdd a1 a2 a3 a4, R216⟩
  | _, _, _ => none
theorem ev216 (a1 a2 a3 a4 : Int) : evF Try.prog G216 loopNil (0, 0) [] Try.f216 c216 [.s1 (.agg [ai a1, ak .u64 a2]), .s1 (.agg [ai a3, ak .u64 a4])] [] [] K216 = S.WideAdd a1 a2 a3 a4 := by kernel_rfl
theorem good216 : Vm.Good Try.prog 216 E216 := by
  refine evF_good (G := G216) (c := c216) envNil_good Try.func216 (by kernel_rfl) (by kernel_rfl) (0, 0) (fun args bs rs out t h h2 => ?_)
  unfold E216 at h
  split at h
  · injection h with h
    subst h
    exact ⟨rfl, [], loopNil, K216, (by intro x hx; simp [show loopsOf c216 = [] from by kernel_rfl] at hx), (fun r t h => by unfold K216 at h; split at h; (injection h with h; subst h; rfl); cases h), (ev216 _ _ _ _).trans h2⟩
  · cases h
/-! ### S.WideNeg -/
noncomputable def G247 : Env := (envCons 216 [] E216 envNil)
noncomputable def c247 : Code := bodyOf Try.f247
noncomputable def S.WideNeg (a1 a2 : Int) : Option (Int × Int) :=
(Option.bind (S.WideAdd (IntKind.wrap .i64 ((-1) - a1)) (IntKind.wrap .u64 (18446744073709551615 - a2)) 0 1) fun r5 =>
(some (r5.1, r5.2)))
noncomputable def R247 (x : Int × Int) : Res := ⟨[.agg [ai x.1, ak .u64 x.2]], [], []⟩
noncomputable def K247 (r : Res) : Option (Int × Int) :=
  match r with
  | ⟨[.agg [.val (.int .i64 v1), .val (.int .u64 v2)]], [], []⟩ => some (v1, v2)
  | _ => none
noncomputable def E247 : Fun2 := fun args bs rs =>
  match args, bs, rs with
  | [.s1 (.agg [.val (.int .i64 a1), .val (.int .u64 a2)])], [], [] => some ⟨Int × Int, S.WideNeg a1 a2, R247⟩
  | _, _, _ => none
theorem ev247 (a1 a2 : Int) : evF Try.prog G247 loopNil (0, 0) [] Try.f247 c247 [.s1 (.agg [ai a1, ak .u64 a2])] [] [] K247 = S.WideNeg a1 a2 := by kernel_rfl
theorem good247 : Vm.Good Try.prog 247 E247 := by
  refine evF_good (G := G247) (c := c247) (envCons_good good216 envNil_good) Try.func247 (by kernel_rfl) (by kernel_rfl) (0, 0) (fun args bs rs out t h h2 => ?_)
  unfold E247 at h
  split at h
  · injection h with h
    subst h
    exact ⟨rfl, [], loopNil, K247, (by intro x hx; simp [show loopsOf c247 = [] from by kernel_rfl] at hx), (fun r t h => by unfold K247 at h; split at h; (injection h with h; subst h; rfl); cases h), (ev247 _ _).trans h2⟩
  · cases h
/-! ### S.l03Times -/
noncomputable def G243 : Env := (envCons 217 [] E217 (envCons 247 [] E247 (envCons 216 [] E216 envNil)))
noncomputable def c243 : Code := bodyOf Try.f243
noncomputable def c243_7 : Code := (loopsOf c243).getD 0 .skip
noncomputable def S.l03Times_l0 : Nat → (Int → Int → Int → Int → Option (Int × Int)) → Int → Int → Int → Int → Int → Int → Int → Option (Int × Int)
  | 0, _, _, _, _, _, _, _, _ => none
  | m + 1, e7_0, a8, a9, a10, a11, a12, a13, a14 =>
    (bif (decide (0 < a8)) then
    (bif decide (2 = 0) then
    none
    else
    (bif ((Int.tmod a8 2) == 1) then
    (Option.bind (S.WideAdd a11 a12 a13 a14) fun r17 =>
    (Option.bind (S.WideAdd a13 a14 a13 a14) fun r18 =>
    (bif decide (2 = 0) then
    none
    else
    (S.l03Times_l0 m e7_0 (IntKind.wrap .u64 (Int.tdiv a8 2)) a9 a10 r17.1 r17.2 r18.1 r18.2))))
    else
    (Option.bind (S.WideAdd a13 a14 a13 a14) fun r20 =>
    (bif decide (2 = 0) then
    none
    else
    (S.l03Times_l0 m e7_0 (IntKind.wrap .u64 (Int.tdiv a8 2)) a9 a10 a11 a12 r20.1 r20.2)))))
    else
    (e7_0 a9 a10 a11 a12))
noncomputable def S.l03Times (a1 a2 : Int) : Option (Int × Int) :=
(Option.bind (S.WideOf a1) fun r3 =>
(let v4 : Int := (IntKind.wrap .u64 a2)
(bif (decide (a2 < 0)) then
(Option.bind (S.WideNeg r3.1 r3.2) fun r6 =>
(S.l03Times_l0 fu (fun y22 y23 y24 y25 =>
(some (y24, y25))) (IntKind.wrap .u64 (0 - v4)) 0 0 0 0 r6.1 r6.2))
else
(S.l03Times_l0 fu (fun y26 y27 y28 y29 =>
(some (y28, y29))) v4 0 0 0 0 r3.1 r3.2))))
noncomputable def H243_7 : LoopH := ⟨⟨(hu 4 ((.one (.ptr 0 0)) :: (.one (.ptr 1 0)) :: (.one (.ptr 2 0)) :: hh :: (hu 25 []))), [(133, [.hole, .hole]), (133, [.hole, .hole]), (133, [.hole, .hole])], []⟩, [0, 1, 2, 3, 8, 9, 10, 11, 12, 13, 14, 15, 16, 17, 18, 19, 20, 21, 22, 23, 24, 25, 26, 27, 28, 29, 30, 31, 32], [], [0, 1, 2, 3, 6, 7, 8, 9, 10, 11, 12, 13, 14, 15, 16, 17, 18, 19, 20, 21, 22, 23, 24, 25, 26, 27, 28, 29, 30, 31, 32], []⟩
noncomputable def E243_7 (m : Nat) (ps : List Prm) (k : Kont (Int × Int)) : Option (Int × Int) :=
  match ps with
  | [.v (.int .u64 a8), .v (.int .i64 a9), .v (.int .u64 a10), .v (.int .i64 a11), .v (.int .u64 a12), .v (.int .i64 a13), .v (.int .u64 a14)] => S.l03Times_l0 m (fun z34 z35 z36 z37 => k (.exit 0) (⟨(vu 4 ((vp 0 0) :: (vp 1 0) :: (vu 27 []))), [(133, [ai z34, ak .u64 z35]), (133, [ai z36, ak .u64 z37])], []⟩ : St)) a8 a9 a10 a11 a12 a13 a14
  | _ => none
noncomputable def S243_7 (a8 a9 a10 a11 a12 a13 a14 : Int) : St := (⟨(vu 4 ((vp 0 0) :: (vp 1 0) :: (vp 2 0) :: (vk .u64 a8) :: (vu 25 []))), [(133, [ai a9, ak .u64 a10]), (133, [ai a11, ak .u64 a12]), (133, [ai a13, ak .u64 a14])], []⟩ : St)
theorem ev243_7 (m : Nat) (k : Kont (Int × Int)) (a8 a9 a10 a11 a12 a13 a14 : Int) : evC Try.prog G243 loopNil c243_7 (S243_7 a8 a9 a10 a11 a12 a13 a14) (turn Try.prog (0, 0) H243_7 (E243_7 m) k) = E243_7 (m + 1) [.v (.int .u64 a8), .v (.int .i64 a9), .v (.int .u64 a10), .v (.int .i64 a11), .v (.int .u64 a12), .v (.int .i64 a13), .v (.int .u64 a14)] k := by kernel_rfl
theorem ok243_7 (m : Nat) : LoopOk Try.prog (0, 0) c243_7 (enter Try.prog (0, 0) H243_7 (E243_7 m)) := by
  refine loop_ok (G := G243) (L := loopNil) (envCons_good good217 (envCons_good good247 (envCons_good good216 envNil_good))) (by intro x hx; simp [show loopsOf c243_7 = [] from by kernel_rfl] at hx) (fun ps k => by unfold E243_7; split <;> rfl) (fun m ps k r h => ?_) m
  have h0 := h
  unfold E243_7 at h
  split at h
  · exact ⟨S243_7 _ _ _ _ _ _ _, by kernel_rfl, (ev243_7 m k _ _ _ _ _ _ _).trans h0⟩
  · cases h
noncomputable def L243 : LEnv (Int × Int) := (loopCons 7 (enter Try.prog (0, 0) H243_7 (E243_7 fu)) loopNil)
theorem lq243 : loopsOf c243 = [c243_7] := by kernel_rfl
theorem fr243_7 : firstReg c243_7 = some 7 := by kernel_rfl
theorem le243_7 : L243 7 = enter Try.prog (0, 0) H243_7 (E243_7 fu) := by kernel_rfl
theorem lm243 : ∀ x ∈ [c243_7], ∀ id, firstReg x = some id → LoopOk Try.prog (0, 0) x (L243 id) := (loops_cons fr243_7 le243_7 (ok243_7 fu) loops_nil)
theorem lp243 : ∀ x ∈ loopsOf c243, ∀ id, firstReg x = some id → LoopOk Try.prog (0, 0) x (L243 id) := loops_eq lq243 lm243
noncomputable def R243 (x : Int × Int) : Res := ⟨[.agg [ai x.1, ak .u64 x.2]], [], []⟩
noncomputable def K243 (r : Res) : Option (Int × Int) :=
  match r with
  | ⟨[.agg [.val (.int .i64 v1), .val (.int .u64 v2)]], [], []⟩ => some (v1, v2)
  | _ => none
noncomputable def E243 : Fun2 := fun args bs rs =>
  match args, bs, rs with
  | [.s1 (.one (.val (.int .i64 a1))), .s1 (.one (.val (.int .i64 a2)))], [], [] => some ⟨Int × Int, S.l03Times a1 a2, R243⟩
  | _, _, _ => none
theorem ev243 (a1 a2 : Int) : evF Try.prog G243 L243 (0, 0) [] Try.f243 c243 [vi a1, vi a2] [] [] K243 = S.l03Times a1 a2 := by kernel_rfl
theorem good243 : Vm.Good Try.prog 243 E243 := by
  refine evF_good (G := G243) (c := c243) (envCons_good good217 (envCons_good good247 (envCons_good good216 envNil_good))) Try.func243 (by kernel_rfl) (by kernel_rfl) (0, 0) (fun args bs rs out t h h2 => ?_)
  unfold E243 at h
  split at h
  · injection h with h
    subst h
    exact ⟨rfl, [], L243, K243, lp243, (fun r t h => by unfold K243 at h; split at h; (injection h with h; subst h; rfl); cases h), (ev243 _ _).trans h2⟩
  · cases h
/-! ### S.l07Times -/
noncomputable def G218 : Env := (envCons 243 [] E243 envNil)
noncomputable def c218 : Code := bodyOf Try.f218
noncomputable def S.l07Times (a1 a2 : Int) : Option (Int × Int) :=
(Option.bind (S.l03Times a1 a2) fun r3 =>
(some (r3.1, r3.2)))
noncomputable def R218 (x : Int × Int) : Res := ⟨[.agg [ai x.1, ak .u64 x.2]], [], []⟩
noncomputable def K218 (r : Res) : Option (Int × Int) :=
  match r with
  | ⟨[.agg [.val (.int .i64 v1), .val (.int .u64 v2)]], [], []⟩ => some (v1, v2)
  | _ => none
noncomputable def E218 : Fun2 := fun args bs rs =>
  match args, bs, rs with
  | [.s1 (.one (.val (.int .i64 a1))), .s1 (.one (.val (.int .i64 a2)))], [], [] => some ⟨Int × Int, S.l07Times a1 a2, R218⟩
  | _, _, _ => none
theorem ev218 (a1 a2 : Int) : evF Try.prog G218 loopNil (0, 0) [] Try.f218 c218 [vi a1, vi a2] [] [] K218 = S.l07Times a1 a2 := by kernel_rfl
theorem good218 : Vm.Good Try.prog 218 E218 := by
  refine evF_good (G := G218) (c := c218) (envCons_good good243 envNil_good) Try.func218 (by kernel_rfl) (by kernel_rfl) (0, 0) (fun args bs rs out t h h2 => ?_)
  unfold E218 at h
  split at h
  · injection h with h
    subst h
    exact ⟨rfl, [], loopNil, K218, (by intro x hx; simp [show loopsOf c218 = [] from by kernel_rfl] at hx), (fun r t h => by unfold K218 at h; split at h; (injection h with h; subst h; rfl); cases h), (ev218 _ _).trans h2⟩
  · cases h
/-! ### S.WideCmp -/
noncomputable def G219 : Env := envNil
noncomputable def c219 : Code := bodyOf Try.f219
noncomputable def S.WideCmp (a1 a2 a3 a4 : Int) : Option Int :=
(bif (a1 != a3) then
(bif (decide (a1 < a3)) then
(some (-1))
else
(some 1))
else
(bif (a2 != a4) then
(bif (decide (a2 < a4)) then
(some (-1))
else
(some 1))
else
(some 0)))
noncomputable def R219 (x : Int) : Res := ⟨[.one (ai x)], [], []⟩
noncomputable def K219 (r : Res) : Option Int :=
  match r with
  | ⟨[.one (.val (.int .i64 v1))], [], []⟩ => some (v1)
  | _ => none
noncomputable def E219 : Fun2 := fun args bs rs =>
  match args, bs, rs with
  | [.s1 (.agg [.val (.int .i64 a1), .val (.int .u64 a2)]), .s1 (.agg [.val (.int .i64 a3), .val (.int .u64 a4)])], [], [] => some ⟨Int, S.WideCmp a1 a2 a3 a4, R219⟩
  | _, _, _ => none
theorem ev219 (a1 a2 a3 a4 : Int) : evF Try.prog G219 loopNil (0, 0) [] Try.f219 c219 [.s1 (.agg [ai a1, ak .u64 a2]), .s1 (.agg [ai a3, ak .u64 a4])] [] [] K219 = S.WideCmp a1 a2 a3 a4 := by kernel_rfl
theorem good219 : Vm.Good Try.prog 219 E219 := by
  refine evF_good (G := G219) (c := c219) envNil_good Try.func219 (by kernel_rfl) (by kernel_rfl) (0, 0) (fun args bs rs out t h h2 => ?_)
  unfold E219 at h
  split at h
  · injection h with h
    subst h
    exact ⟨rfl, [], loopNil, K219, (by intro x hx; simp [show loopsOf c219 = [] from by kernel_rfl] at hx), (fun r t h => by unfold K219 at h; split at h; (injection h with h; subst h; rfl); cases h), (ev219 _ _ _ _).trans h2⟩
  · cases h
/-! ### S.AggOk -/
noncomputable def G160 : Env := (envCons 215 [] E215 (envCons 214 [] E214 (envCons 217 [] E217 (envCons 216 [] E216 (envCons 218 [] E218 (envCons 219 [] E219 envNil))))))
noncomputable def c160 : Code := bodyOf Try.f160
noncomputable def c160_9 : Code := (loopsOf c160).getD 0 .skip
noncomputable def S.AggOk_l0 : Nat → (Int → Int → Int → Int → Int → Int → Int → List Int → Option Bool) → Int → Int → Int → Int → Int → Int → Int → Int → List Int → Option Bool
  | 0, _, _, _, _, _, _, _, _, _, _ => none
  | m + 1, e9_0, a18, a19, a20, a21, a22, a23, a24, a25, a26 =>
    (bif (decide (a18 < (a26.length : Int))) then
    (bif decide ((0 : Int) ≤ a18 ∧ a18 < (a26.length : Int)) then
    (Option.bind (S.WideOf (nthI a26 a18 (0 : Int))) fun r29 =>
    (Option.bind (S.WideAdd a24 a25 r29.1 r29.2) fun r30 =>
    (S.AggOk_l0 m e9_0 (IntKind.wrap .i64 (a18 + 1)) a19 a20 a21 a22 a23 r30.1 r30.2 a26)))
    else
    none)
    else
    (e9_0 a19 a20 a21 a22 a23 a24 a25 a26))
noncomputable def S.AggOk (a1 a2 a3 a4 a5 : Int) (a6 : List Int) : Option Bool :=
(bif (decide (a1 < 0)) then
(some false)
else
(bif (decide (1000000 < a1)) then
(some false)
else
(bif ((a6.length : Int) != (if 4 < a1 then 4 else a1)) then
(some false)
else
(bif (a1 == 0) then
(bif ((a2 == 0) && ((a3 == 0) && true)) then
(bif (a4 == 0) then
(some (a5 == 0))
else
(some false))
else
(some false))
else
(Option.bind (S.TopOf a6 []) fun r12 =>
(Option.bind (S.l07Same r12 a6) fun r13 =>
(bif (!r13) then
(some false)
else
(bif decide ((0 : Int) ≤ 0 ∧ 0 < (a6.length : Int)) then
(bif ((nthI a6 0 (0 : Int)) != a5) then
(some false)
else
(let v16 : Int := (IntKind.wrap .i64 ((a6.length : Int) - 1))
(bif decide ((0 : Int) ≤ v16 ∧ v16 < (a6.length : Int)) then
(bif (decide ((nthI a6 v16 (0 : Int)) < a4)) then
(some false)
else
(S.AggOk_l0 fu (fun y32 y33 y34 y35 y36 y37 y38 y39 =>
(let v41 : Int := (IntKind.wrap .i64 (y32 - (y39.length : Int)))
(bif (v41 == 0) then
(let v43 : Int := (IntKind.wrap .i64 ((y39.length : Int) - 1))
(bif decide ((0 : Int) ≤ v43 ∧ v43 < (y39.length : Int)) then
(bif (y35 == (nthI y39 v43 (0 : Int))) then
(some ((y33 == y37) && ((y34 == y38) && true)))
else
(some false))
else
none))
else
(same (Option.bind (S.l07Times v41 y35) fun r46 =>
(dup (Option.bind (S.WideAdd y37 y38 r46.1 r46.2) fun r47 =>
(let v48 : Int := (IntKind.wrap .i64 (v41 - 1))
(bif decide ((0 : Int) ≤ 3 ∧ 3 < (y39.length : Int)) then
(same (Option.bind (S.WideOf y35) fun r49 =>
(same (Option.bind (S.WideAdd y37 y38 r49.1 r49.2) fun r50 =>
(same (Option.bind (S.l07Times v48 (nthI y39 3 (0 : Int))) fun r51 =>
(dup (Option.bind (S.WideAdd r50.1 r50.2 r51.1 r51.2) fun r52 =>
(Option.bind (S.WideCmp y33 y34 r47.1 r47.2) fun r53 =>
(bif (decide (0 ≤ r53)) then
(Option.bind (S.WideCmp y33 y34 r52.1 r52.2) fun r55 =>
(some (decide (r55 ≤ 0))))
else
(some false))))))
(Option.bind (S.l07Times v48 (nthI y39 3 (0 : Int))) fun r51 =>
(Option.bind (S.WideAdd r50.1 r50.2 r51.1 r51.2) fun r52 =>
(Option.bind (S.WideCmp y33 y34 r47.1 r47.2) fun r53 =>
(bif (decide (0 ≤ r53)) then
(Option.bind (S.WideCmp y33 y34 r52.1 r52.2) fun r55 =>
(some (decide (r55 ≤ 0))))
else
(some false)))))))
(Option.bind (S.WideAdd y37 y38 r49.1 r49.2) fun r50 =>
(Option.bind (S.l07Times v48 (nthI y39 3 (0 : Int))) fun r51 =>
(Option.bind (S.WideAdd r50.1 r50.2 r51.1 r51.2) fun r52 =>
(Option.bind (S.WideCmp y33 y34 r47.1 r47.2) fun r53 =>
(bif (decide (0 ≤ r53)) then
(Option.bind (S.WideCmp y33 y34 r52.1 r52.2) fun r55 =>
(some (decide (r55 ≤ 0))))
else
(some false))))))))
(Option.bind (S.WideOf y35) fun r49 =>
(Option.bind (S.WideAdd y37 y38 r49.1 r49.2) fun r50 =>
(Option.bind (S.l07Times v48 (nthI y39 3 (0 : Int))) fun r51 =>
(Option.bind (S.WideAdd r50.1 r50.2 r51.1 r51.2) fun r52 =>
(Option.bind (S.WideCmp y33 y34 r47.1 r47.2) fun r53 =>
(bif (decide (0 ≤ r53)) then
(Option.bind (S.WideCmp y33 y34 r52.1 r52.2) fun r55 =>
(some (decide (r55 ≤ 0))))
else
(some false))))))))
else
none)))))
(Option.bind (S.l07Times v41 y35) fun r46 =>
(Option.bind (S.WideAdd y37 y38 r46.1 r46.2) fun r47 =>
(let v48 : Int := (IntKind.wrap .i64 (v41 - 1))
(bif decide ((0 : Int) ≤ 3 ∧ 3 < (y39.length : Int)) then
(same (Option.bind (S.WideOf y35) fun r49 =>
(same (Option.bind (S.WideAdd y37 y38 r49.1 r49.2) fun r50 =>
(same (Option.bind (S.l07Times v48 (nthI y39 3 (0 : Int))) fun r51 =>
(dup (Option.bind (S.WideAdd r50.1 r50.2 r51.1 r51.2) fun r52 =>
(Option.bind (S.WideCmp y33 y34 r47.1 r47.2) fun r53 =>
(bif (decide (0 ≤ r53)) then
(Option.bind (S.WideCmp y33 y34 r52.1 r52.2) fun r55 =>
(some (decide (r55 ≤ 0))))
else
(some false))))))
(Option.bind (S.l07Times v48 (nthI y39 3 (0 : Int))) fun r51 =>
(Option.bind (S.WideAdd r50.1 r50.2 r51.1 r51.2) fun r52 =>
(Option.bind (S.WideCmp y33 y34 r47.1 r47.2) fun r53 =>
(bif (decide (0 ≤ r53)) then
(Option.bind (S.WideCmp y33 y34 r52.1 r52.2) fun r55 =>
(some (decide (r55 ≤ 0))))
else
(some false)))))))
(Option.bind (S.WideAdd y37 y38 r49.1 r49.2) fun r50 =>
(Option.bind (S.l07Times v48 (nthI y39 3 (0 : Int))) fun r51 =>
(Option.bind (S.WideAdd r50.1 r50.2 r51.1 r51.2) fun r52 =>
(Option.bind (S.WideCmp y33 y34 r47.1 r47.2) fun r53 =>
(bif (decide (0 ≤ r53)) then
(Option.bind (S.WideCmp y33 y34 r52.1 r52.2) fun r55 =>
(some (decide (r55 ≤ 0))))
else
(some false))))))))
(Option.bind (S.WideOf y35) fun r49 =>
(Option.bind (S.WideAdd y37 y38 r49.1 r49.2) fun r50 =>
(Option.bind (S.l07Times v48 (nthI y39 3 (0 : Int))) fun r51 =>
(Option.bind (S.WideAdd r50.1 r50.2 r51.1 r51.2) fun r52 =>
(Option.bind (S.WideCmp y33 y34 r47.1 r47.2) fun r53 =>
(bif (decide (0 ≤ r53)) then
(Option.bind (S.WideCmp y33 y34 r52.1 r52.2) fun r55 =>
(some (decide (r55 ≤ 0))))
else
(some false))))))))
else
none)))))))) 0 a1 a2 a3 a4 a5 0 0 a6))
else
none)))
else
none))))))))
noncomputable def H160_9 : LoopH := ⟨⟨((.one (.unk)) :: (.one (.ptr 0 0)) :: (.one (.unk)) :: (.one (.ptr 1 0)) :: hh :: (hu 138 [])), [(135, [.hole, .hole, .hole, .hole, .hole, .sl 0]), (133, [.hole, .hole])], [(3, (.int .i64), .ro)]⟩, [0, 2, 5, 6, 7, 8, 9, 10, 11, 12, 13, 14, 15, 16, 17, 18, 19, 20, 21, 22, 23, 24, 25, 26, 27, 28, 29, 30, 31, 32, 33, 34, 35, 36, 37, 38, 39, 40, 41, 42, 43, 44, 45, 46, 47, 48, 49, 50, 51, 52, 53, 54, 55, 56, 57, 58, 59, 60, 61, 62, 63, 64, 65, 66, 67, 68, 69, 70, 71, 72, 73, 74, 75, 76, 77, 78, 79, 80, 81, 82, 83, 84, 85, 86, 87, 88, 89, 90, 91, 92, 93, 94, 95, 96, 97, 98, 99, 100, 101, 102, 103, 104, 105, 106, 107, 108, 109, 110, 111, 112, 113, 114, 115, 116, 117, 118, 119, 120, 121, 122, 123, 124, 125, 126, 127, 128, 129, 130, 131, 132, 133, 134, 135, 136, 137, 138, 139, 140, 141, 142], [], [0, 4, 5, 6, 7, 8, 9, 10, 11, 12, 13, 14, 15, 16, 17, 18, 19, 20, 21, 22, 23, 24, 25, 26, 27, 28, 29, 30, 31, 32, 33, 34, 35, 36, 37, 38, 39, 40, 41, 42, 43, 44, 45, 46, 47, 48, 49, 50, 51, 52, 53, 54, 55, 56, 57, 58, 59, 60, 61, 62, 63, 64, 65, 66, 67, 68, 69, 70, 71, 72, 73, 74, 75, 76, 77, 78, 79, 80, 81, 82, 83, 84, 85, 86, 87, 88, 89, 90, 91, 92, 93, 94, 95, 96, 97, 98, 99, 100, 101, 102, 103, 104, 105, 106, 107, 108, 109, 110, 111, 112, 113, 114, 115, 116, 117, 118, 119, 120, 121, 122, 123, 124, 125, 126, 127, 128, 129, 130, 131, 132, 133, 134, 135, 136, 137, 138, 139, 140, 141, 142], []⟩
noncomputable def E160_9 (m : Nat) (ps : List Prm) (k : Kont Bool) : Option Bool :=
  match ps with
  | [.v (.int .i64 a18), .v (.int .i64 a19), .v (.int .i64 a20), .v (.int .u64 a21), .v (.int .i64 a22), .v (.int .i64 a23), .v (.int .i64 a24), .v (.int .u64 a25), .row (.int .i64) a26] => S.AggOk_l0 m (fun z65 z66 z67 z68 z69 z70 z71 z72 => k (.exit 0) (⟨((.s1 (.one (.unk))) :: (vp 0 0) :: (.s1 (.one (.unk))) :: (vp 1 0) :: (vu 139 [])), [(135, [ai z65, ai z66, ak .u64 z67, ai z68, ai z69, .sl 0]), (133, [ai z70, ak .u64 z71])], [⟨3, (.int .i64), z72, .ro⟩]⟩ : St)) a18 a19 a20 a21 a22 a23 a24 a25 a26
  | _ => none
noncomputable def S160_9 (a18 a19 a20 a21 a22 a23 a24 a25 : Int) (a26 : List Int) : St := (⟨((.s1 (.one (.unk))) :: (vp 0 0) :: (.s1 (.one (.unk))) :: (vp 1 0) :: (vi a18) :: (vu 138 [])), [(135, [ai a19, ai a20, ak .u64 a21, ai a22, ai a23, .sl 0]), (133, [ai a24, ak .u64 a25])], [⟨3, (.int .i64), a26, .ro⟩]⟩ : St)
theorem ev160_9 (m : Nat) (k : Kont Bool) (a18 a19 a20 a21 a22 a23 a24 a25 : Int) (a26 : List Int) : evC Try.prog G160 loopNil c160_9 (S160_9 a18 a19 a20 a21 a22 a23 a24 a25 a26) (turn Try.prog (0, 0) H160_9 (E160_9 m) k) = E160_9 (m + 1) [.v (.int .i64 a18), .v (.int .i64 a19), .v (.int .i64 a20), .v (.int .u64 a21), .v (.int .i64 a22), .v (.int .i64 a23), .v (.int .i64 a24), .v (.int .u64 a25), .row (.int .i64) a26] k := by kernel_rfl
theorem ok160_9 (m : Nat) : LoopOk Try.prog (0, 0) c160_9 (enter Try.prog (0, 0) H160_9 (E160_9 m)) := by
  refine loop_ok (G := G160) (L := loopNil) (envCons_good good215 (envCons_good good214 (envCons_good good217 (envCons_good good216 (envCons_good good218 (envCons_good good219 envNil_good)))))) (by intro x hx; simp [show loopsOf c160_9 = [] from by kernel_rfl] at hx) (fun ps k => by unfold E160_9; split <;> rfl) (fun m ps k r h => ?_) m
  have h0 := h
  unfold E160_9 at h
  split at h
  · exact ⟨S160_9 _ _ _ _ _ _ _ _ _, by kernel_rfl, (ev160_9 m k _ _ _ _ _ _ _ _ _).trans h0⟩
  · cases h
noncomputable def L160 : LEnv Bool := (loopCons 9 (enter Try.prog (0, 0) H160_9 (E160_9 fu)) loopNil)
theorem lq160 : loopsOf c160 = [c160_9] := by kernel_rfl
theorem fr160_9 : firstReg c160_9 = some 9 := by kernel_rfl
theorem le160_9 : L160 9 = enter Try.prog (0, 0) H160_9 (E160_9 fu) := by kernel_rfl
theorem lm160 : ∀ x ∈ [c160_9], ∀ id, firstReg x = some id → LoopOk Try.prog (0, 0) x (L160 id) := (loops_cons fr160_9 le160_9 (ok160_9 fu) loops_nil)
theorem lp160 : ∀ x ∈ loopsOf c160, ∀ id, firstReg x = some id → LoopOk Try.prog (0, 0) x (L160 id) := loops_eq lq160 lm160
noncomputable def R160 (x : Bool) : Res := ⟨[.one (ab x)], [], []⟩
noncomputable def K160 (r : Res) : Option Bool :=
  match r with
  | ⟨[.one (.val (.bool v1))], [], []⟩ => some (v1)
  | _ => none
noncomputable def E160 : Fun2 := fun args bs rs =>
  match args, bs, rs with
  | [.s1 (.agg [.val (.int .i64 a1), .val (.int .i64 a2), .val (.int .u64 a3), .val (.int .i64 a4), .val (.int .i64 a5), .sl 0])], [], [⟨3, (.int .i64), a6, .ro⟩] => some ⟨Bool, S.AggOk a1 a2 a3 a4 a5 a6, R160⟩
  | _, _, _ => none
theorem ev160 (a1 a2 a3 a4 a5 : Int) (a6 : List Int) : evF Try.prog G160 L160 (0, 0) [] Try.f160 c160 [.s1 (.agg [ai a1, ai a2, ak .u64 a3, ai a4, ai a5, .sl 0])] [] [⟨3, (.int .i64), a6, .ro⟩] K160 = S.AggOk a1 a2 a3 a4 a5 a6 := by kernel_rfl
theorem good160 : Vm.Good Try.prog 160 E160 := by
  refine evF_good (G := G160) (c := c160) (envCons_good good215 (envCons_good good214 (envCons_good good217 (envCons_good good216 (envCons_good good218 (envCons_good good219 envNil_good)))))) Try.func160 (by kernel_rfl) (by kernel_rfl) (0, 0) (fun args bs rs out t h h2 => ?_)
  unfold E160 at h
  split at h
  · injection h with h
    subst h
    exact ⟨rfl, [], L160, K160, lp160, (fun r t h => by unfold K160 at h; split at h; (injection h with h; subst h; rfl); cases h), (ev160 _ _ _ _ _ _).trans h2⟩
  · cases h
/-! ### S.CellOk -/
noncomputable def G192 : Env := (envCons 188 [] E188 (envCons 189 [] E189 (envCons 160 [] E160 envNil)))
noncomputable def c192 : Code := bodyOf Try.f192
noncomputable def S.CellOk (a1 a2 a3 a4 a5 a6 a7 a8 a9 a10 : Int) (a11 : List Int) : Option Bool :=
(bif (decide (0 ≤ a1)) then
(bif (decide (a1 < 4)) then
(Option.bind (S.l04Key a2) fun r14 =>
(bif r14 then
(Option.bind (S.l06Win a3 a4) fun r15 =>
(bif r15 then
(bif (decide (0 ≤ a5)) then
(bif (decide (a5 < 16)) then
(Option.bind (S.AggOk a6 a7 a8 a9 a10 a11) fun r18 =>
(bif r18 then
(some (decide (0 < a6)))
else
(some false)))
else
(some false))
else
(some false))
else
(some false)))
else
(some false)))
else
(some false))
else
(some false))
noncomputable def R192 (x : Bool) : Res := ⟨[.one (ab x)], [], []⟩
noncomputable def K192 (r : Res) : Option Bool :=
  match r with
  | ⟨[.one (.val (.bool v1))], [], []⟩ => some (v1)
  | _ => none
noncomputable def E192 : Fun2 := fun args bs rs =>
  match args, bs, rs with
  | [.s1 (.agg [.val (.int .i64 a1), .val (.int .i64 a2), .val (.int .i64 a3), .val (.int .i64 a4), .val (.int .i64 a5), .val (.int .i64 a6), .val (.int .i64 a7), .val (.int .u64 a8), .val (.int .i64 a9), .val (.int .i64 a10), .sl 0])], [], [⟨3, (.int .i64), a11, .ro⟩] => some ⟨Bool, S.CellOk a1 a2 a3 a4 a5 a6 a7 a8 a9 a10 a11, R192⟩
  | _, _, _ => none
theorem ev192 (a1 a2 a3 a4 a5 a6 a7 a8 a9 a10 : Int) (a11 : List Int) : evF Try.prog G192 loopNil (0, 0) [] Try.f192 c192 [.s1 (.agg [ai a1, ai a2, ai a3, ai a4, ai a5, ai a6, ai a7, ak .u64 a8, ai a9, ai a10, .sl 0])] [] [⟨3, (.int .i64), a11, .ro⟩] K192 = S.CellOk a1 a2 a3 a4 a5 a6 a7 a8 a9 a10 a11 := by kernel_rfl
theorem good192 : Vm.Good Try.prog 192 E192 := by
  refine evF_good (G := G192) (c := c192) (envCons_good good188 (envCons_good good189 (envCons_good good160 envNil_good))) Try.func192 (by kernel_rfl) (by kernel_rfl) (0, 0) (fun args bs rs out t h h2 => ?_)
  unfold E192 at h
  split at h
  · injection h with h
    subst h
    exact ⟨rfl, [], loopNil, K192, (by intro x hx; simp [show loopsOf c192 = [] from by kernel_rfl] at hx), (fun r t h => by unfold K192 at h; split at h; (injection h with h; subst h; rfl); cases h), (ev192 _ _ _ _ _ _ _ _ _ _ _).trans h2⟩
  · cases h
/-! ### S.l09Less -/
noncomputable def G193 : Env := envNil
noncomputable def c193 : Code := bodyOf Try.f193
noncomputable def S.l09Less (a1 a2 a3 a4 a5 a6 a7 a8 a9 a10 a11 a12 a13 a14 a15 a16 a17 a18 a19 a20 : Int) (a21 a22 : List Int) : Option Bool :=
(bif (a1 != a11) then
(some (decide (a1 < a11)))
else
(bif (a2 != a12) then
(some (decide (a2 < a12)))
else
(bif (a3 != a13) then
(some (decide (a3 < a13)))
else
(bif (a4 != a14) then
(some (decide (a4 < a14)))
else
(some (decide (a5 < a15)))))))
noncomputable def R193 (x : Bool) : Res := ⟨[.one (ab x)], [], []⟩
noncomputable def K193 (r : Res) : Option Bool :=
  match r with
  | ⟨[.one (.val (.bool v1))], [], []⟩ => some (v1)
  | _ => none
noncomputable def E193 : Fun2 := fun args bs rs =>
  match args, bs, rs with
  | [.s1 (.agg [.val (.int .i64 a1), .val (.int .i64 a2), .val (.int .i64 a3), .val (.int .i64 a4), .val (.int .i64 a5), .val (.int .i64 a6), .val (.int .i64 a7), .val (.int .u64 a8), .val (.int .i64 a9), .val (.int .i64 a10), .sl 0]), .s1 (.agg [.val (.int .i64 a11), .val (.int .i64 a12), .val (.int .i64 a13), .val (.int .i64 a14), .val (.int .i64 a15), .val (.int .i64 a16), .val (.int .i64 a17), .val (.int .u64 a18), .val (.int .i64 a19), .val (.int .i64 a20), .sl 1])], [], [⟨3, (.int .i64), a21, .ro⟩, ⟨3, (.int .i64), a22, .ro⟩] => some ⟨Bool, S.l09Less a1 a2 a3 a4 a5 a6 a7 a8 a9 a10 a11 a12 a13 a14 a15 a16 a17 a18 a19 a20 a21 a22, R193⟩
  | _, _, _ => none
theorem ev193 (a1 a2 a3 a4 a5 a6 a7 a8 a9 a10 a11 a12 a13 a14 a15 a16 a17 a18 a19 a20 : Int) (a21 a22 : List Int) : evF Try.prog G193 loopNil (0, 0) [] Try.f193 c193 [.s1 (.agg [ai a1, ai a2, ai a3, ai a4, ai a5, ai a6, ai a7, ak .u64 a8, ai a9, ai a10, .sl 0]), .s1 (.agg [ai a11, ai a12, ai a13, ai a14, ai a15, ai a16, ai a17, ak .u64 a18, ai a19, ai a20, .sl 1])] [] [⟨3, (.int .i64), a21, .ro⟩, ⟨3, (.int .i64), a22, .ro⟩] K193 = S.l09Less a1 a2 a3 a4 a5 a6 a7 a8 a9 a10 a11 a12 a13 a14 a15 a16 a17 a18 a19 a20 a21 a22 := by kernel_rfl
theorem good193 : Vm.Good Try.prog 193 E193 := by
  refine evF_good (G := G193) (c := c193) envNil_good Try.func193 (by kernel_rfl) (by kernel_rfl) (0, 0) (fun args bs rs out t h h2 => ?_)
  unfold E193 at h
  split at h
  · injection h with h
    subst h
    exact ⟨rfl, [], loopNil, K193, (by intro x hx; simp [show loopsOf c193 = [] from by kernel_rfl] at hx), (fun r t h => by unfold K193 at h; split at h; (injection h with h; subst h; rfl); cases h), (ev193 _ _ _ _ _ _ _ _ _ _ _ _ _ _ _ _ _ _ _ _ _ _).trans h2⟩
  · cases h
/-! ### S.CellsOk -/
noncomputable def G122 : Env := (envCons 192 [] E192 (envCons 193 [] E193 envNil))
noncomputable def c122 : Code := bodyOf Try.f122
noncomputable def c122_4 : Code := (loopsOf c122).getD 0 .skip
noncomputable def S.CellsOk_l0 : Nat → (Bool → Option Bool) → (Option Bool) → Int → (List (Int × Int × Int × Int × Int × Int × (Int × Int) × Int × Int × List Int)) → Option Bool
  | 0, _, _, _, _ => none
  | m + 1, e4_0, e4_1, a4, a5 =>
    (bif (decide (a4 < (a5.length : Int))) then
    (bif decide ((0 : Int) ≤ a4 ∧ a4 < (a5.length : Int)) then
    (Option.bind (S.CellOk ((nthI a5 a4 ((0 : Int), ((0 : Int), ((0 : Int), ((0 : Int), ((0 : Int), ((0 : Int), (((0 : Int), (0 : Int)), ((0 : Int), ((0 : Int), [])))))))))).1) ((nthI a5 a4 ((0 : Int), ((0 : Int), ((0 : Int), ((0 : Int), ((0 : Int), ((0 : Int), (((0 : Int), (0 : Int)), ((0 : Int), ((0 : Int), [])))))))))).2.1) ((nthI a5 a4 ((0 : Int), ((0 : Int), ((0 : Int), ((0 : Int), ((0 : Int), ((0 : Int), (((0 : Int), (0 : Int)), ((0 : Int), ((0 : Int), [])))))))))).2.2.1) ((nthI a5 a4 ((0 : Int), ((0 : Int), ((0 : Int), ((0 : Int), ((0 : Int), ((0 : Int), (((0 : Int), (0 : Int)), ((0 : Int), ((0 : Int), [])))))))))).2.2.2.1) ((nthI a5 a4 ((0 : Int), ((0 : Int), ((0 : Int), ((0 : Int), ((0 : Int), ((0 : Int), (((0 : Int), (0 : Int)), ((0 : Int), ((0 : Int), [])))))))))).2.2.2.2.1) ((nthI a5 a4 ((0 : Int), ((0 : Int), ((0 : Int), ((0 : Int), ((0 : Int), ((0 : Int), (((0 : Int), (0 : Int)), ((0 : Int), ((0 : Int), [])))))))))).2.2.2.2.2.1) ((nthI a5 a4 ((0 : Int), ((0 : Int), ((0 : Int), ((0 : Int), ((0 : Int), ((0 : Int), (((0 : Int), (0 : Int)), ((0 : Int), ((0 : Int), [])))))))))).2.2.2.2.2.2.1.1) ((nthI a5 a4 ((0 : Int), ((0 : Int), ((0 : Int), ((0 : Int), ((0 : Int), ((0 : Int), (((0 : Int), (0 : Int)), ((0 : Int), ((0 : Int), [])))))))))).2.2.2.2.2.2.1.2) ((nthI a5 a4 ((0 : Int), ((0 : Int), ((0 : Int), ((0 : Int), ((0 : Int), ((0 : Int), (((0 : Int), (0 : Int)), ((0 : Int), ((0 : Int), [])))))))))).2.2.2.2.2.2.2.1) ((nthI a5 a4 ((0 : Int), ((0 : Int), ((0 : Int), ((0 : Int), ((0 : Int), ((0 : Int), (((0 : Int), (0 : Int)), ((0 : Int), ((0 : Int), [])))))))))).2.2.2.2.2.2.2.2.1) ((nthI a5 a4 ((0 : Int), ((0 : Int), ((0 : Int), ((0 : Int), ((0 : Int), ((0 : Int), (((0 : Int), (0 : Int)), ((0 : Int), ((0 : Int), [])))))))))).2.2.2.2.2.2.2.2.2)) fun r8 =>
    (bif (!r8) then
    (e4_0 false)
    else
    (bif (decide (0 < a4)) then
    (let v10 : Int := (IntKind.wrap .i64 (a4 - 1))
    (bif decide ((0 : Int) ≤ v10 ∧ v10 < (a5.length : Int)) then
    (bif decide ((0 : Int) ≤ a4 ∧ a4 < (a5.length : Int)) then
    (Option.bind (S.l09Less ((nthI a5 v10 ((0 : Int), ((0 : Int), ((0 : Int), ((0 : Int), ((0 : Int), ((0 : Int), (((0 : Int), (0 : Int)), ((0 : Int), ((0 : Int), [])))))))))).1) ((nthI a5 v10 ((0 : Int), ((0 : Int), ((0 : Int), ((0 : Int), ((0 : Int), ((0 : Int), (((0 : Int), (0 : Int)), ((0 : Int), ((0 : Int), [])))))))))).2.1) ((nthI a5 v10 ((0 : Int), ((0 : Int), ((0 : Int), ((0 : Int), ((0 : Int), ((0 : Int), (((0 : Int), (0 : Int)), ((0 : Int), ((0 : Int), [])))))))))).2.2.1) ((nthI a5 v10 ((0 : Int), ((0 : Int), ((0 : Int), ((0 : Int), ((0 : Int), ((0 : Int), (((0 : Int), (0 : Int)), ((0 : Int), ((0 : Int), [])))))))))).2.2.2.1) ((nthI a5 v10 ((0 : Int), ((0 : Int), ((0 : Int), ((0 : Int), ((0 : Int), ((0 : Int), (((0 : Int), (0 : Int)), ((0 : Int), ((0 : Int), [])))))))))).2.2.2.2.1) ((nthI a5 v10 ((0 : Int), ((0 : Int), ((0 : Int), ((0 : Int), ((0 : Int), ((0 : Int), (((0 : Int), (0 : Int)), ((0 : Int), ((0 : Int), [])))))))))).2.2.2.2.2.1) ((nthI a5 v10 ((0 : Int), ((0 : Int), ((0 : Int), ((0 : Int), ((0 : Int), ((0 : Int), (((0 : Int), (0 : Int)), ((0 : Int), ((0 : Int), [])))))))))).2.2.2.2.2.2.1.1) ((nthI a5 v10 ((0 : Int), ((0 : Int), ((0 : Int), ((0 : Int), ((0 : Int), ((0 : Int), (((0 : Int), (0 : Int)), ((0 : Int), ((0 : Int), [])))))))))).2.2.2.2.2.2.1.2) ((nthI a5 v10 ((0 : Int), ((0 : Int), ((0 : Int), ((0 : Int), ((0 : Int), ((0 : Int), (((0 : Int), (0 : Int)), ((0 : Int), ((0 : Int), [])))))))))).2.2.2.2.2.2.2.1) ((nthI a5 v10 ((0 : Int), ((0 : Int), ((0 : Int), ((0 : Int), ((0 : Int), ((0 : Int), (((0 : Int), (0 : Int)), ((0 : Int), ((0 : Int), [])))))))))).2.2.2.2.2.2.2.2.1) ((nthI a5 a4 ((0 : Int), ((0 : Int), ((0 : Int), ((0 : Int), ((0 : Int), ((0 : Int), (((0 : Int), (0 : Int)), ((0 : Int), ((0 : Int), [])))))))))).1) ((nthI a5 a4 ((0 : Int), ((0 : Int), ((0 : Int), ((0 : Int), ((0 : Int), ((0 : Int), (((0 : Int), (0 : Int)), ((0 : Int), ((0 : Int), [])))))))))).2.1) ((nthI a5 a4 ((0 : Int), ((0 : Int), ((0 : Int), ((0 : Int), ((0 : Int), ((0 : Int), (((0 : Int), (0 : Int)), ((0 : Int), ((0 : Int), [])))))))))).2.2.1) ((nthI a5 a4 ((0 : Int), ((0 : Int), ((0 : Int), ((0 : Int), ((0 : Int), ((0 : Int), (((0 : Int), (0 : Int)), ((0 : Int), ((0 : Int), [])))))))))).2.2.2.1) ((nthI a5 a4 ((0 : Int), ((0 : Int), ((0 : Int), ((0 : Int), ((0 : Int), ((0 : Int), (((0 : Int), (0 : Int)), ((0 : Int), ((0 : Int), [])))))))))).2.2.2.2.1) ((nthI a5 a4 ((0 : Int), ((0 : Int), ((0 : Int), ((0 : Int), ((0 : Int), ((0 : Int), (((0 : Int), (0 : Int)), ((0 : Int), ((0 : Int), [])))))))))).2.2.2.2.2.1) ((nthI a5 a4 ((0 : Int), ((0 : Int), ((0 : Int), ((0 : Int), ((0 : Int), ((0 : Int), (((0 : Int), (0 : Int)), ((0 : Int), ((0 : Int), [])))))))))).2.2.2.2.2.2.1.1) ((nthI a5 a4 ((0 : Int), ((0 : Int), ((0 : Int), ((0 : Int), ((0 : Int), ((0 : Int), (((0 : Int), (0 : Int)), ((0 : Int), ((0 : Int), [])))))))))).2.2.2.2.2.2.1.2) ((nthI a5 a4 ((0 : Int), ((0 : Int), ((0 : Int), ((0 : Int), ((0 : Int), ((0 : Int), (((0 : Int), (0 : Int)), ((0 : Int), ((0 : Int), [])))))))))).2.2.2.2.2.2.2.1) ((nthI a5 a4 ((0 : Int), ((0 : Int), ((0 : Int), ((0 : Int), ((0 : Int), ((0 : Int), (((0 : Int), (0 : Int)), ((0 : Int), ((0 : Int), [])))))))))).2.2.2.2.2.2.2.2.1) ((nthI a5 v10 ((0 : Int), ((0 : Int), ((0 : Int), ((0 : Int), ((0 : Int), ((0 : Int), (((0 : Int), (0 : Int)), ((0 : Int), ((0 : Int), [])))))))))).2.2.2.2.2.2.2.2.2) ((nthI a5 a4 ((0 : Int), ((0 : Int), ((0 : Int), ((0 : Int), ((0 : Int), ((0 : Int), (((0 : Int), (0 : Int)), ((0 : Int), ((0 : Int), [])))))))))).2.2.2.2.2.2.2.2.2)) fun r11 =>
    (bif (!r11) then
    (e4_0 false)
    else
    (S.CellsOk_l0 m e4_0 e4_1 (IntKind.wrap .i64 (a4 + 1)) a5)))
    else
    none)
    else
    none))
    else
    (S.CellsOk_l0 m e4_0 e4_1 (IntKind.wrap .i64 (a4 + 1)) a5))))
    else
    none)
    else
    e4_1)
noncomputable def S.CellsOk (a1 : List (Int × Int × Int × Int × Int × Int × (Int × Int) × Int × Int × List Int)) : Option Bool :=
(bif (decide (10000 < (a1.length : Int))) then
(some false)
else
(S.CellsOk_l0 fu (fun y14 =>
(some y14)) (some true) 0 a1))
noncomputable def H122_4 : LoopH := ⟨⟨((.one (.sl 0)) :: (hu 2 (hh :: (hu 32 [])))), [], [(180, (.pair (.int .i64) (.pair (.int .i64) (.pair (.int .i64) (.pair (.int .i64) (.pair (.int .i64) (.pair (.int .i64) (.pair (.pair (.int .i64) (.int .u64)) (.pair (.int .i64) (.pair (.int .i64) (.sl 3 (.int .i64))))))))))), .ro)]⟩, [1, 2, 4, 5, 6, 7, 8, 9, 10, 11, 12, 13, 14, 15, 16, 17, 18, 19, 20, 21, 22, 23, 24, 25, 26, 27, 28, 29, 30, 31, 32, 33, 34, 35], [], [0, 1, 3, 4, 5, 6, 7, 8, 9, 10, 11, 12, 13, 14, 15, 16, 17, 18, 19, 20, 21, 22, 23, 24, 25, 26, 27, 28, 29, 30, 31, 32, 33, 34, 35], []⟩
noncomputable def E122_4 (m : Nat) (ps : List Prm) (k : Kont Bool) : Option Bool :=
  match ps with
  | [.v (.int .i64 a4), .row (.pair (.int .i64) (.pair (.int .i64) (.pair (.int .i64) (.pair (.int .i64) (.pair (.int .i64) (.pair (.int .i64) (.pair (.pair (.int .i64) (.int .u64)) (.pair (.int .i64) (.pair (.int .i64) (.sl 3 (.int .i64))))))))))) a5] => S.CellsOk_l0 m (fun z16 => k .ret (⟨(vu 2 ((vb z16) :: (vu 33 []))), [], []⟩ : St)) (k (.exit 0) (⟨(vu 36 []), [], []⟩ : St)) a4 a5
  | _ => none
noncomputable def S122_4 (a4 : Int) (a5 : List (Int × Int × Int × Int × Int × Int × (Int × Int) × Int × Int × List Int)) : St := (⟨((vl 0) :: (vu 2 ((vi a4) :: (vu 32 [])))), [], [⟨180, (.pair (.int .i64) (.pair (.int .i64) (.pair (.int .i64) (.pair (.int .i64) (.pair (.int .i64) (.pair (.int .i64) (.pair (.pair (.int .i64) (.int .u64)) (.pair (.int .i64) (.pair (.int .i64) (.sl 3 (.int .i64))))))))))), a5, .ro⟩]⟩ : St)
theorem ev122_4 (m : Nat) (k : Kont Bool) (a4 : Int) (a5 : List (Int × Int × Int × Int × Int × Int × (Int × Int) × Int × Int × List Int)) : evC Try.prog G122 loopNil c122_4 (S122_4 a4 a5) (turn Try.prog (0, 0) H122_4 (E122_4 m) k) = E122_4 (m + 1) [.v (.int .i64 a4), .row (.pair (.int .i64) (.pair (.int .i64) (.pair (.int .i64) (.pair (.int .i64) (.pair (.int .i64) (.pair (.int .i64) (.pair (.pair (.int .i64) (.int .u64)) (.pair (.int .i64) (.pair (.int .i64) (.sl 3 (.int .i64))))))))))) a5] k := by kernel_rfl
theorem ok122_4 (m : Nat) : LoopOk Try.prog (0, 0) c122_4 (enter Try.prog (0, 0) H122_4 (E122_4 m)) := by
  refine loop_ok (G := G122) (L := loopNil) (envCons_good good192 (envCons_good good193 envNil_good)) (by intro x hx; simp [show loopsOf c122_4 = [] from by kernel_rfl] at hx) (fun ps k => by unfold E122_4; split <;> rfl) (fun m ps k r h => ?_) m
  have h0 := h
  unfold E122_4 at h
  split at h
  · exact ⟨S122_4 _ _, by kernel_rfl, (ev122_4 m k _ _).trans h0⟩
  · cases h
noncomputable def L122 : LEnv Bool := (loopCons 4 (enter Try.prog (0, 0) H122_4 (E122_4 fu)) loopNil)
theorem lq122 : loopsOf c122 = [c122_4] := by kernel_rfl
theorem fr122_4 : firstReg c122_4 = some 4 := by kernel_rfl
theorem le122_4 : L122 4 = enter Try.prog (0, 0) H122_4 (E122_4 fu) := by kernel_rfl
theorem lm122 : ∀ x ∈ [c122_4], ∀ id, firstReg x = some id → LoopOk Try.prog (0, 0) x (L122 id) := (loops_cons fr122_4 le122_4 (ok122_4 fu) loops_nil)
theorem lp122 : ∀ x ∈ loopsOf c122, ∀ id, firstReg x = some id → LoopOk Try.prog (0, 0) x (L122 id) := loops_eq lq122 lm122
noncomputable def R122 (x : Bool) : Res := ⟨[.one (ab x)], [], []⟩
noncomputable def K122 (r : Res) : Option Bool :=
  match r with
  | ⟨[.one (.val (.bool v1))], [], []⟩ => some (v1)
  | _ => none
noncomputable def E122 : Fun2 := fun args bs rs =>
  match args, bs, rs with
  | [.s1 (.one (.sl 0))], [], [⟨180, (.pair (.int .i64) (.pair (.int .i64) (.pair (.int .i64) (.pair (.int .i64) (.pair (.int .i64) (.pair (.int .i64) (.pair (.pair (.int .i64) (.int .u64)) (.pair (.int .i64) (.pair (.int .i64) (.sl 3 (.int .i64))))))))))), a1, .ro⟩] => some ⟨Bool, S.CellsOk a1, R122⟩
  | _, _, _ => none
theorem ev122 (a1 : List (Int × Int × Int × Int × Int × Int × (Int × Int) × Int × Int × List Int)) : evF Try.prog G122 L122 (0, 0) [] Try.f122 c122 [vl 0] [] [⟨180, (.pair (.int .i64) (.pair (.int .i64) (.pair (.int .i64) (.pair (.int .i64) (.pair (.int .i64) (.pair (.int .i64) (.pair (.pair (.int .i64) (.int .u64)) (.pair (.int .i64) (.pair (.int .i64) (.sl 3 (.int .i64))))))))))), a1, .ro⟩] K122 = S.CellsOk a1 := by kernel_rfl
theorem good122 : Vm.Good Try.prog 122 E122 := by
  refine evF_good (G := G122) (c := c122) (envCons_good good192 (envCons_good good193 envNil_good)) Try.func122 (by kernel_rfl) (by kernel_rfl) (0, 0) (fun args bs rs out t h h2 => ?_)
  unfold E122 at h
  split at h
  · injection h with h
    subst h
    exact ⟨rfl, [], L122, K122, lp122, (fun r t h => by unfold K122 at h; split at h; (injection h with h; subst h; rfl); cases h), (ev122 _).trans h2⟩
  · cases h
/-! ### S.l09Agg -/
noncomputable def G194 : Env := envNil
noncomputable def c194 : Code := bodyOf Try.f194
noncomputable def S.l09Agg (a1 a2 a3 a4 a5 : Int) (a6 : List Int) : Option (Int × Int × Int × Int × Int × List Int) :=
(bif decide ((([] : List (Int)).length + a6.length) * 8 ≤ 140737488355328) then
(some (a1, a2, a3, a4, a5, (([] : List (Int)) ++ a6)))
else
none)
noncomputable def R194 (x : Int × Int × Int × Int × Int × List Int) : Res := ⟨[.agg [ai x.1, ai x.2.1, ak .u64 x.2.2.1, ai x.2.2.2.1, ai x.2.2.2.2.1, .sl 0]], [], [⟨3, (.int .i64), x.2.2.2.2.2, .own⟩]⟩
noncomputable def K194 (r : Res) : Option (Int × Int × Int × Int × Int × List Int) :=
  match r with
  | ⟨[.agg [.val (.int .i64 v1), .val (.int .i64 v2), .val (.int .u64 v3), .val (.int .i64 v4), .val (.int .i64 v5), .sl 0]], [], [⟨3, (.int .i64), v6, .own⟩]⟩ => some (v1, v2, v3, v4, v5, v6)
  | _ => none
noncomputable def E194 : Fun2 := fun args bs rs =>
  match args, bs, rs with
  | [.s1 (.agg [.val (.int .i64 a1), .val (.int .i64 a2), .val (.int .u64 a3), .val (.int .i64 a4), .val (.int .i64 a5), .sl 0])], [], [⟨3, (.int .i64), a6, .ro⟩] => some ⟨Int × Int × Int × Int × Int × List Int, S.l09Agg a1 a2 a3 a4 a5 a6, R194⟩
  | _, _, _ => none
theorem ev194 (a1 a2 a3 a4 a5 : Int) (a6 : List Int) : evF Try.prog G194 loopNil (0, 0) [] Try.f194 c194 [.s1 (.agg [ai a1, ai a2, ak .u64 a3, ai a4, ai a5, .sl 0])] [] [⟨3, (.int .i64), a6, .ro⟩] K194 = S.l09Agg a1 a2 a3 a4 a5 a6 := by kernel_rfl
theorem good194 : Vm.Good Try.prog 194 E194 := by
  refine evF_good (G := G194) (c := c194) envNil_good Try.func194 (by kernel_rfl) (by kernel_rfl) (0, 0) (fun args bs rs out t h h2 => ?_)
  unfold E194 at h
  split at h
  · injection h with h
    subst h
    exact ⟨rfl, [], loopNil, K194, (by intro x hx; simp [show loopsOf c194 = [] from by kernel_rfl] at hx), (fun r t h => by unfold K194 at h; split at h; (injection h with h; subst h; rfl); cases h), (ev194 _ _ _ _ _ _).trans h2⟩
  · cases h
/-! ### S.l09Copy -/
noncomputable def G123 : Env := (envCons 194 [] E194 envNil)
noncomputable def c123 : Code := bodyOf Try.f123
noncomputable def c123_3 : Code := (loopsOf c123).getD 0 .skip
noncomputable def S.l09Copy_l0 : Nat → ((List (Int × Int × Int × Int × Int × Int × (Int × Int) × Int × Int × List Int)) → Option ((List (Int × Int × Int × Int × Int × Int × (Int × Int) × Int × Int × List Int)))) → Int → (List (Int × Int × Int × Int × Int × Int × (Int × Int) × Int × Int × List Int)) → (List (Int × Int × Int × Int × Int × Int × (Int × Int) × Int × Int × List Int)) → Option ((List (Int × Int × Int × Int × Int × Int × (Int × Int) × Int × Int × List Int)))
  | 0, _, _, _, _ => none
  | m + 1, e3_0, a2, a3, a4 =>
    (bif (decide (a2 < (a3.length : Int))) then
    (bif decide ((0 : Int) ≤ a2 ∧ a2 < (a3.length : Int)) then
    (Option.bind (S.l09Agg ((nthI a3 a2 ((0 : Int), ((0 : Int), ((0 : Int), ((0 : Int), ((0 : Int), ((0 : Int), (((0 : Int), (0 : Int)), ((0 : Int), ((0 : Int), [])))))))))).2.2.2.2.2.1) ((nthI a3 a2 ((0 : Int), ((0 : Int), ((0 : Int), ((0 : Int), ((0 : Int), ((0 : Int), (((0 : Int), (0 : Int)), ((0 : Int), ((0 : Int), [])))))))))).2.2.2.2.2.2.1.1) ((nthI a3 a2 ((0 : Int), ((0 : Int), ((0 : Int), ((0 : Int), ((0 : Int), ((0 : Int), (((0 : Int), (0 : Int)), ((0 : Int), ((0 : Int), [])))))))))).2.2.2.2.2.2.1.2) ((nthI a3 a2 ((0 : Int), ((0 : Int), ((0 : Int), ((0 : Int), ((0 : Int), ((0 : Int), (((0 : Int), (0 : Int)), ((0 : Int), ((0 : Int), [])))))))))).2.2.2.2.2.2.2.1) ((nthI a3 a2 ((0 : Int), ((0 : Int), ((0 : Int), ((0 : Int), ((0 : Int), ((0 : Int), (((0 : Int), (0 : Int)), ((0 : Int), ((0 : Int), [])))))))))).2.2.2.2.2.2.2.2.1) ((nthI a3 a2 ((0 : Int), ((0 : Int), ((0 : Int), ((0 : Int), ((0 : Int), ((0 : Int), (((0 : Int), (0 : Int)), ((0 : Int), ((0 : Int), [])))))))))).2.2.2.2.2.2.2.2.2)) fun r7 =>
    (let v8 : List (Int × Int × Int × Int × Int × Int × (Int × Int) × Int × Int × List Int) := [((nthI a3 a2 ((0 : Int), ((0 : Int), ((0 : Int), ((0 : Int), ((0 : Int), ((0 : Int), (((0 : Int), (0 : Int)), ((0 : Int), ((0 : Int), [])))))))))).1, ((nthI a3 a2 ((0 : Int), ((0 : Int), ((0 : Int), ((0 : Int), ((0 : Int), ((0 : Int), (((0 : Int), (0 : Int)), ((0 : Int), ((0 : Int), [])))))))))).2.1, ((nthI a3 a2 ((0 : Int), ((0 : Int), ((0 : Int), ((0 : Int), ((0 : Int), ((0 : Int), (((0 : Int), (0 : Int)), ((0 : Int), ((0 : Int), [])))))))))).2.2.1, ((nthI a3 a2 ((0 : Int), ((0 : Int), ((0 : Int), ((0 : Int), ((0 : Int), ((0 : Int), (((0 : Int), (0 : Int)), ((0 : Int), ((0 : Int), [])))))))))).2.2.2.1, ((nthI a3 a2 ((0 : Int), ((0 : Int), ((0 : Int), ((0 : Int), ((0 : Int), ((0 : Int), (((0 : Int), (0 : Int)), ((0 : Int), ((0 : Int), [])))))))))).2.2.2.2.1, (r7.1, ((r7.2.1, r7.2.2.1), (r7.2.2.2.1, (r7.2.2.2.2.1, r7.2.2.2.2.2)))))))))]
    (bif decide ((a4.length + v8.length) * 104 ≤ 140737488355328) then
    (S.l09Copy_l0 m e3_0 (IntKind.wrap .i64 (a2 + 1)) a3 (a4 ++ v8))
    else
    none)))
    else
    none)
    else
    (e3_0 a4))
noncomputable def S.l09Copy (a1 : List (Int × Int × Int × Int × Int × Int × (Int × Int) × Int × Int × List Int)) : Option ((List (Int × Int × Int × Int × Int × Int × (Int × Int) × Int × Int × List Int))) :=
(S.l09Copy_l0 fu (fun y10 =>
(some y10)) 0 a1 [])
noncomputable def H123_3 : LoopH := ⟨⟨((.one (.sl 0)) :: (hu 2 ((.one (.sl 1)) :: hh :: (hu 21 [])))), [], [(180, (.pair (.int .i64) (.pair (.int .i64) (.pair (.int .i64) (.pair (.int .i64) (.pair (.int .i64) (.pair (.int .i64) (.pair (.pair (.int .i64) (.int .u64)) (.pair (.int .i64) (.pair (.int .i64) (.sl 3 (.int .i64))))))))))), .ro), (180, (.pair (.int .i64) (.pair (.int .i64) (.pair (.int .i64) (.pair (.int .i64) (.pair (.int .i64) (.pair (.int .i64) (.pair (.pair (.int .i64) (.int .u64)) (.pair (.int .i64) (.pair (.int .i64) (.sl 3 (.int .i64))))))))))), .own)]⟩, [1, 2, 5, 6, 7, 8, 9, 10, 11, 12, 13, 14, 15, 16, 17, 18, 19, 20, 21, 22, 23, 24, 25], [], [0, 1, 4, 5, 6, 7, 8, 9, 10, 11, 12, 13, 14, 15, 16, 17, 18, 19, 20, 21, 22, 23, 24, 25], []⟩
noncomputable def E123_3 (m : Nat) (ps : List Prm) (k : Kont ((List (Int × Int × Int × Int × Int × Int × (Int × Int) × Int × Int × List Int)))) : Option ((List (Int × Int × Int × Int × Int × Int × (Int × Int) × Int × Int × List Int))) :=
  match ps with
  | [.v (.int .i64 a2), .row (.pair (.int .i64) (.pair (.int .i64) (.pair (.int .i64) (.pair (.int .i64) (.pair (.int .i64) (.pair (.int .i64) (.pair (.pair (.int .i64) (.int .u64)) (.pair (.int .i64) (.pair (.int .i64) (.sl 3 (.int .i64))))))))))) a3, .row (.pair (.int .i64) (.pair (.int .i64) (.pair (.int .i64) (.pair (.int .i64) (.pair (.int .i64) (.pair (.int .i64) (.pair (.pair (.int .i64) (.int .u64)) (.pair (.int .i64) (.pair (.int .i64) (.sl 3 (.int .i64))))))))))) a4] => S.l09Copy_l0 m (fun z12 => k (.exit 0) (⟨(vu 3 ((vl 0) :: (vu 22 []))), [], [⟨180, (.pair (.int .i64) (.pair (.int .i64) (.pair (.int .i64) (.pair (.int .i64) (.pair (.int .i64) (.pair (.int .i64) (.pair (.pair (.int .i64) (.int .u64)) (.pair (.int .i64) (.pair (.int .i64) (.sl 3 (.int .i64))))))))))), z12, .own⟩]⟩ : St)) a2 a3 a4
  | _ => none
noncomputable def S123_3 (a2 : Int) (a3 a4 : List (Int × Int × Int × Int × Int × Int × (Int × Int) × Int × Int × List Int)) : St := (⟨((vl 0) :: (vu 2 ((vl 1) :: (vi a2) :: (vu 21 [])))), [], [⟨180, (.pair (.int .i64) (.pair (.int .i64) (.pair (.int .i64) (.pair (.int .i64) (.pair (.int .i64) (.pair (.int .i64) (.pair (.pair (.int .i64) (.int .u64)) (.pair (.int .i64) (.pair (.int .i64) (.sl 3 (.int .i64))))))))))), a3, .ro⟩, ⟨180, (.pair (.int .i64) (.pair (.int .i64) (.pair (.int .i64) (.pair (.int .i64) (.pair (.int .i64) (.pair (.int .i64) (.pair (.pair (.int .i64) (.int .u64)) (.pair (.int .i64) (.pair (.int .i64) (.sl 3 (.int .i64))))))))))), a4, .own⟩]⟩ : St)
theorem ev123_3 (m : Nat) (k : Kont ((List (Int × Int × Int × Int × Int × Int × (Int × Int) × Int × Int × List Int)))) (a2 : Int) (a3 a4 : List (Int × Int × Int × Int × Int × Int × (Int × Int) × Int × Int × List Int)) : evC Try.prog G123 loopNil c123_3 (S123_3 a2 a3 a4) (turn Try.prog (0, 0) H123_3 (E123_3 m) k) = E123_3 (m + 1) [.v (.int .i64 a2), .row (.pair (.int .i64) (.pair (.int .i64) (.pair (.int .i64) (.pair (.int .i64) (.pair (.int .i64) (.pair (.int .i64) (.pair (.pair (.int .i64) (.int .u64)) (.pair (.int .i64) (.pair (.int .i64) (.sl 3 (.int .i64))))))))))) a3, .row (.pair (.int .i64) (.pair (.int .i64) (.pair (.int .i64) (.pair (.int .i64) (.pair (.int .i64) (.pair (.int .i64) (.pair (.pair (.int .i64) (.int .u64)) (.pair (.int .i64) (.pair (.int .i64) (.sl 3 (.int .i64))))))))))) a4] k := by kernel_rfl
theorem ok123_3 (m : Nat) : LoopOk Try.prog (0, 0) c123_3 (enter Try.prog (0, 0) H123_3 (E123_3 m)) := by
  refine loop_ok (G := G123) (L := loopNil) (envCons_good good194 envNil_good) (by intro x hx; simp [show loopsOf c123_3 = [] from by kernel_rfl] at hx) (fun ps k => by unfold E123_3; split <;> rfl) (fun m ps k r h => ?_) m
  have h0 := h
  unfold E123_3 at h
  split at h
  · exact ⟨S123_3 _ _ _, by kernel_rfl, (ev123_3 m k _ _ _).trans h0⟩
  · cases h
noncomputable def L123 : LEnv ((List (Int × Int × Int × Int × Int × Int × (Int × Int) × Int × Int × List Int))) := (loopCons 3 (enter Try.prog (0, 0) H123_3 (E123_3 fu)) loopNil)
theorem lq123 : loopsOf c123 = [c123_3] := by kernel_rfl
theorem fr123_3 : firstReg c123_3 = some 3 := by kernel_rfl
theorem le123_3 : L123 3 = enter Try.prog (0, 0) H123_3 (E123_3 fu) := by kernel_rfl
theorem lm123 : ∀ x ∈ [c123_3], ∀ id, firstReg x = some id → LoopOk Try.prog (0, 0) x (L123 id) := (loops_cons fr123_3 le123_3 (ok123_3 fu) loops_nil)
theorem lp123 : ∀ x ∈ loopsOf c123, ∀ id, firstReg x = some id → LoopOk Try.prog (0, 0) x (L123 id) := loops_eq lq123 lm123
noncomputable def R123 (x : (List (Int × Int × Int × Int × Int × Int × (Int × Int) × Int × Int × List Int))) : Res := ⟨[.one (.sl 0)], [], [⟨180, (.pair (.int .i64) (.pair (.int .i64) (.pair (.int .i64) (.pair (.int .i64) (.pair (.int .i64) (.pair (.int .i64) (.pair (.pair (.int .i64) (.int .u64)) (.pair (.int .i64) (.pair (.int .i64) (.sl 3 (.int .i64))))))))))), x, .own⟩]⟩
noncomputable def K123 (r : Res) : Option ((List (Int × Int × Int × Int × Int × Int × (Int × Int) × Int × Int × List Int))) :=
  match r with
  | ⟨[.one (.sl 0)], [], [⟨180, (.pair (.int .i64) (.pair (.int .i64) (.pair (.int .i64) (.pair (.int .i64) (.pair (.int .i64) (.pair (.int .i64) (.pair (.pair (.int .i64) (.int .u64)) (.pair (.int .i64) (.pair (.int .i64) (.sl 3 (.int .i64))))))))))), v1, .own⟩]⟩ => some (v1)
  | _ => none
noncomputable def E123 : Fun2 := fun args bs rs =>
  match args, bs, rs with
  | [.s1 (.one (.sl 0))], [], [⟨180, (.pair (.int .i64) (.pair (.int .i64) (.pair (.int .i64) (.pair (.int .i64) (.pair (.int .i64) (.pair (.int .i64) (.pair (.pair (.int .i64) (.int .u64)) (.pair (.int .i64) (.pair (.int .i64) (.sl 3 (.int .i64))))))))))), a1, .ro⟩] => some ⟨(List (Int × Int × Int × Int × Int × Int × (Int × Int) × Int × Int × List Int)), S.l09Copy a1, R123⟩
  | _, _, _ => none
theorem ev123 (a1 : List (Int × Int × Int × Int × Int × Int × (Int × Int) × Int × Int × List Int)) : evF Try.prog G123 L123 (0, 0) [] Try.f123 c123 [vl 0] [] [⟨180, (.pair (.int .i64) (.pair (.int .i64) (.pair (.int .i64) (.pair (.int .i64) (.pair (.int .i64) (.pair (.int .i64) (.pair (.pair (.int .i64) (.int .u64)) (.pair (.int .i64) (.pair (.int .i64) (.sl 3 (.int .i64))))))))))), a1, .ro⟩] K123 = S.l09Copy a1 := by kernel_rfl
theorem good123 : Vm.Good Try.prog 123 E123 := by
  refine evF_good (G := G123) (c := c123) (envCons_good good194 envNil_good) Try.func123 (by kernel_rfl) (by kernel_rfl) (0, 0) (fun args bs rs out t h h2 => ?_)
  unfold E123 at h
  split at h
  · injection h with h
    subst h
    exact ⟨rfl, [], L123, K123, lp123, (fun r t h => by unfold K123 at h; split at h; (injection h with h; subst h; rfl); cases h), (ev123 _).trans h2⟩
  · cases h
/-! ### S.CellsDue -/
noncomputable def G57 : Env := (envCons 122 [] E122 (envCons 123 [] E123 envNil))
noncomputable def c57 : Code := bodyOf Try.f57
noncomputable def c57_3 : Code := (loopsOf c57).getD 0 .skip
noncomputable def S.CellsDue_l0 : Nat → ((List (Int × Int × Int × Int × Int × Int × (Int × Int) × Int × Int × List Int)) → Option ((List (Int × Int × Int × Int × Int × Int × (Int × Int) × Int × Int × List Int)))) → Int → Int → Int → (List (Int × Int × Int × Int × Int × Int × (Int × Int) × Int × Int × List Int)) → (List (Int × Int × Int × Int × Int × Int × (Int × Int) × Int × Int × List Int)) → Option ((List (Int × Int × Int × Int × Int × Int × (Int × Int) × Int × Int × List Int)))
  | 0, _, _, _, _, _, _ => none
  | m + 1, e3_0, a4, a5, a6, a7, a8 =>
    (Option.bind (S.CellsOk a7) fun r9 =>
    (bif r9 then
    (bif (decide (a6 < (a7.length : Int))) then
    (bif decide ((0 : Int) ≤ a6 ∧ a6 < (a7.length : Int)) then
    (let v12 : Bool := (decide (a4 < (nthI a7 a6 ((0 : Int), ((0 : Int), ((0 : Int), ((0 : Int), ((0 : Int), ((0 : Int), (((0 : Int), (0 : Int)), ((0 : Int), ((0 : Int), [])))))))))).2.2.2.1))
    (bif v12 then
    (bif decide ((0 : Int) ≤ a6 ∧ a6 < (a7.length : Int)) then
    (let v13 : Bool := (decide ((nthI a7 a6 ((0 : Int), ((0 : Int), ((0 : Int), ((0 : Int), ((0 : Int), ((0 : Int), (((0 : Int), (0 : Int)), ((0 : Int), ((0 : Int), [])))))))))).2.2.2.1 ≤ a5))
    (bif v13 then
    (bif decide ((0 : Int) ≤ a6 ∧ a6 < (a7.length : Int)) then
    (let v14 : List (Int × Int × Int × Int × Int × Int × (Int × Int) × Int × Int × List Int) := [((nthI a7 a6 ((0 : Int), ((0 : Int), ((0 : Int), ((0 : Int), ((0 : Int), ((0 : Int), (((0 : Int), (0 : Int)), ((0 : Int), ((0 : Int), [])))))))))).1, ((nthI a7 a6 ((0 : Int), ((0 : Int), ((0 : Int), ((0 : Int), ((0 : Int), ((0 : Int), (((0 : Int), (0 : Int)), ((0 : Int), ((0 : Int), [])))))))))).2.1, ((nthI a7 a6 ((0 : Int), ((0 : Int), ((0 : Int), ((0 : Int), ((0 : Int), ((0 : Int), (((0 : Int), (0 : Int)), ((0 : Int), ((0 : Int), [])))))))))).2.2.1, ((nthI a7 a6 ((0 : Int), ((0 : Int), ((0 : Int), ((0 : Int), ((0 : Int), ((0 : Int), (((0 : Int), (0 : Int)), ((0 : Int), ((0 : Int), [])))))))))).2.2.2.1, ((nthI a7 a6 ((0 : Int), ((0 : Int), ((0 : Int), ((0 : Int), ((0 : Int), ((0 : Int), (((0 : Int), (0 : Int)), ((0 : Int), ((0 : Int), [])))))))))).2.2.2.2.1, ((nthI a7 a6 ((0 : Int), ((0 : Int), ((0 : Int), ((0 : Int), ((0 : Int), ((0 : Int), (((0 : Int), (0 : Int)), ((0 : Int), ((0 : Int), [])))))))))).2.2.2.2.2.1, (((nthI a7 a6 ((0 : Int), ((0 : Int), ((0 : Int), ((0 : Int), ((0 : Int), ((0 : Int), (((0 : Int), (0 : Int)), ((0 : Int), ((0 : Int), [])))))))))).2.2.2.2.2.2.1.1, (nthI a7 a6 ((0 : Int), ((0 : Int), ((0 : Int), ((0 : Int), ((0 : Int), ((0 : Int), (((0 : Int), (0 : Int)), ((0 : Int), ((0 : Int), [])))))))))).2.2.2.2.2.2.1.2), ((nthI a7 a6 ((0 : Int), ((0 : Int), ((0 : Int), ((0 : Int), ((0 : Int), ((0 : Int), (((0 : Int), (0 : Int)), ((0 : Int), ((0 : Int), [])))))))))).2.2.2.2.2.2.2.1, ((nthI a7 a6 ((0 : Int), ((0 : Int), ((0 : Int), ((0 : Int), ((0 : Int), ((0 : Int), (((0 : Int), (0 : Int)), ((0 : Int), ((0 : Int), [])))))))))).2.2.2.2.2.2.2.2.1, (nthI a7 a6 ((0 : Int), ((0 : Int), ((0 : Int), ((0 : Int), ((0 : Int), ((0 : Int), (((0 : Int), (0 : Int)), ((0 : Int), ((0 : Int), [])))))))))).2.2.2.2.2.2.2.2.2)))))))))]
    (bif decide ((a8.length + v14.length) * 104 ≤ 140737488355328) then
    (S.CellsDue_l0 m e3_0 a4 a5 (IntKind.wrap .i64 (a6 + 1)) a7 (a8 ++ v14))
    else
    none))
    else
    none)
    else
    (S.CellsDue_l0 m e3_0 a4 a5 (IntKind.wrap .i64 (a6 + 1)) a7 a8)))
    else
    none)
    else
    (S.CellsDue_l0 m e3_0 a4 a5 (IntKind.wrap .i64 (a6 + 1)) a7 a8)))
    else
    none)
    else
    (e3_0 a8))
    else
    (e3_0 a8)))
noncomputable def S.CellsDue (a1 a2 : Int) (a3 : List (Int × Int × Int × Int × Int × Int × (Int × Int) × Int × Int × List Int)) : Option ((List (Int × Int × Int × Int × Int × Int × (Int × Int) × Int × Int × List Int))) :=
(S.CellsDue_l0 fu (fun y18 =>
(Option.bind (S.l09Copy y18) fun r19 =>
(some r19))) a1 a2 0 a3 [])
noncomputable def H57_3 : LoopH := ⟨⟨((.one (.sl 0)) :: hh :: hh :: (hu 4 ((.one (.sl 1)) :: hh :: (hu 36 [])))), [], [(180, (.pair (.int .i64) (.pair (.int .i64) (.pair (.int .i64) (.pair (.int .i64) (.pair (.int .i64) (.pair (.int .i64) (.pair (.pair (.int .i64) (.int .u64)) (.pair (.int .i64) (.pair (.int .i64) (.sl 3 (.int .i64))))))))))), .ro), (180, (.pair (.int .i64) (.pair (.int .i64) (.pair (.int .i64) (.pair (.int .i64) (.pair (.int .i64) (.pair (.int .i64) (.pair (.pair (.int .i64) (.int .u64)) (.pair (.int .i64) (.pair (.int .i64) (.rs 3 (.int .i64))))))))))), .own)]⟩, [3, 4, 5, 6, 9, 10, 11, 12, 13, 14, 15, 16, 17, 18, 19, 20, 21, 22, 23, 24, 25, 26, 27, 28, 29, 30, 31, 32, 33, 34, 35, 36, 37, 38, 39, 40, 41, 42, 43, 44], [], [0, 1, 2, 3, 4, 5, 8, 9, 10, 11, 12, 13, 14, 15, 16, 17, 18, 19, 20, 21, 22, 23, 24, 25, 26, 27, 28, 29, 30, 31, 32, 33, 34, 35, 36, 37, 38, 39, 40, 41, 42, 43, 44], [7]⟩
noncomputable def E57_3 (m : Nat) (ps : List Prm) (k : Kont ((List (Int × Int × Int × Int × Int × Int × (Int × Int) × Int × Int × List Int)))) : Option ((List (Int × Int × Int × Int × Int × Int × (Int × Int) × Int × Int × List Int))) :=
  match ps with
  | [.v (.int .i64 a4), .v (.int .i64 a5), .v (.int .i64 a6), .row (.pair (.int .i64) (.pair (.int .i64) (.pair (.int .i64) (.pair (.int .i64) (.pair (.int .i64) (.pair (.int .i64) (.pair (.pair (.int .i64) (.int .u64)) (.pair (.int .i64) (.pair (.int .i64) (.sl 3 (.int .i64))))))))))) a7, .row (.pair (.int .i64) (.pair (.int .i64) (.pair (.int .i64) (.pair (.int .i64) (.pair (.int .i64) (.pair (.int .i64) (.pair (.pair (.int .i64) (.int .u64)) (.pair (.int .i64) (.pair (.int .i64) (.rs 3 (.int .i64))))))))))) a8] => S.CellsDue_l0 m (fun z21 => k (.exit 0) (⟨(vu 7 ((vl 0) :: (vu 37 []))), [], [⟨180, (.pair (.int .i64) (.pair (.int .i64) (.pair (.int .i64) (.pair (.int .i64) (.pair (.int .i64) (.pair (.int .i64) (.pair (.pair (.int .i64) (.int .u64)) (.pair (.int .i64) (.pair (.int .i64) (.rs 3 (.int .i64))))))))))), z21, .own⟩]⟩ : St)) a4 a5 a6 a7 a8
  | _ => none
noncomputable def S57_3 (a4 a5 a6 : Int) (a7 a8 : List (Int × Int × Int × Int × Int × Int × (Int × Int) × Int × Int × List Int)) : St := (⟨((vl 0) :: (vi a4) :: (vi a5) :: (vu 4 ((vl 1) :: (vi a6) :: (vu 36 [])))), [], [⟨180, (.pair (.int .i64) (.pair (.int .i64) (.pair (.int .i64) (.pair (.int .i64) (.pair (.int .i64) (.pair (.int .i64) (.pair (.pair (.int .i64) (.int .u64)) (.pair (.int .i64) (.pair (.int .i64) (.sl 3 (.int .i64))))))))))), a7, .ro⟩, ⟨180, (.pair (.int .i64) (.pair (.int .i64) (.pair (.int .i64) (.pair (.int .i64) (.pair (.int .i64) (.pair (.int .i64) (.pair (.pair (.int .i64) (.int .u64)) (.pair (.int .i64) (.pair (.int .i64) (.rs 3 (.int .i64))))))))))), a8, .own⟩]⟩ : St)
theorem ev57_3 (m : Nat) (k : Kont ((List (Int × Int × Int × Int × Int × Int × (Int × Int) × Int × Int × List Int)))) (a4 a5 a6 : Int) (a7 a8 : List (Int × Int × Int × Int × Int × Int × (Int × Int) × Int × Int × List Int)) : evC Try.prog G57 loopNil c57_3 (S57_3 a4 a5 a6 a7 a8) (turn Try.prog (0, 0) H57_3 (E57_3 m) k) = E57_3 (m + 1) [.v (.int .i64 a4), .v (.int .i64 a5), .v (.int .i64 a6), .row (.pair (.int .i64) (.pair (.int .i64) (.pair (.int .i64) (.pair (.int .i64) (.pair (.int .i64) (.pair (.int .i64) (.pair (.pair (.int .i64) (.int .u64)) (.pair (.int .i64) (.pair (.int .i64) (.sl 3 (.int .i64))))))))))) a7, .row (.pair (.int .i64) (.pair (.int .i64) (.pair (.int .i64) (.pair (.int .i64) (.pair (.int .i64) (.pair (.int .i64) (.pair (.pair (.int .i64) (.int .u64)) (.pair (.int .i64) (.pair (.int .i64) (.rs 3 (.int .i64))))))))))) a8] k := by kernel_rfl
theorem ok57_3 (m : Nat) : LoopOk Try.prog (0, 0) c57_3 (enter Try.prog (0, 0) H57_3 (E57_3 m)) := by
  refine loop_ok (G := G57) (L := loopNil) (envCons_good good122 (envCons_good good123 envNil_good)) (by intro x hx; simp [show loopsOf c57_3 = [] from by kernel_rfl] at hx) (fun ps k => by unfold E57_3; split <;> rfl) (fun m ps k r h => ?_) m
  have h0 := h
  unfold E57_3 at h
  split at h
  · exact ⟨S57_3 _ _ _ _ _, by kernel_rfl, (ev57_3 m k _ _ _ _ _).trans h0⟩
  · cases h
noncomputable def L57 : LEnv ((List (Int × Int × Int × Int × Int × Int × (Int × Int) × Int × Int × List Int))) := (loopCons 3 (enter Try.prog (0, 0) H57_3 (E57_3 fu)) loopNil)
theorem lq57 : loopsOf c57 = [c57_3] := by kernel_rfl
theorem fr57_3 : firstReg c57_3 = some 3 := by kernel_rfl
theorem le57_3 : L57 3 = enter Try.prog (0, 0) H57_3 (E57_3 fu) := by kernel_rfl
theorem lm57 : ∀ x ∈ [c57_3], ∀ id, firstReg x = some id → LoopOk Try.prog (0, 0) x (L57 id) := (loops_cons fr57_3 le57_3 (ok57_3 fu) loops_nil)
theorem lp57 : ∀ x ∈ loopsOf c57, ∀ id, firstReg x = some id → LoopOk Try.prog (0, 0) x (L57 id) := loops_eq lq57 lm57
noncomputable def R57 (x : (List (Int × Int × Int × Int × Int × Int × (Int × Int) × Int × Int × List Int))) : Res := ⟨[.one (.sl 0)], [], [⟨180, (.pair (.int .i64) (.pair (.int .i64) (.pair (.int .i64) (.pair (.int .i64) (.pair (.int .i64) (.pair (.int .i64) (.pair (.pair (.int .i64) (.int .u64)) (.pair (.int .i64) (.pair (.int .i64) (.sl 3 (.int .i64))))))))))), x, .own⟩]⟩
noncomputable def K57 (r : Res) : Option ((List (Int × Int × Int × Int × Int × Int × (Int × Int) × Int × Int × List Int))) :=
  match r with
  | ⟨[.one (.sl 0)], [], [⟨180, (.pair (.int .i64) (.pair (.int .i64) (.pair (.int .i64) (.pair (.int .i64) (.pair (.int .i64) (.pair (.int .i64) (.pair (.pair (.int .i64) (.int .u64)) (.pair (.int .i64) (.pair (.int .i64) (.sl 3 (.int .i64))))))))))), v1, .own⟩]⟩ => some (v1)
  | _ => none
noncomputable def E57 : Fun2 := fun args bs rs =>
  match args, bs, rs with
  | [.s1 (.one (.sl 0)), .s1 (.one (.val (.int .i64 a1))), .s1 (.one (.val (.int .i64 a2)))], [], [⟨180, (.pair (.int .i64) (.pair (.int .i64) (.pair (.int .i64) (.pair (.int .i64) (.pair (.int .i64) (.pair (.int .i64) (.pair (.pair (.int .i64) (.int .u64)) (.pair (.int .i64) (.pair (.int .i64) (.sl 3 (.int .i64))))))))))), a3, .ro⟩] => some ⟨(List (Int × Int × Int × Int × Int × Int × (Int × Int) × Int × Int × List Int)), S.CellsDue a1 a2 a3, R57⟩
  | _, _, _ => none
theorem ev57 (a1 a2 : Int) (a3 : List (Int × Int × Int × Int × Int × Int × (Int × Int) × Int × Int × List Int)) : evF Try.prog G57 L57 (0, 0) [] Try.f57 c57 [vl 0, vi a1, vi a2] [] [⟨180, (.pair (.int .i64) (.pair (.int .i64) (.pair (.int .i64) (.pair (.int .i64) (.pair (.int .i64) (.pair (.int .i64) (.pair (.pair (.int .i64) (.int .u64)) (.pair (.int .i64) (.pair (.int .i64) (.sl 3 (.int .i64))))))))))), a3, .ro⟩] K57 = S.CellsDue a1 a2 a3 := by kernel_rfl
theorem good57 : Vm.Good Try.prog 57 E57 := by
  refine evF_good (G := G57) (c := c57) (envCons_good good122 (envCons_good good123 envNil_good)) Try.func57 (by kernel_rfl) (by kernel_rfl) (0, 0) (fun args bs rs out t h h2 => ?_)
  unfold E57 at h
  split at h
  · injection h with h
    subst h
    exact ⟨rfl, [], L57, K57, lp57, (fun r t h => by unfold K57 at h; split at h; (injection h with h; subst h; rfl); cases h), (ev57 _ _ _).trans h2⟩
  · cases h
/-! ### I.in -/
noncomputable def G178 : Env := envNil
noncomputable def c178 : Code := bodyOf Try.f178
noncomputable def I.in (a1 a2 a3 : Int) : Option Bool :=
(bif (decide (a2 ≤ a1)) then
(some (decide (a1 ≤ a3)))
else
(some false))
noncomputable def R178 (x : Bool) : Res := ⟨[.one (ab x)], [], []⟩
noncomputable def K178 (r : Res) : Option Bool :=
  match r with
  | ⟨[.one (.val (.bool v1))], [], []⟩ => some (v1)
  | _ => none
noncomputable def E178 : Fun2 := fun args bs rs =>
  match args, bs, rs with
  | [.s1 (.one (.val (.int .i64 a1))), .s1 (.one (.val (.int .i64 a2))), .s1 (.one (.val (.int .i64 a3)))], [], [] => some ⟨Bool, I.in a1 a2 a3, R178⟩
  | _, _, _ => none
theorem ev178 (a1 a2 a3 : Int) : evF Try.prog G178 loopNil (0, 0) [] Try.f178 c178 [vi a1, vi a2, vi a3] [] [] K178 = I.in a1 a2 a3 := by kernel_rfl
theorem good178 : Vm.Good Try.prog 178 E178 := by
  refine evF_good (G := G178) (c := c178) envNil_good Try.func178 (by kernel_rfl) (by kernel_rfl) (0, 0) (fun args bs rs out t h h2 => ?_)
  unfold E178 at h
  split at h
  · injection h with h
    subst h
    exact ⟨rfl, [], loopNil, K178, (by intro x hx; simp [show loopsOf c178 = [] from by kernel_rfl] at hx), (fun r t h => by unfold K178 at h; split at h; (injection h with h; subst h; rfl); cases h), (ev178 _ _ _).trans h2⟩
  · cases h
/-! ### I.isId -/
noncomputable def G198 : Env := (envCons 178 [] E178 envNil)
noncomputable def c198 : Code := bodyOf Try.f198
noncomputable def I.isId (a1 : Int) : Option Bool :=
(Option.bind (I.in a1 0 3) fun r2 =>
(some r2))
noncomputable def R198 (x : Bool) : Res := ⟨[.one (ab x)], [], []⟩
noncomputable def K198 (r : Res) : Option Bool :=
  match r with
  | ⟨[.one (.val (.bool v1))], [], []⟩ => some (v1)
  | _ => none
noncomputable def E198 : Fun2 := fun args bs rs =>
  match args, bs, rs with
  | [.s1 (.one (.val (.int .i64 a1)))], [], [] => some ⟨Bool, I.isId a1, R198⟩
  | _, _, _ => none
theorem ev198 (a1 : Int) : evF Try.prog G198 loopNil (0, 0) [] Try.f198 c198 [vi a1] [] [] K198 = I.isId a1 := by kernel_rfl
theorem good198 : Vm.Good Try.prog 198 E198 := by
  refine evF_good (G := G198) (c := c198) (envCons_good good178 envNil_good) Try.func198 (by kernel_rfl) (by kernel_rfl) (0, 0) (fun args bs rs out t h h2 => ?_)
  unfold E198 at h
  split at h
  · injection h with h
    subst h
    exact ⟨rfl, [], loopNil, K198, (by intro x hx; simp [show loopsOf c198 = [] from by kernel_rfl] at hx), (fun r t h => by unfold K198 at h; split at h; (injection h with h; subst h; rfl); cases h), (ev198 _).trans h2⟩
  · cases h
/-! ### I.isKey -/
noncomputable def G199 : Env := (envCons 178 [] E178 envNil)
noncomputable def c199 : Code := bodyOf Try.f199
noncomputable def I.isKey (a1 : Int) : Option Bool :=
(Option.bind (I.in a1 0 15) fun r2 =>
(some r2))
noncomputable def R199 (x : Bool) : Res := ⟨[.one (ab x)], [], []⟩
noncomputable def K199 (r : Res) : Option Bool :=
  match r with
  | ⟨[.one (.val (.bool v1))], [], []⟩ => some (v1)
  | _ => none
noncomputable def E199 : Fun2 := fun args bs rs =>
  match args, bs, rs with
  | [.s1 (.one (.val (.int .i64 a1)))], [], [] => some ⟨Bool, I.isKey a1, R199⟩
  | _, _, _ => none
theorem ev199 (a1 : Int) : evF Try.prog G199 loopNil (0, 0) [] Try.f199 c199 [vi a1] [] [] K199 = I.isKey a1 := by kernel_rfl
theorem good199 : Vm.Good Try.prog 199 E199 := by
  refine evF_good (G := G199) (c := c199) (envCons_good good178 envNil_good) Try.func199 (by kernel_rfl) (by kernel_rfl) (0, 0) (fun args bs rs out t h h2 => ?_)
  unfold E199 at h
  split at h
  · injection h with h
    subst h
    exact ⟨rfl, [], loopNil, K199, (by intro x hx; simp [show loopsOf c199 = [] from by kernel_rfl] at hx), (fun r t h => by unfold K199 at h; split at h; (injection h with h; subst h; rfl); cases h), (ev199 _).trans h2⟩
  · cases h
/-! ### I.isCellPlace -/
noncomputable def G236 : Env := (envCons 198 [] E198 (envCons 199 [] E199 (envCons 178 [] E178 envNil)))
noncomputable def c236 : Code := bodyOf Try.f236
noncomputable def I.isCellPlace (a1 a2 a3 : Int) : Option Bool :=
(Option.bind (I.isId a1) fun r4 =>
(bif r4 then
(Option.bind (I.isKey a2) fun r5 =>
(bif r5 then
(Option.bind (I.in a3 0 15) fun r6 =>
(some r6))
else
(some false)))
else
(some false)))
noncomputable def R236 (x : Bool) : Res := ⟨[.one (ab x)], [], []⟩
noncomputable def K236 (r : Res) : Option Bool :=
  match r with
  | ⟨[.one (.val (.bool v1))], [], []⟩ => some (v1)
  | _ => none
noncomputable def E236 : Fun2 := fun args bs rs =>
  match args, bs, rs with
  | [.s1 (.one (.val (.int .i64 a1))), .s1 (.one (.val (.int .i64 a2))), .s1 (.one (.val (.int .i64 a3)))], [], [] => some ⟨Bool, I.isCellPlace a1 a2 a3, R236⟩
  | _, _, _ => none
theorem ev236 (a1 a2 a3 : Int) : evF Try.prog G236 loopNil (0, 0) [] Try.f236 c236 [vi a1, vi a2, vi a3] [] [] K236 = I.isCellPlace a1 a2 a3 := by kernel_rfl
theorem good236 : Vm.Good Try.prog 236 E236 := by
  refine evF_good (G := G236) (c := c236) (envCons_good good198 (envCons_good good199 (envCons_good good178 envNil_good))) Try.func236 (by kernel_rfl) (by kernel_rfl) (0, 0) (fun args bs rs out t h h2 => ?_)
  unfold E236 at h
  split at h
  · injection h with h
    subst h
    exact ⟨rfl, [], loopNil, K236, (by intro x hx; simp [show loopsOf c236 = [] from by kernel_rfl] at hx), (fun r t h => by unfold K236 at h; split at h; (injection h with h; subst h; rfl); cases h), (ev236 _ _ _).trans h2⟩
  · cases h
/-! ### I.Cell_win -/
noncomputable def G237 : Env := envNil
noncomputable def c237 : Code := bodyOf Try.f237
noncomputable def I.Cell_win (a1 a2 a3 a4 a5 a6 a7 a8 a9 a10 : Int) (a11 : List Int) : Option (Int × Int) :=
(some (a3, a4))
noncomputable def R237 (x : Int × Int) : Res := ⟨[.agg [ai x.1, ai x.2]], [], []⟩
noncomputable def K237 (r : Res) : Option (Int × Int) :=
  match r with
  | ⟨[.agg [.val (.int .i64 v1), .val (.int .i64 v2)]], [], []⟩ => some (v1, v2)
  | _ => none
noncomputable def E237 : Fun2 := fun args bs rs =>
  match args, bs, rs with
  | [.s1 (.agg [.val (.int .i64 a1), .val (.int .i64 a2), .val (.int .i64 a3), .val (.int .i64 a4), .val (.int .i64 a5), .val (.int .i64 a6), .val (.int .i64 a7), .val (.int .u64 a8), .val (.int .i64 a9), .val (.int .i64 a10), .sl 0])], [], [⟨3, (.int .i64), a11, .ro⟩] => some ⟨Int × Int, I.Cell_win a1 a2 a3 a4 a5 a6 a7 a8 a9 a10 a11, R237⟩
  | _, _, _ => none
theorem ev237 (a1 a2 a3 a4 a5 a6 a7 a8 a9 a10 : Int) (a11 : List Int) : evF Try.prog G237 loopNil (0, 0) [] Try.f237 c237 [.s1 (.agg [ai a1, ai a2, ai a3, ai a4, ai a5, ai a6, ai a7, ak .u64 a8, ai a9, ai a10, .sl 0])] [] [⟨3, (.int .i64), a11, .ro⟩] K237 = I.Cell_win a1 a2 a3 a4 a5 a6 a7 a8 a9 a10 a11 := by kernel_rfl
theorem good237 : Vm.Good Try.prog 237 E237 := by
  refine evF_good (G := G237) (c := c237) envNil_good Try.func237 (by kernel_rfl) (by kernel_rfl) (0, 0) (fun args bs rs out t h h2 => ?_)
  unfold E237 at h
  split at h
  · injection h with h
    subst h
    exact ⟨rfl, [], loopNil, K237, (by intro x hx; simp [show loopsOf c237 = [] from by kernel_rfl] at hx), (fun r t h => by unfold K237 at h; split at h; (injection h with h; subst h; rfl); cases h), (ev237 _ _ _ _ _ _ _ _ _ _ _).trans h2⟩
  · cases h
/-! ### I.isWin -/
noncomputable def G200 : Env := envNil
noncomputable def c200 : Code := bodyOf Try.f200
noncomputable def I.isWin (a1 a2 : Int) : Option Bool :=
(bif (decide (0 ≤ a1)) then
(bif (decide (a1 < a2)) then
(some (decide (a2 ≤ 1100)))
else
(some false))
else
(some false))
noncomputable def R200 (x : Bool) : Res := ⟨[.one (ab x)], [], []⟩
noncomputable def K200 (r : Res) : Option Bool :=
  match r with
  | ⟨[.one (.val (.bool v1))], [], []⟩ => some (v1)
  | _ => none
noncomputable def E200 : Fun2 := fun args bs rs =>
  match args, bs, rs with
  | [.s1 (.agg [.val (.int .i64 a1), .val (.int .i64 a2)])], [], [] => some ⟨Bool, I.isWin a1 a2, R200⟩
  | _, _, _ => none
theorem ev200 (a1 a2 : Int) : evF Try.prog G200 loopNil (0, 0) [] Try.f200 c200 [.s1 (.agg [ai a1, ai a2])] [] [] K200 = I.isWin a1 a2 := by kernel_rfl
theorem good200 : Vm.Good Try.prog 200 E200 := by
  refine evF_good (G := G200) (c := c200) envNil_good Try.func200 (by kernel_rfl) (by kernel_rfl) (0, 0) (fun args bs rs out t h h2 => ?_)
  unfold E200 at h
  split at h
  · injection h with h
    subst h
    exact ⟨rfl, [], loopNil, K200, (by intro x hx; simp [show loopsOf c200 = [] from by kernel_rfl] at hx), (fun r t h => by unfold K200 at h; split at h; (injection h with h; subst h; rfl); cases h), (ev200 _ _).trans h2⟩
  · cases h
/-! ### I.WideOf -/
noncomputable def G228 : Env := envNil
noncomputable def c228 : Code := bodyOf Try.f228
noncomputable def I.WideOf (a1 : Int) : Option (Int × Int) :=
(bif decide ((0 : Int) ≤ 63) then
(some ((Int.fdiv a1 (2 ^ min (Int.toNat 63) (IntKind.bits .i64))), (IntKind.wrap .u64 a1)))
else
none)
noncomputable def R228 (x : Int × Int) : Res := ⟨[.agg [ai x.1, ak .u64 x.2]], [], []⟩
noncomputable def K228 (r : Res) : Option (Int × Int) :=
  match r with
  | ⟨[.agg [.val (.int .i64 v1), .val (.int .u64 v2)]], [], []⟩ => some (v1, v2)
  | _ => none
noncomputable def E228 : Fun2 := fun args bs rs =>
  match args, bs, rs with
  | [.s1 (.one (.val (.int .i64 a1)))], [], [] => some ⟨Int × Int, I.WideOf a1, R228⟩
  | _, _, _ => none
theorem ev228 (a1 : Int) : evF Try.prog G228 loopNil (0, 0) [] Try.f228 c228 [vi a1] [] [] K228 = I.WideOf a1 := by kernel_rfl
theorem good228 : Vm.Good Try.prog 228 E228 := by
  refine evF_good (G := G228) (c := c228) envNil_good Try.func228 (by kernel_rfl) (by kernel_rfl) (0, 0) (fun args bs rs out t h h2 => ?_)
  unfold E228 at h
  split at h
  · injection h with h
    subst h
    exact ⟨rfl, [], loopNil, K228, (by intro x hx; simp [show loopsOf c228 = [] from by kernel_rfl] at hx), (fun r t h => by unfold K228 at h; split at h; (injection h with h; subst h; rfl); cases h), (ev228 _).trans h2⟩
  · cases h
/-! ### I.WideAdd -/
noncomputable def G226 : Env := envNil
noncomputable def c226 : Code := bodyOf Try.f226
noncomputable def I.WideAdd (a1 a2 a3 a4 : Int) : Option (Int × Int) :=
(bif decide ((0 : Int) ≤ a2 ∧ (0 : Int) ≤ a4 ∧ (0 : Int) ≤ 0 ∧ (0 : Int) ≤ 1) then
(some ((IntKind.wrap .i64 ((IntKind.wrap .i64 (a1 + a3)) + (IntKind.wrap .i64 ((a2 + a4 + 0) / 18446744073709551616)))), ((a2 + a4 + 0) % 18446744073709551616)))
else
none)
noncomputable def R226 (x : Int × Int) : Res := ⟨[.agg [ai x.1, ak .u64 x.2]], [], []⟩
noncomputable def K226 (r : Res) : Option (Int × Int) :=
  match r with
  | ⟨[.agg [.val (.int .i64 v1), .val (.int .u64 v2)]], [], []⟩ => some (v1, v2)
  | _ => none
noncomputable def E226 : Fun2 := fun args bs rs =>
  match args, bs, rs with
  | [.s1 (.agg [.val (.int .i64 a1), .val (.int .u64 a2)]), .s1 (.agg [.val (.int .i64 a3), .val (.int .u64 a4)])], [], [] => some ⟨Int × Int, I.WideAdd a1 a2 a3 a4, R226⟩
  | _, _, _ => none
theorem ev226 (a1 a2 a3 a4 : Int) : evF Try.prog G226 loopNil (0, 0) [] Try.f226 c226 [.s1 (.agg [ai a1, ak .u64 a2]), .s1 (.agg [ai a3, ak .u64 a4])] [] [] K226 = I.WideAdd a1 a2 a3 a4 := by kernel_rfl
theorem good226 : Vm.Good Try.prog 226 E226 := by
  refine evF_good (G := G226) (c := c226) envNil_good Try.func226 (by kernel_rfl) (by kernel_rfl) (0, 0) (fun args bs rs out t h h2 => ?_)
  unfold E226 at h
  split at h
  · injection h with h
    subst h
    exact ⟨rfl, [], loopNil, K226, (by intro x hx; simp [show loopsOf c226 = [] from by kernel_rfl] at hx), (fun r t h => by unfold K226 at h; split at h; (injection h with h; subst h; rfl); cases h), (ev226 _ _ _ _).trans h2⟩
  · cases h
/-! ### I.WideNeg -/
noncomputable def G227 : Env := (envCons 226 [] E226 envNil)
noncomputable def c227 : Code := bodyOf Try.f227
noncomputable def I.WideNeg (a1 a2 : Int) : Option (Int × Int) :=
(let v3 : Int := (Go.bits .xor .i64 (if IntKind.signed .i64 then -1 else IntKind.max .i64) a1)
(let v4 : Int := (Go.bits .xor .u64 (if IntKind.signed .u64 then -1 else IntKind.max .u64) a2)
(Option.bind (I.WideAdd v3 v4 0 1) fun r5 =>
(some (r5.1, r5.2)))))
noncomputable def R227 (x : Int × Int) : Res := ⟨[.agg [ai x.1, ak .u64 x.2]], [], []⟩
noncomputable def K227 (r : Res) : Option (Int × Int) :=
  match r with
  | ⟨[.agg [.val (.int .i64 v1), .val (.int .u64 v2)]], [], []⟩ => some (v1, v2)
  | _ => none
noncomputable def E227 : Fun2 := fun args bs rs =>
  match args, bs, rs with
  | [.s1 (.agg [.val (.int .i64 a1), .val (.int .u64 a2)])], [], [] => some ⟨Int × Int, I.WideNeg a1 a2, R227⟩
  | _, _, _ => none
theorem ev227 (a1 a2 : Int) : evF Try.prog G227 loopNil (0, 0) [] Try.f227 c227 [.s1 (.agg [ai a1, ak .u64 a2])] [] [] K227 = I.WideNeg a1 a2 := by kernel_rfl
theorem good227 : Vm.Good Try.prog 227 E227 := by
  refine evF_good (G := G227) (c := c227) (envCons_good good226 envNil_good) Try.func227 (by kernel_rfl) (by kernel_rfl) (0, 0) (fun args bs rs out t h h2 => ?_)
  unfold E227 at h
  split at h
  · injection h with h
    subst h
    exact ⟨rfl, [], loopNil, K227, (by intro x hx; simp [show loopsOf c227 = [] from by kernel_rfl] at hx), (fun r t h => by unfold K227 at h; split at h; (injection h with h; subst h; rfl); cases h), (ev227 _ _).trans h2⟩
  · cases h
/-! ### G.bits.Mul64 -/
noncomputable def G251 : Env := envNil
noncomputable def c251 : Code := bodyOf Try.f251
noncomputable def G.bits.Mul64 (a1 a2 : Int) : Option (Int × Int) :=
(let v3 : Int := (Go.bits .and .u64 a1 4294967295)
(bif decide ((0 : Int) ≤ 32) then
(let v4 : Int := (Int.fdiv a1 (2 ^ min (Int.toNat 32) (IntKind.bits .u64)))
(let v5 : Int := (Go.bits .and .u64 a2 4294967295)
(bif decide ((0 : Int) ≤ 32) then
(let v6 : Int := (Int.fdiv a2 (2 ^ min (Int.toNat 32) (IntKind.bits .u64)))
(bif decide ((0 : Int) ≤ 32) then
(let v10 : Int := (IntKind.wrap .u64 ((IntKind.wrap .u64 (v4 * v5)) + (Int.fdiv (IntKind.wrap .u64 (v3 * v5)) (2 ^ min (Int.toNat 32) (IntKind.bits .u64)))))
(bif decide ((0 : Int) ≤ 32) then
(bif decide ((0 : Int) ≤ 32) then
(some ((IntKind.wrap .u64 ((IntKind.wrap .u64 ((IntKind.wrap .u64 (v4 * v6)) + (Int.fdiv v10 (2 ^ min (Int.toNat 32) (IntKind.bits .u64))))) + (Int.fdiv (IntKind.wrap .u64 ((Go.bits .and .u64 v10 4294967295) + (IntKind.wrap .u64 (v3 * v6)))) (2 ^ min (Int.toNat 32) (IntKind.bits .u64))))), (IntKind.wrap .u64 (a1 * a2))))
else
none)
else
none))
else
none))
else
none)))
else
none))
noncomputable def R251 (x : Int × Int) : Res := ⟨[.one (ak .u64 x.1), .one (ak .u64 x.2)], [], []⟩
noncomputable def K251 (r : Res) : Option (Int × Int) :=
  match r with
  | ⟨[.one (.val (.int .u64 v1)), .one (.val (.int .u64 v2))], [], []⟩ => some (v1, v2)
  | _ => none
noncomputable def E251 : Fun2 := fun args bs rs =>
  match args, bs, rs with
  | [.s1 (.one (.val (.int .u64 a1))), .s1 (.one (.val (.int .u64 a2)))], [], [] => some ⟨Int × Int, G.bits.Mul64 a1 a2, R251⟩
  | _, _, _ => none
theorem ev251 (a1 a2 : Int) : evF Try.prog G251 loopNil (0, 0) [] Try.f251 c251 [vk .u64 a1, vk .u64 a2] [] [] K251 = G.bits.Mul64 a1 a2 := by kernel_rfl
theorem good251 : Vm.Good Try.prog 251 E251 := by
  refine evF_good (G := G251) (c := c251) envNil_good Try.func251 (by kernel_rfl) (by kernel_rfl) (0, 0) (fun args bs rs out t h h2 => ?_)
  unfold E251 at h
  split at h
  · injection h with h
    subst h
    exact ⟨rfl, [], loopNil, K251, (by intro x hx; simp [show loopsOf c251 = [] from by kernel_rfl] at hx), (fun r t h => by unfold K251 at h; split at h; (injection h with h; subst h; rfl); cases h), (ev251 _ _).trans h2⟩
  · cases h
/-! ### I.wideTimes -/
noncomputable def G230 : Env := (envCons 251 [] E251 (envCons 227 [] E227 envNil))
noncomputable def c230 : Code := bodyOf Try.f230
noncomputable def I.wideTimes (a1 a2 : Int) : Option (Int × Int) :=
(let v3 : Int := (IntKind.wrap .u64 a1)
(bif (decide (a1 < 0)) then
(Option.bind (G.bits.Mul64 (IntKind.wrap .u64 (0 - v3)) (IntKind.wrap .u64 a2)) fun r7 =>
(let v8 : Int := (IntKind.wrap .i64 r7.1)
(bif (decide (a1 < 0)) then
(Option.bind (I.WideNeg v8 r7.2) fun r10 =>
(some (r10.1, r10.2)))
else
(some (v8, r7.2)))))
else
(Option.bind (G.bits.Mul64 v3 (IntKind.wrap .u64 a2)) fun r12 =>
(let v13 : Int := (IntKind.wrap .i64 r12.1)
(bif (decide (a1 < 0)) then
(Option.bind (I.WideNeg v13 r12.2) fun r15 =>
(some (r15.1, r15.2)))
else
(some (v13, r12.2)))))))
noncomputable def R230 (x : Int × Int) : Res := ⟨[.agg [ai x.1, ak .u64 x.2]], [], []⟩
noncomputable def K230 (r : Res) : Option (Int × Int) :=
  match r with
  | ⟨[.agg [.val (.int .i64 v1), .val (.int .u64 v2)]], [], []⟩ => some (v1, v2)
  | _ => none
noncomputable def E230 : Fun2 := fun args bs rs =>
  match args, bs, rs with
  | [.s1 (.one (.val (.int .i64 a1))), .s1 (.one (.val (.int .i64 a2)))], [], [] => some ⟨Int × Int, I.wideTimes a1 a2, R230⟩
  | _, _, _ => none
theorem ev230 (a1 a2 : Int) : evF Try.prog G230 loopNil (0, 0) [] Try.f230 c230 [vi a1, vi a2] [] [] K230 = I.wideTimes a1 a2 := by kernel_rfl
theorem good230 : Vm.Good Try.prog 230 E230 := by
  refine evF_good (G := G230) (c := c230) (envCons_good good251 (envCons_good good227 envNil_good)) Try.func230 (by kernel_rfl) (by kernel_rfl) (0, 0) (fun args bs rs out t h h2 => ?_)
  unfold E230 at h
  split at h
  · injection h with h
    subst h
    exact ⟨rfl, [], loopNil, K230, (by intro x hx; simp [show loopsOf c230 = [] from by kernel_rfl] at hx), (fun r t h => by unfold K230 at h; split at h; (injection h with h; subst h; rfl); cases h), (ev230 _ _).trans h2⟩
  · cases h
/-! ### G.cmp.isNaN_int -/
noncomputable def G241 : Env := envNil
noncomputable def c241 : Code := bodyOf Try.f241
noncomputable def G.cmp.isNaN_int (a1 : Int) : Option Bool :=
(some (a1 != a1))
noncomputable def R241 (x : Bool) : Res := ⟨[.one (ab x)], [], []⟩
noncomputable def K241 (r : Res) : Option Bool :=
  match r with
  | ⟨[.one (.val (.bool v1))], [], []⟩ => some (v1)
  | _ => none
noncomputable def E241 : Fun2 := fun args bs rs =>
  match args, bs, rs with
  | [.s1 (.one (.val (.int .i64 a1)))], [], [] => some ⟨Bool, G.cmp.isNaN_int a1, R241⟩
  | _, _, _ => none
theorem ev241 (a1 : Int) : evF Try.prog G241 loopNil (0, 0) [] Try.f241 c241 [vi a1] [] [] K241 = G.cmp.isNaN_int a1 := by kernel_rfl
theorem good241 : Vm.Good Try.prog 241 E241 := by
  refine evF_good (G := G241) (c := c241) envNil_good Try.func241 (by kernel_rfl) (by kernel_rfl) (0, 0) (fun args bs rs out t h h2 => ?_)
  unfold E241 at h
  split at h
  · injection h with h
    subst h
    exact ⟨rfl, [], loopNil, K241, (by intro x hx; simp [show loopsOf c241 = [] from by kernel_rfl] at hx), (fun r t h => by unfold K241 at h; split at h; (injection h with h; subst h; rfl); cases h), (ev241 _).trans h2⟩
  · cases h
/-! ### G.cmp.Compare_int -/
noncomputable def G210 : Env := (envCons 241 [] E241 envNil)
noncomputable def c210 : Code := bodyOf Try.f210
noncomputable def G.cmp.Compare_int (a1 a2 : Int) : Option Int :=
(Option.bind (G.cmp.isNaN_int a1) fun r3 =>
(Option.bind (G.cmp.isNaN_int a2) fun r4 =>
(bif r3 then
(bif r4 then
(some 0)
else
(some (-1)))
else
(bif r4 then
(some 1)
else
(bif (decide (a1 < a2)) then
(some (-1))
else
(bif (decide (a2 < a1)) then
(some 1)
else
(some 0)))))))
noncomputable def R210 (x : Int) : Res := ⟨[.one (ai x)], [], []⟩
noncomputable def K210 (r : Res) : Option Int :=
  match r with
  | ⟨[.one (.val (.int .i64 v1))], [], []⟩ => some (v1)
  | _ => none
noncomputable def E210 : Fun2 := fun args bs rs =>
  match args, bs, rs with
  | [.s1 (.one (.val (.int .i64 a1))), .s1 (.one (.val (.int .i64 a2)))], [], [] => some ⟨Int, G.cmp.Compare_int a1 a2, R210⟩
  | _, _, _ => none
theorem ev210 (a1 a2 : Int) : evF Try.prog G210 loopNil (0, 0) [] Try.f210 c210 [vi a1, vi a2] [] [] K210 = G.cmp.Compare_int a1 a2 := by kernel_rfl
theorem good210 : Vm.Good Try.prog 210 E210 := by
  refine evF_good (G := G210) (c := c210) (envCons_good good241 envNil_good) Try.func210 (by kernel_rfl) (by kernel_rfl) (0, 0) (fun args bs rs out t h h2 => ?_)
  unfold E210 at h
  split at h
  · injection h with h
    subst h
    exact ⟨rfl, [], loopNil, K210, (by intro x hx; simp [show loopsOf c210 = [] from by kernel_rfl] at hx), (fun r t h => by unfold K210 at h; split at h; (injection h with h; subst h; rfl); cases h), (ev210 _ _).trans h2⟩
  · cases h
/-! ### G.cmp.isNaN_uint64 -/
noncomputable def G257 : Env := envNil
noncomputable def c257 : Code := bodyOf Try.f257
noncomputable def G.cmp.isNaN_uint64 (a1 : Int) : Option Bool :=
(some (a1 != a1))
noncomputable def R257 (x : Bool) : Res := ⟨[.one (ab x)], [], []⟩
noncomputable def K257 (r : Res) : Option Bool :=
  match r with
  | ⟨[.one (.val (.bool v1))], [], []⟩ => some (v1)
  | _ => none
noncomputable def E257 : Fun2 := fun args bs rs =>
  match args, bs, rs with
  | [.s1 (.one (.val (.int .u64 a1)))], [], [] => some ⟨Bool, G.cmp.isNaN_uint64 a1, R257⟩
  | _, _, _ => none
theorem ev257 (a1 : Int) : evF Try.prog G257 loopNil (0, 0) [] Try.f257 c257 [vk .u64 a1] [] [] K257 = G.cmp.isNaN_uint64 a1 := by kernel_rfl
theorem good257 : Vm.Good Try.prog 257 E257 := by
  refine evF_good (G := G257) (c := c257) envNil_good Try.func257 (by kernel_rfl) (by kernel_rfl) (0, 0) (fun args bs rs out t h h2 => ?_)
  unfold E257 at h
  split at h
  · injection h with h
    subst h
    exact ⟨rfl, [], loopNil, K257, (by intro x hx; simp [show loopsOf c257 = [] from by kernel_rfl] at hx), (fun r t h => by unfold K257 at h; split at h; (injection h with h; subst h; rfl); cases h), (ev257 _).trans h2⟩
  · cases h
/-! ### G.cmp.Compare_uint64 -/
noncomputable def G250 : Env := (envCons 257 [] E257 envNil)
noncomputable def c250 : Code := bodyOf Try.f250
noncomputable def G.cmp.Compare_uint64 (a1 a2 : Int) : Option Int :=
(Option.bind (G.cmp.isNaN_uint64 a1) fun r3 =>
(Option.bind (G.cmp.isNaN_uint64 a2) fun r4 =>
(bif r3 then
(bif r4 then
(some 0)
else
(some (-1)))
else
(bif r4 then
(some 1)
else
(bif (decide (a1 < a2)) then
(some (-1))
else
(bif (decide (a2 < a1)) then
(some 1)
else
(some 0)))))))
noncomputable def R250 (x : Int) : Res := ⟨[.one (ai x)], [], []⟩
noncomputable def K250 (r : Res) : Option Int :=
  match r with
  | ⟨[.one (.val (.int .i64 v1))], [], []⟩ => some (v1)
  | _ => none
noncomputable def E250 : Fun2 := fun args bs rs =>
  match args, bs, rs with
  | [.s1 (.one (.val (.int .u64 a1))), .s1 (.one (.val (.int .u64 a2)))], [], [] => some ⟨Int, G.cmp.Compare_uint64 a1 a2, R250⟩
  | _, _, _ => none
theorem ev250 (a1 a2 : Int) : evF Try.prog G250 loopNil (0, 0) [] Try.f250 c250 [vk .u64 a1, vk .u64 a2] [] [] K250 = G.cmp.Compare_uint64 a1 a2 := by kernel_rfl
theorem good250 : Vm.Good Try.prog 250 E250 := by
  refine evF_good (G := G250) (c := c250) (envCons_good good257 envNil_good) Try.func250 (by kernel_rfl) (by kernel_rfl) (0, 0) (fun args bs rs out t h h2 => ?_)
  unfold E250 at h
  split at h
  · injection h with h
    subst h
    exact ⟨rfl, [], loopNil, K250, (by intro x hx; simp [show loopsOf c250 = [] from by kernel_rfl] at hx), (fun r t h => by unfold K250 at h; split at h; (injection h with h; subst h; rfl); cases h), (ev250 _ _).trans h2⟩
  · cases h
/-! ### G.cmp.Or_int -/
noncomputable def G209 : Env := envNil
noncomputable def c209 : Code := bodyOf Try.f209
noncomputable def c209_3 : Code := (loopsOf c209).getD 0 .skip
noncomputable def G.cmp.Or_int_l0 : Nat → (Int → Int → Option Int) → (Int → Option Int) → Int → Int → Int → List Int → Option Int
  | 0, _, _, _, _, _, _ => none
  | m + 1, e3_0, e3_1, a3, a4, a5, a6 =>
    (bif (decide (a5 < a4)) then
    (bif decide ((0 : Int) ≤ a5 ∧ a5 < (a6.length : Int)) then
    (let v8 : Int := (nthI a6 a5 (0 : Int))
    (bif (v8 != a3) then
    (e3_0 v8 a3)
    else
    (G.cmp.Or_int_l0 m e3_0 e3_1 a3 a4 (IntKind.wrap .i64 (a5 + 1)) a6)))
    else
    none)
    else
    (e3_1 a3))
noncomputable def G.cmp.Or_int (a1 : List Int) : Option Int :=
(G.cmp.Or_int_l0 fu (fun y10 y11 =>
(some y10)) (fun y12 =>
(some y12)) 0 (a1.length : Int) 0 a1)
noncomputable def H209_3 : LoopH := ⟨⟨(hu 3 (hh :: (hu 2 ((.one (.sl 0)) :: hh :: hh :: (hu 9 []))))), [], [(3, (.int .i64), .ro)]⟩, [0, 1, 2, 4, 5, 9, 10, 11, 12, 13, 14, 15, 16, 17], [], [0, 1, 4, 5, 6, 7, 8, 9, 10, 11, 12, 13, 14, 15, 16, 17], []⟩
noncomputable def E209_3 (m : Nat) (ps : List Prm) (k : Kont Int) : Option Int :=
  match ps with
  | [.v (.int .i64 a3), .v (.int .i64 a4), .v (.int .i64 a5), .row (.int .i64) a6] => G.cmp.Or_int_l0 m (fun z16 z17 => k .ret (⟨(vu 2 ((vi z16) :: (vi z17) :: (vu 14 []))), [], []⟩ : St)) (fun z18 => k (.exit 0) (⟨(vu 3 ((vi z18) :: (vu 14 []))), [], []⟩ : St)) a3 a4 a5 a6
  | _ => none
noncomputable def S209_3 (a3 a4 a5 : Int) (a6 : List Int) : St := (⟨(vu 3 ((vi a3) :: (vu 2 ((vl 0) :: (vi a4) :: (vi a5) :: (vu 9 []))))), [], [⟨3, (.int .i64), a6, .ro⟩]⟩ : St)
theorem ev209_3 (m : Nat) (k : Kont Int) (a3 a4 a5 : Int) (a6 : List Int) : evC Try.prog G209 loopNil c209_3 (S209_3 a3 a4 a5 a6) (turn Try.prog (0, 0) H209_3 (E209_3 m) k) = E209_3 (m + 1) [.v (.int .i64 a3), .v (.int .i64 a4), .v (.int .i64 a5), .row (.int .i64) a6] k := by kernel_rfl
theorem ok209_3 (m : Nat) : LoopOk Try.prog (0, 0) c209_3 (enter Try.prog (0, 0) H209_3 (E209_3 m)) := by
  refine loop_ok (G := G209) (L := loopNil) envNil_good (by intro x hx; simp [show loopsOf c209_3 = [] from by kernel_rfl] at hx) (fun ps k => by unfold E209_3; split <;> rfl) (fun m ps k r h => ?_) m
  have h0 := h
  unfold E209_3 at h
  split at h
  · exact ⟨S209_3 _ _ _ _, by kernel_rfl, (ev209_3 m k _ _ _ _).trans h0⟩
  · cases h
noncomputable def L209 : LEnv Int := (loopCons 3 (enter Try.prog (0, 0) H209_3 (E209_3 fu)) loopNil)
theorem lq209 : loopsOf c209 = [c209_3] := by kernel_rfl
theorem fr209_3 : firstReg c209_3 = some 3 := by kernel_rfl
theorem le209_3 : L209 3 = enter Try.prog (0, 0) H209_3 (E209_3 fu) := by kernel_rfl
theorem lm209 : ∀ x ∈ [c209_3], ∀ id, firstReg x = some id → LoopOk Try.prog (0, 0) x (L209 id) := (loops_cons fr209_3 le209_3 (ok209_3 fu) loops_nil)
theorem lp209 : ∀ x ∈ loopsOf c209, ∀ id, firstReg x = some id → LoopOk Try.prog (0, 0) x (L209 id) := loops_eq lq209 lm209
noncomputable def R209 (x : Int) : Res := ⟨[.one (ai x)], [], []⟩
noncomputable def K209 (r : Res) : Option Int :=
  match r with
  | ⟨[.one (.val (.int .i64 v1))], [], []⟩ => some (v1)
  | _ => none
noncomputable def E209 : Fun2 := fun args bs rs =>
  match args, bs, rs with
  | [.s1 (.one (.sl 0))], [], [⟨3, (.int .i64), a1, .ro⟩] => some ⟨Int, G.cmp.Or_int a1, R209⟩
  | _, _, _ => none
theorem ev209 (a1 : List Int) : evF Try.prog G209 L209 (0, 0) [] Try.f209 c209 [vl 0] [] [⟨3, (.int .i64), a1, .ro⟩] K209 = G.cmp.Or_int a1 := by kernel_rfl
theorem good209 : Vm.Good Try.prog 209 E209 := by
  refine evF_good (G := G209) (c := c209) envNil_good Try.func209 (by kernel_rfl) (by kernel_rfl) (0, 0) (fun args bs rs out t h h2 => ?_)
  unfold E209 at h
  split at h
  · injection h with h
    subst h
    exact ⟨rfl, [], L209, K209, lp209, (fun r t h => by unfold K209 at h; split at h; (injection h with h; subst h; rfl); cases h), (ev209 _).trans h2⟩
  · cases h
/-! ### I.WideCmp -/
noncomputable def G229 : Env := (envCons 210 [] E210 (envCons 250 [] E250 (envCons 209 [] E209 envNil)))
noncomputable def c229 : Code := bodyOf Try.f229
noncomputable def I.WideCmp (a1 a2 a3 a4 : Int) : Option Int :=
(Option.bind (G.cmp.Compare_int a1 a3) fun r5 =>
(Option.bind (G.cmp.Compare_uint64 a2 a4) fun r6 =>
(Option.bind (G.cmp.Or_int [r5, r6]) fun r7 =>
(some r7))))
noncomputable def R229 (x : Int) : Res := ⟨[.one (ai x)], [], []⟩
noncomputable def K229 (r : Res) : Option Int :=
  match r with
  | ⟨[.one (.val (.int .i64 v1))], [], []⟩ => some (v1)
  | _ => none
noncomputable def E229 : Fun2 := fun args bs rs =>
  match args, bs, rs with
  | [.s1 (.agg [.val (.int .i64 a1), .val (.int .u64 a2)]), .s1 (.agg [.val (.int .i64 a3), .val (.int .u64 a4)])], [], [] => some ⟨Int, I.WideCmp a1 a2 a3 a4, R229⟩
  | _, _, _ => none
theorem ev229 (a1 a2 a3 a4 : Int) : evF Try.prog G229 loopNil (0, 0) [] Try.f229 c229 [.s1 (.agg [ai a1, ak .u64 a2]), .s1 (.agg [ai a3, ak .u64 a4])] [] [] K229 = I.WideCmp a1 a2 a3 a4 := by kernel_rfl
theorem good229 : Vm.Good Try.prog 229 E229 := by
  refine evF_good (G := G229) (c := c229) (envCons_good good210 (envCons_good good250 (envCons_good good209 envNil_good))) Try.func229 (by kernel_rfl) (by kernel_rfl) (0, 0) (fun args bs rs out t h h2 => ?_)
  unfold E229 at h
  split at h
  · injection h with h
    subst h
    exact ⟨rfl, [], loopNil, K229, (by intro x hx; simp [show loopsOf c229 = [] from by kernel_rfl] at hx), (fun r t h => by unfold K229 at h; split at h; (injection h with h; subst h; rfl); cases h), (ev229 _ _ _ _).trans h2⟩
  · cases h
/-! ### I.isAgg -/
noncomputable def G166 : Env := (envCons 178 [] E178 (envCons 228 [] E228 (envCons 227 [] E227 (envCons 226 [] E226 (envCons 230 [] E230 (envCons 229 [] E229 envNil))))))
noncomputable def c166 : Code := bodyOf Try.f166
noncomputable def c166_7 : Code := (loopsOf c166).getD 0 .skip
noncomputable def I.isAgg_l0 : Nat → (Bool → Int → Int → Int → Int → Int → Int → Int → List Int → Option Bool) → (Int → Int → Int → Int → Int → Int → Int → List Int → Option Bool) → Int → Int → Int → Int → Int → Int → Int → Int → Int → List Int → Option Bool
  | 0, _, _, _, _, _, _, _, _, _, _, _, _ => none
  | m + 1, e7_0, e7_1, a14, a15, a16, a17, a18, a19, a20, a21, a22, a23 =>
    (bif (decide (a15 < a14)) then
    (bif decide ((0 : Int) ≤ a15 ∧ a15 < (a23.length : Int)) then
    (let v25 : Int := (nthI a23 a15 (0 : Int))
    (bif (decide (0 < a15)) then
    (let v27 : Int := (IntKind.wrap .i64 (a15 - 1))
    (bif decide ((0 : Int) ≤ v27 ∧ v27 < (a23.length : Int)) then
    (bif (decide ((nthI a23 v27 (0 : Int)) < v25)) then
    (e7_0 false a16 a17 a18 a19 a20 a21 a22 a23)
    else
    (Option.bind (I.WideOf v25) fun r29 =>
    (Option.bind (I.WideNeg r29.1 r29.2) fun r30 =>
    (Option.bind (I.WideAdd a21 a22 r30.1 r30.2) fun r31 =>
    (I.isAgg_l0 m e7_0 e7_1 a14 (IntKind.wrap .i64 (a15 + 1)) a16 a17 a18 a19 a20 r31.1 r31.2 a23)))))
    else
    none))
    else
    (Option.bind (I.WideOf v25) fun r33 =>
    (Option.bind (I.WideNeg r33.1 r33.2) fun r34 =>
    (Option.bind (I.WideAdd a21 a22 r34.1 r34.2) fun r35 =>
    (I.isAgg_l0 m e7_0 e7_1 a14 (IntKind.wrap .i64 (a15 + 1)) a16 a17 a18 a19 a20 r35.1 r35.2 a23))))))
    else
    none)
    else
    (e7_1 a16 a17 a18 a19 a20 a21 a22 a23))
noncomputable def I.isAgg (a1 a2 a3 a4 a5 : Int) (a6 : List Int) : Option Bool :=
(bif (a1 == 0) then
(bif ((a2 == 0) && ((a3 == 0) && true)) then
(bif (a4 == 0) then
(bif (a5 == 0) then
(some ((a6.length : Int) == 0))
else
(some false))
else
(some false))
else
(some false))
else
(Option.bind (I.in a1 1 1000000) fun r9 =>
(bif (!r9) then
(some false)
else
(bif ((a6.length : Int) != (if 4 < a1 then 4 else a1)) then
(some false)
else
(bif decide ((0 : Int) ≤ 0 ∧ 0 < (a6.length : Int)) then
(bif ((nthI a6 0 (0 : Int)) != a5) then
(some false)
else
(I.isAgg_l0 fu (fun y37 y38 y39 y40 y41 y42 y43 y44 y45 =>
(some y37)) (fun y46 y47 y48 y49 y50 y51 y52 y53 =>
(let v55 : Int := (IntKind.wrap .i64 ((y53.length : Int) - 1))
(bif decide ((0 : Int) ≤ v55 ∧ v55 < (y53.length : Int)) then
(let v56 : Int := (nthI y53 v55 (0 : Int))
(bif (decide (y46 ≤ 4)) then
(bif (y49 == v56) then
(some ((y51 == 0) && ((y52 == 0) && true)))
else
(some false))
else
(let v60 : Int := (IntKind.wrap .i64 ((IntKind.wrap .i64 (y46 - 4)) - 1))
(Option.bind (I.WideOf y49) fun r61 =>
(Option.bind (I.WideNeg r61.1 r61.2) fun r62 =>
(Option.bind (I.WideAdd y51 y52 r62.1 r62.2) fun r63 =>
(bif (decide (y49 ≤ v56)) then
(Option.bind (I.wideTimes y49 v60) fun r65 =>
(Option.bind (I.WideCmp r65.1 r65.2 r63.1 r63.2) fun r66 =>
(bif (decide (r66 ≤ 0)) then
(Option.bind (I.wideTimes v56 v60) fun r68 =>
(Option.bind (I.WideCmp r63.1 r63.2 r68.1 r68.2) fun r69 =>
(some (decide (r69 ≤ 0)))))
else
(some false))))
else
(some false))))))))
else
none))) (a6.length : Int) 0 a1 a2 a3 a4 a5 a2 a3 a6))
else
none)))))
noncomputable def H166_7 : LoopH := ⟨⟨((.one (.unk)) :: (.one (.ptr 0 0)) :: (.one (.unk)) :: (.one (.ptr 1 0)) :: (hu 52 ((.one (.sl 0)) :: hh :: hh :: (hu 73 [])))), [(135, [.hole, .hole, .hole, .hole, .hole, .sl 0]), (133, [.hole, .hole])], [(3, (.int .i64), .ro)]⟩, [0, 2, 4, 5, 6, 7, 8, 9, 10, 11, 12, 13, 14, 15, 16, 17, 18, 19, 20, 21, 22, 23, 24, 25, 26, 27, 28, 29, 30, 31, 32, 33, 34, 35, 36, 37, 38, 39, 40, 41, 42, 43, 44, 45, 46, 47, 48, 49, 50, 51, 52, 53, 54, 55, 59, 60, 61, 62, 63, 64, 65, 66, 67, 68, 69, 70, 71, 72, 73, 74, 75, 76, 77, 78, 79, 80, 81, 82, 83, 84, 85, 86, 87, 88, 89, 90, 91, 92, 93, 94, 95, 96, 97, 98, 99, 100, 101, 102, 103, 104, 105, 106, 107, 108, 109, 110, 111, 112, 113, 114, 115, 116, 117, 118, 119, 120, 121, 122, 123, 124, 125, 126, 127, 128, 129, 130, 131], [], [0, 4, 5, 6, 7, 8, 9, 10, 11, 12, 13, 14, 15, 16, 17, 18, 19, 20, 21, 22, 23, 24, 25, 26, 27, 28, 29, 30, 31, 32, 33, 34, 35, 36, 37, 38, 39, 40, 41, 42, 43, 44, 45, 46, 47, 48, 49, 50, 51, 52, 53, 54, 55, 56, 57, 58, 59, 60, 61, 62, 63, 64, 65, 66, 67, 68, 69, 70, 71, 72, 73, 74, 75, 76, 77, 78, 79, 80, 81, 82, 83, 84, 85, 86, 87, 88, 89, 90, 91, 92, 93, 94, 95, 96, 97, 98, 99, 100, 101, 102, 103, 104, 105, 106, 107, 108, 109, 110, 111, 112, 113, 114, 115, 116, 117, 118, 119, 120, 121, 122, 123, 124, 125, 126, 127, 128, 129, 130, 131], []⟩
noncomputable def E166_7 (m : Nat) (ps : List Prm) (k : Kont Bool) : Option Bool :=
  match ps with
  | [.v (.int .i64 a14), .v (.int .i64 a15), .v (.int .i64 a16), .v (.int .i64 a17), .v (.int .u64 a18), .v (.int .i64 a19), .v (.int .i64 a20), .v (.int .i64 a21), .v (.int .u64 a22), .row (.int .i64) a23] => I.isAgg_l0 m (fun z88 z89 z90 z91 z92 z93 z94 z95 z96 => k .ret (⟨((.s1 (.one (.unk))) :: (vp 0 0) :: (vb z88) :: (vp 1 0) :: (vu 128 [])), [(135, [ai z89, ai z90, ak .u64 z91, ai z92, ai z93, .sl 0]), (133, [ai z94, ak .u64 z95])], [⟨3, (.int .i64), z96, .ro⟩]⟩ : St)) (fun z97 z98 z99 z100 z101 z102 z103 z104 => k (.exit 0) (⟨((.s1 (.one (.unk))) :: (vp 0 0) :: (.s1 (.one (.unk))) :: (vp 1 0) :: (vu 128 [])), [(135, [ai z97, ai z98, ak .u64 z99, ai z100, ai z101, .sl 0]), (133, [ai z102, ak .u64 z103])], [⟨3, (.int .i64), z104, .ro⟩]⟩ : St)) a14 a15 a16 a17 a18 a19 a20 a21 a22 a23
  | _ => none
noncomputable def S166_7 (a14 a15 a16 a17 a18 a19 a20 a21 a22 : Int) (a23 : List Int) : St := (⟨((.s1 (.one (.unk))) :: (vp 0 0) :: (.s1 (.one (.unk))) :: (vp 1 0) :: (vu 52 ((vl 0) :: (vi a14) :: (vi a15) :: (vu 73 [])))), [(135, [ai a16, ai a17, ak .u64 a18, ai a19, ai a20, .sl 0]), (133, [ai a21, ak .u64 a22])], [⟨3, (.int .i64), a23, .ro⟩]⟩ : St)
theorem ev166_7 (m : Nat) (k : Kont Bool) (a14 a15 a16 a17 a18 a19 a20 a21 a22 : Int) (a23 : List Int) : evC Try.prog G166 loopNil c166_7 (S166_7 a14 a15 a16 a17 a18 a19 a20 a21 a22 a23) (turn Try.prog (0, 0) H166_7 (E166_7 m) k) = E166_7 (m + 1) [.v (.int .i64 a14), .v (.int .i64 a15), .v (.int .i64 a16), .v (.int .i64 a17), .v (.int .u64 a18), .v (.int .i64 a19), .v (.int .i64 a20), .v (.int .i64 a21), .v (.int .u64 a22), .row (.int .i64) a23] k := by kernel_rfl
theorem ok166_7 (m : Nat) : LoopOk Try.prog (0, 0) c166_7 (enter Try.prog (0, 0) H166_7 (E166_7 m)) := by
  refine loop_ok (G := G166) (L := loopNil) (envCons_good good178 (envCons_good good228 (envCons_good good227 (envCons_good good226 (envCons_good good230 (envCons_good good229 envNil_good)))))) (by intro x hx; simp [show loopsOf c166_7 = [] from by kernel_rfl] at hx) (fun ps k => by unfold E166_7; split <;> rfl) (fun m ps k r h => ?_) m
  have h0 := h
  unfold E166_7 at h
  split at h
  · exact ⟨S166_7 _ _ _ _ _ _ _ _ _ _, by kernel_rfl, (ev166_7 m k _ _ _ _ _ _ _ _ _ _).trans h0⟩
  · cases h
noncomputable def L166 : LEnv Bool := (loopCons 7 (enter Try.prog (0, 0) H166_7 (E166_7 fu)) loopNil)
theorem lq166 : loopsOf c166 = [c166_7] := by kernel_rfl
theorem fr166_7 : firstReg c166_7 = some 7 := by kernel_rfl
theorem le166_7 : L166 7 = enter Try.prog (0, 0) H166_7 (E166_7 fu) := by kernel_rfl
theorem lm166 : ∀ x ∈ [c166_7], ∀ id, firstReg x = some id → LoopOk Try.prog (0, 0) x (L166 id) := (loops_cons fr166_7 le166_7 (ok166_7 fu) loops_nil)
theorem lp166 : ∀ x ∈ loopsOf c166, ∀ id, firstReg x = some id → LoopOk Try.prog (0, 0) x (L166 id) := loops_eq lq166 lm166
noncomputable def R166 (x : Bool) : Res := ⟨[.one (ab x)], [], []⟩
noncomputable def K166 (r : Res) : Option Bool :=
  match r with
  | ⟨[.one (.val (.bool v1))], [], []⟩ => some (v1)
  | _ => none
noncomputable def E166 : Fun2 := fun args bs rs =>
  match args, bs, rs with
  | [.s1 (.agg [.val (.int .i64 a1), .val (.int .i64 a2), .val (.int .u64 a3), .val (.int .i64 a4), .val (.int .i64 a5), .sl 0])], [], [⟨3, (.int .i64), a6, .ro⟩] => some ⟨Bool, I.isAgg a1 a2 a3 a4 a5 a6, R166⟩
  | _, _, _ => none
theorem ev166 (a1 a2 a3 a4 a5 : Int) (a6 : List Int) : evF Try.prog G166 L166 (0, 0) [] Try.f166 c166 [.s1 (.agg [ai a1, ai a2, ak .u64 a3, ai a4, ai a5, .sl 0])] [] [⟨3, (.int .i64), a6, .ro⟩] K166 = I.isAgg a1 a2 a3 a4 a5 a6 := by kernel_rfl
theorem good166 : Vm.Good Try.prog 166 E166 := by
  refine evF_good (G := G166) (c := c166) (envCons_good good178 (envCons_good good228 (envCons_good good227 (envCons_good good226 (envCons_good good230 (envCons_good good229 envNil_good)))))) Try.func166 (by kernel_rfl) (by kernel_rfl) (0, 0) (fun args bs rs out t h h2 => ?_)
  unfold E166 at h
  split at h
  · injection h with h
    subst h
    exact ⟨rfl, [], L166, K166, lp166, (fun r t h => by unfold K166 at h; split at h; (injection h with h; subst h; rfl); cases h), (ev166 _ _ _ _ _ _).trans h2⟩
  · cases h
/-! ### I.isCell -/
noncomputable def G195 : Env := (envCons 236 [] E236 (envCons 237 [] E237 (envCons 200 [] E200 (envCons 166 [] E166 envNil))))
noncomputable def c195 : Code := bodyOf Try.f195
noncomputable def I.isCell (a1 a2 a3 a4 a5 a6 a7 a8 a9 a10 : Int) (a11 : List Int) : Option Bool :=
(Option.bind (I.isCellPlace a1 a2 a5) fun r12 =>
(bif r12 then
(Option.bind (I.Cell_win a1 a2 a3 a4 a5 a6 a7 a8 a9 a10 a11) fun r13 =>
(Option.bind (I.isWin r13.1 r13.2) fun r14 =>
(bif r14 then
(Option.bind (I.isAgg a6 a7 a8 a9 a10 a11) fun r15 =>
(bif r15 then
(some (decide (0 < a6)))
else
(some false)))
else
(some false))))
else
(some false)))
noncomputable def R195 (x : Bool) : Res := ⟨[.one (ab x)], [], []⟩
noncomputable def K195 (r : Res) : Option Bool :=
  match r with
  | ⟨[.one (.val (.bool v1))], [], []⟩ => some (v1)
  | _ => none
noncomputable def E195 : Fun2 := fun args bs rs =>
  match args, bs, rs with
  | [.s1 (.agg [.val (.int .i64 a1), .val (.int .i64 a2), .val (.int .i64 a3), .val (.int .i64 a4), .val (.int .i64 a5), .val (.int .i64 a6), .val (.int .i64 a7), .val (.int .u64 a8), .val (.int .i64 a9), .val (.int .i64 a10), .sl 0])], [], [⟨3, (.int .i64), a11, .ro⟩] => some ⟨Bool, I.isCell a1 a2 a3 a4 a5 a6 a7 a8 a9 a10 a11, R195⟩
  | _, _, _ => none
theorem ev195 (a1 a2 a3 a4 a5 a6 a7 a8 a9 a10 : Int) (a11 : List Int) : evF Try.prog G195 loopNil (0, 0) [] Try.f195 c195 [.s1 (.agg [ai a1, ai a2, ai a3, ai a4, ai a5, ai a6, ai a7, ak .u64 a8, ai a9, ai a10, .sl 0])] [] [⟨3, (.int .i64), a11, .ro⟩] K195 = I.isCell a1 a2 a3 a4 a5 a6 a7 a8 a9 a10 a11 := by kernel_rfl
theorem good195 : Vm.Good Try.prog 195 E195 := by
  refine evF_good (G := G195) (c := c195) (envCons_good good236 (envCons_good good237 (envCons_good good200 (envCons_good good166 envNil_good)))) Try.func195 (by kernel_rfl) (by kernel_rfl) (0, 0) (fun args bs rs out t h h2 => ?_)
  unfold E195 at h
  split at h
  · injection h with h
    subst h
    exact ⟨rfl, [], loopNil, K195, (by intro x hx; simp [show loopsOf c195 = [] from by kernel_rfl] at hx), (fun r t h => by unfold K195 at h; split at h; (injection h with h; subst h; rfl); cases h), (ev195 _ _ _ _ _ _ _ _ _ _ _).trans h2⟩
  · cases h
/-! ### I.compareSeats -/
noncomputable def G238 : Env := (envCons 210 [] E210 (envCons 209 [] E209 envNil))
noncomputable def c238 : Code := bodyOf Try.f238
noncomputable def I.compareSeats (a1 a2 a3 a4 a5 a6 a7 a8 a9 a10 a11 a12 a13 a14 a15 a16 a17 a18 a19 a20 : Int) (a21 a22 : List Int) : Option Int :=
(Option.bind (G.cmp.Compare_int a1 a11) fun r23 =>
(Option.bind (G.cmp.Compare_int a2 a12) fun r24 =>
(Option.bind (G.cmp.Compare_int a3 a13) fun r25 =>
(Option.bind (G.cmp.Compare_int a4 a14) fun r26 =>
(Option.bind (G.cmp.Or_int [r23, r24, r25, r26]) fun r28 =>
(some r28))))))
noncomputable def R238 (x : Int) : Res := ⟨[.one (ai x)], [], []⟩
noncomputable def K238 (r : Res) : Option Int :=
  match r with
  | ⟨[.one (.val (.int .i64 v1))], [], []⟩ => some (v1)
  | _ => none
noncomputable def E238 : Fun2 := fun args bs rs =>
  match args, bs, rs with
  | [.s1 (.agg [.val (.int .i64 a1), .val (.int .i64 a2), .val (.int .i64 a3), .val (.int .i64 a4), .val (.int .i64 a5), .val (.int .i64 a6), .val (.int .i64 a7), .val (.int .u64 a8), .val (.int .i64 a9), .val (.int .i64 a10), .sl 0]), .s1 (.agg [.val (.int .i64 a11), .val (.int .i64 a12), .val (.int .i64 a13), .val (.int .i64 a14), .val (.int .i64 a15), .val (.int .i64 a16), .val (.int .i64 a17), .val (.int .u64 a18), .val (.int .i64 a19), .val (.int .i64 a20), .sl 1])], [], [⟨3, (.int .i64), a21, .ro⟩, ⟨3, (.int .i64), a22, .ro⟩] => some ⟨Int, I.compareSeats a1 a2 a3 a4 a5 a6 a7 a8 a9 a10 a11 a12 a13 a14 a15 a16 a17 a18 a19 a20 a21 a22, R238⟩
  | _, _, _ => none
theorem ev238 (a1 a2 a3 a4 a5 a6 a7 a8 a9 a10 a11 a12 a13 a14 a15 a16 a17 a18 a19 a20 : Int) (a21 a22 : List Int) : evF Try.prog G238 loopNil (0, 0) [] Try.f238 c238 [.s1 (.agg [ai a1, ai a2, ai a3, ai a4, ai a5, ai a6, ai a7, ak .u64 a8, ai a9, ai a10, .sl 0]), .s1 (.agg [ai a11, ai a12, ai a13, ai a14, ai a15, ai a16, ai a17, ak .u64 a18, ai a19, ai a20, .sl 1])] [] [⟨3, (.int .i64), a21, .ro⟩, ⟨3, (.int .i64), a22, .ro⟩] K238 = I.compareSeats a1 a2 a3 a4 a5 a6 a7 a8 a9 a10 a11 a12 a13 a14 a15 a16 a17 a18 a19 a20 a21 a22 := by kernel_rfl
theorem good238 : Vm.Good Try.prog 238 E238 := by
  refine evF_good (G := G238) (c := c238) (envCons_good good210 (envCons_good good209 envNil_good)) Try.func238 (by kernel_rfl) (by kernel_rfl) (0, 0) (fun args bs rs out t h h2 => ?_)
  unfold E238 at h
  split at h
  · injection h with h
    subst h
    exact ⟨rfl, [], loopNil, K238, (by intro x hx; simp [show loopsOf c238 = [] from by kernel_rfl] at hx), (fun r t h => by unfold K238 at h; split at h; (injection h with h; subst h; rfl); cases h), (ev238 _ _ _ _ _ _ _ _ _ _ _ _ _ _ _ _ _ _ _ _ _ _).trans h2⟩
  · cases h
/-! ### I.compareCells -/
noncomputable def G196 : Env := (envCons 238 [] E238 (envCons 210 [] E210 (envCons 209 [] E209 envNil)))
noncomputable def c196 : Code := bodyOf Try.f196
noncomputable def I.compareCells (a1 a2 a3 a4 a5 a6 a7 a8 a9 a10 a11 a12 a13 a14 a15 a16 a17 a18 a19 a20 : Int) (a21 a22 : List Int) : Option Int :=
(Option.bind (I.compareSeats a1 a2 a3 a4 a5 a6 a7 a8 a9 a10 a11 a12 a13 a14 a15 a16 a17 a18 a19 a20 a21 a22) fun r23 =>
(Option.bind (G.cmp.Compare_int a5 a15) fun r24 =>
(Option.bind (G.cmp.Or_int [r23, r24]) fun r25 =>
(some r25))))
noncomputable def R196 (x : Int) : Res := ⟨[.one (ai x)], [], []⟩
noncomputable def K196 (r : Res) : Option Int :=
  match r with
  | ⟨[.one (.val (.int .i64 v1))], [], []⟩ => some (v1)
  | _ => none
noncomputable def E196 : Fun2 := fun args bs rs =>
  match args, bs, rs with
  | [.s1 (.agg [.val (.int .i64 a1), .val (.int .i64 a2), .val (.int .i64 a3), .val (.int .i64 a4), .val (.int .i64 a5), .val (.int .i64 a6), .val (.int .i64 a7), .val (.int .u64 a8), .val (.int .i64 a9), .val (.int .i64 a10), .sl 0]), .s1 (.agg [.val (.int .i64 a11), .val (.int .i64 a12), .val (.int .i64 a13), .val (.int .i64 a14), .val (.int .i64 a15), .val (.int .i64 a16), .val (.int .i64 a17), .val (.int .u64 a18), .val (.int .i64 a19), .val (.int .i64 a20), .sl 1])], [], [⟨3, (.int .i64), a21, .ro⟩, ⟨3, (.int .i64), a22, .ro⟩] => some ⟨Int, I.compareCells a1 a2 a3 a4 a5 a6 a7 a8 a9 a10 a11 a12 a13 a14 a15 a16 a17 a18 a19 a20 a21 a22, R196⟩
  | _, _, _ => none
theorem ev196 (a1 a2 a3 a4 a5 a6 a7 a8 a9 a10 a11 a12 a13 a14 a15 a16 a17 a18 a19 a20 : Int) (a21 a22 : List Int) : evF Try.prog G196 loopNil (0, 0) [] Try.f196 c196 [.s1 (.agg [ai a1, ai a2, ai a3, ai a4, ai a5, ai a6, ai a7, ak .u64 a8, ai a9, ai a10, .sl 0]), .s1 (.agg [ai a11, ai a12, ai a13, ai a14, ai a15, ai a16, ai a17, ak .u64 a18, ai a19, ai a20, .sl 1])] [] [⟨3, (.int .i64), a21, .ro⟩, ⟨3, (.int .i64), a22, .ro⟩] K196 = I.compareCells a1 a2 a3 a4 a5 a6 a7 a8 a9 a10 a11 a12 a13 a14 a15 a16 a17 a18 a19 a20 a21 a22 := by kernel_rfl
theorem good196 : Vm.Good Try.prog 196 E196 := by
  refine evF_good (G := G196) (c := c196) (envCons_good good238 (envCons_good good210 (envCons_good good209 envNil_good))) Try.func196 (by kernel_rfl) (by kernel_rfl) (0, 0) (fun args bs rs out t h h2 => ?_)
  unfold E196 at h
  split at h
  · injection h with h
    subst h
    exact ⟨rfl, [], loopNil, K196, (by intro x hx; simp [show loopsOf c196 = [] from by kernel_rfl] at hx), (fun r t h => by unfold K196 at h; split at h; (injection h with h; subst h; rfl); cases h), (ev196 _ _ _ _ _ _ _ _ _ _ _ _ _ _ _ _ _ _ _ _ _ _).trans h2⟩
  · cases h
/-! ### I.areCells -/
noncomputable def G125 : Env := (envCons 195 [] E195 (envCons 196 [] E196 envNil))
noncomputable def c125 : Code := bodyOf Try.f125
noncomputable def c125_2 : Code := (loopsOf c125).getD 0 .skip
noncomputable def I.areCells_l0 : Nat → (Bool → (List (Int × Int × Int × Int × Int × Int × (Int × Int) × Int × Int × List Int)) → Option Bool) → ((List (Int × Int × Int × Int × Int × Int × (Int × Int) × Int × Int × List Int)) → Option Bool) → Int → Int → (List (Int × Int × Int × Int × Int × Int × (Int × Int) × Int × Int × List Int)) → Option Bool
  | 0, _, _, _, _, _ => none
  | m + 1, e2_0, e2_1, a3, a4, a5 =>
    (bif (decide (a4 < a3)) then
    (bif decide ((0 : Int) ≤ a4 ∧ a4 < (a5.length : Int)) then
    (Option.bind (I.isCell ((nthI a5 a4 ((0 : Int), ((0 : Int), ((0 : Int), ((0 : Int), ((0 : Int), ((0 : Int), (((0 : Int), (0 : Int)), ((0 : Int), ((0 : Int), [])))))))))).1) ((nthI a5 a4 ((0 : Int), ((0 : Int), ((0 : Int), ((0 : Int), ((0 : Int), ((0 : Int), (((0 : Int), (0 : Int)), ((0 : Int), ((0 : Int), [])))))))))).2.1) ((nthI a5 a4 ((0 : Int), ((0 : Int), ((0 : Int), ((0 : Int), ((0 : Int), ((0 : Int), (((0 : Int), (0 : Int)), ((0 : Int), ((0 : Int), [])))))))))).2.2.1) ((nthI a5 a4 ((0 : Int), ((0 : Int), ((0 : Int), ((0 : Int), ((0 : Int), ((0 : Int), (((0 : Int), (0 : Int)), ((0 : Int), ((0 : Int), [])))))))))).2.2.2.1) ((nthI a5 a4 ((0 : Int), ((0 : Int), ((0 : Int), ((0 : Int), ((0 : Int), ((0 : Int), (((0 : Int), (0 : Int)), ((0 : Int), ((0 : Int), [])))))))))).2.2.2.2.1) ((nthI a5 a4 ((0 : Int), ((0 : Int), ((0 : Int), ((0 : Int), ((0 : Int), ((0 : Int), (((0 : Int), (0 : Int)), ((0 : Int), ((0 : Int), [])))))))))).2.2.2.2.2.1) ((nthI a5 a4 ((0 : Int), ((0 : Int), ((0 : Int), ((0 : Int), ((0 : Int), ((0 : Int), (((0 : Int), (0 : Int)), ((0 : Int), ((0 : Int), [])))))))))).2.2.2.2.2.2.1.1) ((nthI a5 a4 ((0 : Int), ((0 : Int), ((0 : Int), ((0 : Int), ((0 : Int), ((0 : Int), (((0 : Int), (0 : Int)), ((0 : Int), ((0 : Int), [])))))))))).2.2.2.2.2.2.1.2) ((nthI a5 a4 ((0 : Int), ((0 : Int), ((0 : Int), ((0 : Int), ((0 : Int), ((0 : Int), (((0 : Int), (0 : Int)), ((0 : Int), ((0 : Int), [])))))))))).2.2.2.2.2.2.2.1) ((nthI a5 a4 ((0 : Int), ((0 : Int), ((0 : Int), ((0 : Int), ((0 : Int), ((0 : Int), (((0 : Int), (0 : Int)), ((0 : Int), ((0 : Int), [])))))))))).2.2.2.2.2.2.2.2.1) ((nthI a5 a4 ((0 : Int), ((0 : Int), ((0 : Int), ((0 : Int), ((0 : Int), ((0 : Int), (((0 : Int), (0 : Int)), ((0 : Int), ((0 : Int), [])))))))))).2.2.2.2.2.2.2.2.2)) fun r7 =>
    (bif (!r7) then
    (e2_0 false a5)
    else
    (bif (decide (0 < a4)) then
    (let v9 : Int := (IntKind.wrap .i64 (a4 - 1))
    (bif decide ((0 : Int) ≤ v9 ∧ v9 < (a5.length : Int)) then
    (Option.bind (I.compareCells ((nthI a5 v9 ((0 : Int), ((0 : Int), ((0 : Int), ((0 : Int), ((0 : Int), ((0 : Int), (((0 : Int), (0 : Int)), ((0 : Int), ((0 : Int), [])))))))))).1) ((nthI a5 v9 ((0 : Int), ((0 : Int), ((0 : Int), ((0 : Int), ((0 : Int), ((0 : Int), (((0 : Int), (0 : Int)), ((0 : Int), ((0 : Int), [])))))))))).2.1) ((nthI a5 v9 ((0 : Int), ((0 : Int), ((0 : Int), ((0 : Int), ((0 : Int), ((0 : Int), (((0 : Int), (0 : Int)), ((0 : Int), ((0 : Int), [])))))))))).2.2.1) ((nthI a5 v9 ((0 : Int), ((0 : Int), ((0 : Int), ((0 : Int), ((0 : Int), ((0 : Int), (((0 : Int), (0 : Int)), ((0 : Int), ((0 : Int), [])))))))))).2.2.2.1) ((nthI a5 v9 ((0 : Int), ((0 : Int), ((0 : Int), ((0 : Int), ((0 : Int), ((0 : Int), (((0 : Int), (0 : Int)), ((0 : Int), ((0 : Int), [])))))))))).2.2.2.2.1) ((nthI a5 v9 ((0 : Int), ((0 : Int), ((0 : Int), ((0 : Int), ((0 : Int), ((0 : Int), (((0 : Int), (0 : Int)), ((0 : Int), ((0 : Int), [])))))))))).2.2.2.2.2.1) ((nthI a5 v9 ((0 : Int), ((0 : Int), ((0 : Int), ((0 : Int), ((0 : Int), ((0 : Int), (((0 : Int), (0 : Int)), ((0 : Int), ((0 : Int), [])))))))))).2.2.2.2.2.2.1.1) ((nthI a5 v9 ((0 : Int), ((0 : Int), ((0 : Int), ((0 : Int), ((0 : Int), ((0 : Int), (((0 : Int), (0 : Int)), ((0 : Int), ((0 : Int), [])))))))))).2.2.2.2.2.2.1.2) ((nthI a5 v9 ((0 : Int), ((0 : Int), ((0 : Int), ((0 : Int), ((0 : Int), ((0 : Int), (((0 : Int), (0 : Int)), ((0 : Int), ((0 : Int), [])))))))))).2.2.2.2.2.2.2.1) ((nthI a5 v9 ((0 : Int), ((0 : Int), ((0 : Int), ((0 : Int), ((0 : Int), ((0 : Int), (((0 : Int), (0 : Int)), ((0 : Int), ((0 : Int), [])))))))))).2.2.2.2.2.2.2.2.1) ((nthI a5 a4 ((0 : Int), ((0 : Int), ((0 : Int), ((0 : Int), ((0 : Int), ((0 : Int), (((0 : Int), (0 : Int)), ((0 : Int), ((0 : Int), [])))))))))).1) ((nthI a5 a4 ((0 : Int), ((0 : Int), ((0 : Int), ((0 : Int), ((0 : Int), ((0 : Int), (((0 : Int), (0 : Int)), ((0 : Int), ((0 : Int), [])))))))))).2.1) ((nthI a5 a4 ((0 : Int), ((0 : Int), ((0 : Int), ((0 : Int), ((0 : Int), ((0 : Int), (((0 : Int), (0 : Int)), ((0 : Int), ((0 : Int), [])))))))))).2.2.1) ((nthI a5 a4 ((0 : Int), ((0 : Int), ((0 : Int), ((0 : Int), ((0 : Int), ((0 : Int), (((0 : Int), (0 : Int)), ((0 : Int), ((0 : Int), [])))))))))).2.2.2.1) ((nthI a5 a4 ((0 : Int), ((0 : Int), ((0 : Int), ((0 : Int), ((0 : Int), ((0 : Int), (((0 : Int), (0 : Int)), ((0 : Int), ((0 : Int), [])))))))))).2.2.2.2.1) ((nthI a5 a4 ((0 : Int), ((0 : Int), ((0 : Int), ((0 : Int), ((0 : Int), ((0 : Int), (((0 : Int), (0 : Int)), ((0 : Int), ((0 : Int), [])))))))))).2.2.2.2.2.1) ((nthI a5 a4 ((0 : Int), ((0 : Int), ((0 : Int), ((0 : Int), ((0 : Int), ((0 : Int), (((0 : Int), (0 : Int)), ((0 : Int), ((0 : Int), [])))))))))).2.2.2.2.2.2.1.1) ((nthI a5 a4 ((0 : Int), ((0 : Int), ((0 : Int), ((0 : Int), ((0 : Int), ((0 : Int), (((0 : Int), (0 : Int)), ((0 : Int), ((0 : Int), [])))))))))).2.2.2.2.2.2.1.2) ((nthI a5 a4 ((0 : Int), ((0 : Int), ((0 : Int), ((0 : Int), ((0 : Int), ((0 : Int), (((0 : Int), (0 : Int)), ((0 : Int), ((0 : Int), [])))))))))).2.2.2.2.2.2.2.1) ((nthI a5 a4 ((0 : Int), ((0 : Int), ((0 : Int), ((0 : Int), ((0 : Int), ((0 : Int), (((0 : Int), (0 : Int)), ((0 : Int), ((0 : Int), [])))))))))).2.2.2.2.2.2.2.2.1) ((nthI a5 v9 ((0 : Int), ((0 : Int), ((0 : Int), ((0 : Int), ((0 : Int), ((0 : Int), (((0 : Int), (0 : Int)), ((0 : Int), ((0 : Int), [])))))))))).2.2.2.2.2.2.2.2.2) ((nthI a5 a4 ((0 : Int), ((0 : Int), ((0 : Int), ((0 : Int), ((0 : Int), ((0 : Int), (((0 : Int), (0 : Int)), ((0 : Int), ((0 : Int), [])))))))))).2.2.2.2.2.2.2.2.2)) fun r10 =>
    (bif (decide (0 ≤ r10)) then
    (e2_0 false a5)
    else
    (I.areCells_l0 m e2_0 e2_1 a3 (IntKind.wrap .i64 (a4 + 1)) a5)))
    else
    none))
    else
    (I.areCells_l0 m e2_0 e2_1 a3 (IntKind.wrap .i64 (a4 + 1)) a5))))
    else
    none)
    else
    (e2_1 a5))
noncomputable def I.areCells (a1 : List (Int × Int × Int × Int × Int × Int × (Int × Int) × Int × Int × List Int)) : Option Bool :=
(I.areCells_l0 fu (fun y14 y15 =>
(some y14)) (fun y16 =>
(some (decide ((y16.length : Int) ≤ 10000)))) (a1.length : Int) 0 a1)
noncomputable def H125_2 : LoopH := ⟨⟨((.one (.sl 0)) :: (hu 4 ((.one (.sl 0)) :: hh :: hh :: (hu 25 [])))), [], [(180, (.pair (.int .i64) (.pair (.int .i64) (.pair (.int .i64) (.pair (.int .i64) (.pair (.int .i64) (.pair (.int .i64) (.pair (.pair (.int .i64) (.int .u64)) (.pair (.int .i64) (.pair (.int .i64) (.sl 3 (.int .i64))))))))))), .ro)]⟩, [1, 2, 3, 4, 8, 9, 10, 11, 12, 13, 14, 15, 16, 17, 18, 19, 20, 21, 22, 23, 24, 25, 26, 27, 28, 29, 30, 31, 32], [], [1, 3, 4, 5, 6, 7, 8, 9, 10, 11, 12, 13, 14, 15, 16, 17, 18, 19, 20, 21, 22, 23, 24, 25, 26, 27, 28, 29, 30, 31, 32], []⟩
noncomputable def E125_2 (m : Nat) (ps : List Prm) (k : Kont Bool) : Option Bool :=
  match ps with
  | [.v (.int .i64 a3), .v (.int .i64 a4), .row (.pair (.int .i64) (.pair (.int .i64) (.pair (.int .i64) (.pair (.int .i64) (.pair (.int .i64) (.pair (.int .i64) (.pair (.pair (.int .i64) (.int .u64)) (.pair (.int .i64) (.pair (.int .i64) (.sl 3 (.int .i64))))))))))) a5] => I.areCells_l0 m (fun z22 z23 => k .ret (⟨((vl 0) :: (.s1 (.one (.unk))) :: (vb z22) :: (vu 30 [])), [], [⟨180, (.pair (.int .i64) (.pair (.int .i64) (.pair (.int .i64) (.pair (.int .i64) (.pair (.int .i64) (.pair (.int .i64) (.pair (.pair (.int .i64) (.int .u64)) (.pair (.int .i64) (.pair (.int .i64) (.sl 3 (.int .i64))))))))))), z23, .ro⟩]⟩ : St)) (fun z24 => k (.exit 0) (⟨((vl 0) :: (vu 32 [])), [], [⟨180, (.pair (.int .i64) (.pair (.int .i64) (.pair (.int .i64) (.pair (.int .i64) (.pair (.int .i64) (.pair (.int .i64) (.pair (.pair (.int .i64) (.int .u64)) (.pair (.int .i64) (.pair (.int .i64) (.sl 3 (.int .i64))))))))))), z24, .ro⟩]⟩ : St)) a3 a4 a5
  | _ => none
noncomputable def S125_2 (a3 a4 : Int) (a5 : List (Int × Int × Int × Int × Int × Int × (Int × Int) × Int × Int × List Int)) : St := (⟨((vl 0) :: (vu 4 ((vl 0) :: (vi a3) :: (vi a4) :: (vu 25 [])))), [], [⟨180, (.pair (.int .i64) (.pair (.int .i64) (.pair (.int .i64) (.pair (.int .i64) (.pair (.int .i64) (.pair (.int .i64) (.pair (.pair (.int .i64) (.int .u64)) (.pair (.int .i64) (.pair (.int .i64) (.sl 3 (.int .i64))))))))))), a5, .ro⟩]⟩ : St)
theorem ev125_2 (m : Nat) (k : Kont Bool) (a3 a4 : Int) (a5 : List (Int × Int × Int × Int × Int × Int × (Int × Int) × Int × Int × List Int)) : evC Try.prog G125 loopNil c125_2 (S125_2 a3 a4 a5) (turn Try.prog (0, 0) H125_2 (E125_2 m) k) = E125_2 (m + 1) [.v (.int .i64 a3), .v (.int .i64 a4), .row (.pair (.int .i64) (.pair (.int .i64) (.pair (.int .i64) (.pair (.int .i64) (.pair (.int .i64) (.pair (.int .i64) (.pair (.pair (.int .i64) (.int .u64)) (.pair (.int .i64) (.pair (.int .i64) (.sl 3 (.int .i64))))))))))) a5] k := by kernel_rfl
theorem ok125_2 (m : Nat) : LoopOk Try.prog (0, 0) c125_2 (enter Try.prog (0, 0) H125_2 (E125_2 m)) := by
  refine loop_ok (G := G125) (L := loopNil) (envCons_good good195 (envCons_good good196 envNil_good)) (by intro x hx; simp [show loopsOf c125_2 = [] from by kernel_rfl] at hx) (fun ps k => by unfold E125_2; split <;> rfl) (fun m ps k r h => ?_) m
  have h0 := h
  unfold E125_2 at h
  split at h
  · exact ⟨S125_2 _ _ _, by kernel_rfl, (ev125_2 m k _ _ _).trans h0⟩
  · cases h
noncomputable def L125 : LEnv Bool := (loopCons 2 (enter Try.prog (0, 0) H125_2 (E125_2 fu)) loopNil)
theorem lq125 : loopsOf c125 = [c125_2] := by kernel_rfl
theorem fr125_2 : firstReg c125_2 = some 2 := by kernel_rfl
theorem le125_2 : L125 2 = enter Try.prog (0, 0) H125_2 (E125_2 fu) := by kernel_rfl
theorem lm125 : ∀ x ∈ [c125_2], ∀ id, firstReg x = some id → LoopOk Try.prog (0, 0) x (L125 id) := (loops_cons fr125_2 le125_2 (ok125_2 fu) loops_nil)
theorem lp125 : ∀ x ∈ loopsOf c125, ∀ id, firstReg x = some id → LoopOk Try.prog (0, 0) x (L125 id) := loops_eq lq125 lm125
noncomputable def R125 (x : Bool) : Res := ⟨[.one (ab x)], [], []⟩
noncomputable def K125 (r : Res) : Option Bool :=
  match r with
  | ⟨[.one (.val (.bool v1))], [], []⟩ => some (v1)
  | _ => none
noncomputable def E125 : Fun2 := fun args bs rs =>
  match args, bs, rs with
  | [.s1 (.one (.sl 0))], [], [⟨180, (.pair (.int .i64) (.pair (.int .i64) (.pair (.int .i64) (.pair (.int .i64) (.pair (.int .i64) (.pair (.int .i64) (.pair (.pair (.int .i64) (.int .u64)) (.pair (.int .i64) (.pair (.int .i64) (.sl 3 (.int .i64))))))))))), a1, .ro⟩] => some ⟨Bool, I.areCells a1, R125⟩
  | _, _, _ => none
theorem ev125 (a1 : List (Int × Int × Int × Int × Int × Int × (Int × Int) × Int × Int × List Int)) : evF Try.prog G125 L125 (0, 0) [] Try.f125 c125 [vl 0] [] [⟨180, (.pair (.int .i64) (.pair (.int .i64) (.pair (.int .i64) (.pair (.int .i64) (.pair (.int .i64) (.pair (.int .i64) (.pair (.pair (.int .i64) (.int .u64)) (.pair (.int .i64) (.pair (.int .i64) (.sl 3 (.int .i64))))))))))), a1, .ro⟩] K125 = I.areCells a1 := by kernel_rfl
theorem good125 : Vm.Good Try.prog 125 E125 := by
  refine evF_good (G := G125) (c := c125) (envCons_good good195 (envCons_good good196 envNil_good)) Try.func125 (by kernel_rfl) (by kernel_rfl) (0, 0) (fun args bs rs out t h h2 => ?_)
  unfold E125 at h
  split at h
  · injection h with h
    subst h
    exact ⟨rfl, [], L125, K125, lp125, (fun r t h => by unfold K125 at h; split at h; (injection h with h; subst h; rfl); cases h), (ev125 _).trans h2⟩
  · cases h
/-! ### I.Cell_isDue -/
noncomputable def G130 : Env := envNil
noncomputable def c130 : Code := bodyOf Try.f130
noncomputable def I.Cell_isDue (a1 a2 a3 a4 a5 a6 a7 a8 a9 a10 a11 a12 : Int) (a13 : List Int) : Option Bool :=
(bif (decide (a11 < a4)) then
(some (decide (a4 ≤ a12)))
else
(some false))
noncomputable def R130 (x : Bool) : Res := ⟨[.one (ab x)], [], []⟩
noncomputable def K130 (r : Res) : Option Bool :=
  match r with
  | ⟨[.one (.val (.bool v1))], [], []⟩ => some (v1)
  | _ => none
noncomputable def E130 : Fun2 := fun args bs rs =>
  match args, bs, rs with
  | [.s1 (.agg [.val (.int .i64 a1), .val (.int .i64 a2), .val (.int .i64 a3), .val (.int .i64 a4), .val (.int .i64 a5), .val (.int .i64 a6), .val (.int .i64 a7), .val (.int .u64 a8), .val (.int .i64 a9), .val (.int .i64 a10), .sl 0]), .s1 (.one (.val (.int .i64 a11))), .s1 (.one (.val (.int .i64 a12)))], [], [⟨3, (.int .i64), a13, .ro⟩] => some ⟨Bool, I.Cell_isDue a1 a2 a3 a4 a5 a6 a7 a8 a9 a10 a11 a12 a13, R130⟩
  | _, _, _ => none
theorem ev130 (a1 a2 a3 a4 a5 a6 a7 a8 a9 a10 a11 a12 : Int) (a13 : List Int) : evF Try.prog G130 loopNil (0, 0) [] Try.f130 c130 [.s1 (.agg [ai a1, ai a2, ai a3, ai a4, ai a5, ai a6, ai a7, ak .u64 a8, ai a9, ai a10, .sl 0]), vi a11, vi a12] [] [⟨3, (.int .i64), a13, .ro⟩] K130 = I.Cell_isDue a1 a2 a3 a4 a5 a6 a7 a8 a9 a10 a11 a12 a13 := by kernel_rfl
theorem good130 : Vm.Good Try.prog 130 E130 := by
  refine evF_good (G := G130) (c := c130) envNil_good Try.func130 (by kernel_rfl) (by kernel_rfl) (0, 0) (fun args bs rs out t h h2 => ?_)
  unfold E130 at h
  split at h
  · injection h with h
    subst h
    exact ⟨rfl, [], loopNil, K130, (by intro x hx; simp [show loopsOf c130 = [] from by kernel_rfl] at hx), (fun r t h => by unfold K130 at h; split at h; (injection h with h; subst h; rfl); cases h), (ev130 _ _ _ _ _ _ _ _ _ _ _ _ _).trans h2⟩
  · cases h
/-! ### I.CellsDue_1 -/
noncomputable def G129 : Env := (envCons 130 [] E130 envNil)
noncomputable def c129 : Code := bodyOf Try.f129
noncomputable def I.CellsDue_1 (a1 a2 a3 a4 a5 a6 a7 a8 a9 a10 a11 a12 : Int) (a13 : List Int) : Option (Bool × Int × Int) :=
(Option.bind (I.Cell_isDue a1 a2 a3 a4 a5 a6 a7 a8 a9 a10 a11 a12 a13) fun r14 =>
(some (r14, a11, a12)))
noncomputable def R129 (x : Bool × Int × Int) : Res := ⟨[.one (ab x.1)], [(3, [ai x.2.1]), (3, [ai x.2.2])], []⟩
noncomputable def K129 (r : Res) : Option (Bool × Int × Int) :=
  match r with
  | ⟨[.one (.val (.bool v1))], [(3, [.val (.int .i64 v2)]), (3, [.val (.int .i64 v3)])], []⟩ => some (v1, v2, v3)
  | _ => none
noncomputable def E129 : Fun2 := fun args bs rs =>
  match args, bs, rs with
  | [.s1 (.agg [.val (.int .i64 a1), .val (.int .i64 a2), .val (.int .i64 a3), .val (.int .i64 a4), .val (.int .i64 a5), .val (.int .i64 a6), .val (.int .i64 a7), .val (.int .u64 a8), .val (.int .i64 a9), .val (.int .i64 a10), .sl 0]), .s1 (.one (.ptr 0 0)), .s1 (.one (.ptr 1 0))], [(3, [.val (.int .i64 a11)]), (3, [.val (.int .i64 a12)])], [⟨3, (.int .i64), a13, .ro⟩] => some ⟨Bool × Int × Int, I.CellsDue_1 a1 a2 a3 a4 a5 a6 a7 a8 a9 a10 a11 a12 a13, R129⟩
  | _, _, _ => none
theorem ev129 (a1 a2 a3 a4 a5 a6 a7 a8 a9 a10 a11 a12 : Int) (a13 : List Int) : evF Try.prog G129 loopNil (2, 0) [] Try.f129 c129 [.s1 (.agg [ai a1, ai a2, ai a3, ai a4, ai a5, ai a6, ai a7, ak .u64 a8, ai a9, ai a10, .sl 0]), vp 0 0, vp 1 0] [(3, [ai a11]), (3, [ai a12])] [⟨3, (.int .i64), a13, .ro⟩] K129 = I.CellsDue_1 a1 a2 a3 a4 a5 a6 a7 a8 a9 a10 a11 a12 a13 := by kernel_rfl
theorem good129 : Vm.Good Try.prog 129 E129 := by
  refine evF_good (G := G129) (c := c129) (envCons_good good130 envNil_good) Try.func129 (by kernel_rfl) (by kernel_rfl) (2, 0) (fun args bs rs out t h h2 => ?_)
  unfold E129 at h
  split at h
  · injection h with h
    subst h
    exact ⟨rfl, [], loopNil, K129, (by intro x hx; simp [show loopsOf c129 = [] from by kernel_rfl] at hx), (fun r t h => by unfold K129 at h; split at h; (injection h with h; subst h; rfl); cases h), (ev129 _ _ _ _ _ _ _ _ _ _ _ _ _).trans h2⟩
  · cases h
/-! ### G.slices.Clone_int -/
noncomputable def G110 : Env := envNil
noncomputable def c110 : Code := bodyOf Try.f110
noncomputable def G.slices.Clone_int (a1 : List Int) : Option (List Int) :=
(bif decide (a1.length = 0) then
(same (some [])
(bif decide ((([] : List (Int)).length + a1.length) * 8 ≤ 140737488355328) then
(some (([] : List (Int)) ++ a1))
else
none))
else
(bif decide ((([] : List (Int)).length + a1.length) * 8 ≤ 140737488355328) then
(some (([] : List (Int)) ++ a1))
else
none))
noncomputable def R110 (x : List Int) : Res := ⟨[.one (.sl 0)], [], [⟨3, (.int .i64), x, .own⟩]⟩
noncomputable def K110 (r : Res) : Option (List Int) :=
  match r with
  | ⟨[.one (.sl 0)], [], [⟨3, (.int .i64), v1, .own⟩]⟩ => some (v1)
  | _ => none
noncomputable def E110 : Fun2 := fun args bs rs =>
  match args, bs, rs with
  | [.s1 (.one (.sl 0))], [], [⟨3, (.int .i64), a1, .ro⟩] => some ⟨List Int, G.slices.Clone_int a1, R110⟩
  | _, _, _ => none
theorem ev110 (a1 : List Int) : evF Try.prog G110 loopNil (0, 0) [] Try.f110 c110 [vl 0] [] [⟨3, (.int .i64), a1, .ro⟩] K110 = G.slices.Clone_int a1 := by kernel_rfl
theorem good110 : Vm.Good Try.prog 110 E110 := by
  refine evF_good (G := G110) (c := c110) envNil_good Try.func110 (by kernel_rfl) (by kernel_rfl) (0, 0) (fun args bs rs out t h h2 => ?_)
  unfold E110 at h
  split at h
  · injection h with h
    subst h
    exact ⟨rfl, [], loopNil, K110, (by intro x hx; simp [show loopsOf c110 = [] from by kernel_rfl] at hx), (fun r t h => by unfold K110 at h; split at h; (injection h with h; subst h; rfl); cases h), (ev110 _).trans h2⟩
  · cases h
/-! ### I.Cell_copied -/
noncomputable def G197 : Env := (envCons 110 [] E110 envNil)
noncomputable def c197 : Code := bodyOf Try.f197
noncomputable def I.Cell_copied (a1 a2 a3 a4 a5 a6 a7 a8 a9 a10 : Int) (a11 : List Int) : Option (Int × Int × Int × Int × Int × Int × Int × Int × Int × Int × List Int) :=
(Option.bind (G.slices.Clone_int a11) fun r12 =>
(some (a1, a2, a3, a4, a5, a6, a7, a8, a9, a10, r12)))
noncomputable def R197 (x : Int × Int × Int × Int × Int × Int × Int × Int × Int × Int × List Int) : Res := ⟨[.agg [ai x.1, ai x.2.1, ai x.2.2.1, ai x.2.2.2.1, ai x.2.2.2.2.1, ai x.2.2.2.2.2.1, ai x.2.2.2.2.2.2.1, ak .u64 x.2.2.2.2.2.2.2.1, ai x.2.2.2.2.2.2.2.2.1, ai x.2.2.2.2.2.2.2.2.2.1, .sl 0]], [], [⟨3, (.int .i64), x.2.2.2.2.2.2.2.2.2.2, .own⟩]⟩
noncomputable def K197 (r : Res) : Option (Int × Int × Int × Int × Int × Int × Int × Int × Int × Int × List Int) :=
  match r with
  | ⟨[.agg [.val (.int .i64 v1), .val (.int .i64 v2), .val (.int .i64 v3), .val (.int .i64 v4), .val (.int .i64 v5), .val (.int .i64 v6), .val (.int .i64 v7), .val (.int .u64 v8), .val (.int .i64 v9), .val (.int .i64 v10), .sl 0]], [], [⟨3, (.int .i64), v11, .own⟩]⟩ => some (v1, v2, v3, v4, v5, v6, v7, v8, v9, v10, v11)
  | _ => none
noncomputable def E197 : Fun2 := fun args bs rs =>
  match args, bs, rs with
  | [.s1 (.agg [.val (.int .i64 a1), .val (.int .i64 a2), .val (.int .i64 a3), .val (.int .i64 a4), .val (.int .i64 a5), .val (.int .i64 a6), .val (.int .i64 a7), .val (.int .u64 a8), .val (.int .i64 a9), .val (.int .i64 a10), .sl 0])], [], [⟨3, (.int .i64), a11, .ro⟩] => some ⟨Int × Int × Int × Int × Int × Int × Int × Int × Int × Int × List Int, I.Cell_copied a1 a2 a3 a4 a5 a6 a7 a8 a9 a10 a11, R197⟩
  | _, _, _ => none
theorem ev197 (a1 a2 a3 a4 a5 a6 a7 a8 a9 a10 : Int) (a11 : List Int) : evF Try.prog G197 loopNil (0, 0) [] Try.f197 c197 [.s1 (.agg [ai a1, ai a2, ai a3, ai a4, ai a5, ai a6, ai a7, ak .u64 a8, ai a9, ai a10, .sl 0])] [] [⟨3, (.int .i64), a11, .ro⟩] K197 = I.Cell_copied a1 a2 a3 a4 a5 a6 a7 a8 a9 a10 a11 := by kernel_rfl
theorem good197 : Vm.Good Try.prog 197 E197 := by
  refine evF_good (G := G197) (c := c197) (envCons_good good110 envNil_good) Try.func197 (by kernel_rfl) (by kernel_rfl) (0, 0) (fun args bs rs out t h h2 => ?_)
  unfold E197 at h
  split at h
  · injection h with h
    subst h
    exact ⟨rfl, [], loopNil, K197, (by intro x hx; simp [show loopsOf c197 = [] from by kernel_rfl] at hx), (fun r t h => by unfold K197 at h; split at h; (injection h with h; subst h; rfl); cases h), (ev197 _ _ _ _ _ _ _ _ _ _ _).trans h2⟩
  · cases h
/-! ### I.chosen -/
noncomputable def G126 : Env := (envCons 129 [] E129 (envCons 197 [] E197 envNil))
noncomputable def c126 : Code := bodyOf Try.f126
noncomputable def c126_3 : Code := (loopsOf c126).getD 0 .skip
noncomputable def I.chosen_l0 : Nat → (Int → Int → (List (Int × Int × Int × Int × Int × Int × (Int × Int) × Int × Int × List Int)) → Option (Int × Int × (List (Int × Int × Int × Int × Int × Int × (Int × Int) × Int × Int × List Int)))) → Int → Int → Int → Int → (List (Int × Int × Int × Int × Int × Int × (Int × Int) × Int × Int × List Int)) → (List (Int × Int × Int × Int × Int × Int × (Int × Int) × Int × Int × List Int)) → Option (Int × Int × (List (Int × Int × Int × Int × Int × Int × (Int × Int) × Int × Int × List Int)))
  | 0, _, _, _, _, _, _, _ => none
  | m + 1, e3_0, a5, a6, a7, a8, a9, a10 =>
    (bif (decide (a6 < a5)) then
    (bif decide ((0 : Int) ≤ a6 ∧ a6 < (a10.length : Int)) then
    (Option.bind (I.CellsDue_1 ((nthI a10 a6 ((0 : Int), ((0 : Int), ((0 : Int), ((0 : Int), ((0 : Int), ((0 : Int), (((0 : Int), (0 : Int)), ((0 : Int), ((0 : Int), [])))))))))).1) ((nthI a10 a6 ((0 : Int), ((0 : Int), ((0 : Int), ((0 : Int), ((0 : Int), ((0 : Int), (((0 : Int), (0 : Int)), ((0 : Int), ((0 : Int), [])))))))))).2.1) ((nthI a10 a6 ((0 : Int), ((0 : Int), ((0 : Int), ((0 : Int), ((0 : Int), ((0 : Int), (((0 : Int), (0 : Int)), ((0 : Int), ((0 : Int), [])))))))))).2.2.1) ((nthI a10 a6 ((0 : Int), ((0 : Int), ((0 : Int), ((0 : Int), ((0 : Int), ((0 : Int), (((0 : Int), (0 : Int)), ((0 : Int), ((0 : Int), [])))))))))).2.2.2.1) ((nthI a10 a6 ((0 : Int), ((0 : Int), ((0 : Int), ((0 : Int), ((0 : Int), ((0 : Int), (((0 : Int), (0 : Int)), ((0 : Int), ((0 : Int), [])))))))))).2.2.2.2.1) ((nthI a10 a6 ((0 : Int), ((0 : Int), ((0 : Int), ((0 : Int), ((0 : Int), ((0 : Int), (((0 : Int), (0 : Int)), ((0 : Int), ((0 : Int), [])))))))))).2.2.2.2.2.1) ((nthI a10 a6 ((0 : Int), ((0 : Int), ((0 : Int), ((0 : Int), ((0 : Int), ((0 : Int), (((0 : Int), (0 : Int)), ((0 : Int), ((0 : Int), [])))))))))).2.2.2.2.2.2.1.1) ((nthI a10 a6 ((0 : Int), ((0 : Int), ((0 : Int), ((0 : Int), ((0 : Int), ((0 : Int), (((0 : Int), (0 : Int)), ((0 : Int), ((0 : Int), [])))))))))).2.2.2.2.2.2.1.2) ((nthI a10 a6 ((0 : Int), ((0 : Int), ((0 : Int), ((0 : Int), ((0 : Int), ((0 : Int), (((0 : Int), (0 : Int)), ((0 : Int), ((0 : Int), [])))))))))).2.2.2.2.2.2.2.1) ((nthI a10 a6 ((0 : Int), ((0 : Int), ((0 : Int), ((0 : Int), ((0 : Int), ((0 : Int), (((0 : Int), (0 : Int)), ((0 : Int), ((0 : Int), [])))))))))).2.2.2.2.2.2.2.2.1) a7 a8 ((nthI a10 a6 ((0 : Int), ((0 : Int), ((0 : Int), ((0 : Int), ((0 : Int), ((0 : Int), (((0 : Int), (0 : Int)), ((0 : Int), ((0 : Int), [])))))))))).2.2.2.2.2.2.2.2.2)) fun r12 =>
    (bif r12.1 then
    (Option.bind (I.Cell_copied ((nthI a10 a6 ((0 : Int), ((0 : Int), ((0 : Int), ((0 : Int), ((0 : Int), ((0 : Int), (((0 : Int), (0 : Int)), ((0 : Int), ((0 : Int), [])))))))))).1) ((nthI a10 a6 ((0 : Int), ((0 : Int), ((0 : Int), ((0 : Int), ((0 : Int), ((0 : Int), (((0 : Int), (0 : Int)), ((0 : Int), ((0 : Int), [])))))))))).2.1) ((nthI a10 a6 ((0 : Int), ((0 : Int), ((0 : Int), ((0 : Int), ((0 : Int), ((0 : Int), (((0 : Int), (0 : Int)), ((0 : Int), ((0 : Int), [])))))))))).2.2.1) ((nthI a10 a6 ((0 : Int), ((0 : Int), ((0 : Int), ((0 : Int), ((0 : Int), ((0 : Int), (((0 : Int), (0 : Int)), ((0 : Int), ((0 : Int), [])))))))))).2.2.2.1) ((nthI a10 a6 ((0 : Int), ((0 : Int), ((0 : Int), ((0 : Int), ((0 : Int), ((0 : Int), (((0 : Int), (0 : Int)), ((0 : Int), ((0 : Int), [])))))))))).2.2.2.2.1) ((nthI a10 a6 ((0 : Int), ((0 : Int), ((0 : Int), ((0 : Int), ((0 : Int), ((0 : Int), (((0 : Int), (0 : Int)), ((0 : Int), ((0 : Int), [])))))))))).2.2.2.2.2.1) ((nthI a10 a6 ((0 : Int), ((0 : Int), ((0 : Int), ((0 : Int), ((0 : Int), ((0 : Int), (((0 : Int), (0 : Int)), ((0 : Int), ((0 : Int), [])))))))))).2.2.2.2.2.2.1.1) ((nthI a10 a6 ((0 : Int), ((0 : Int), ((0 : Int), ((0 : Int), ((0 : Int), ((0 : Int), (((0 : Int), (0 : Int)), ((0 : Int), ((0 : Int), [])))))))))).2.2.2.2.2.2.1.2) ((nthI a10 a6 ((0 : Int), ((0 : Int), ((0 : Int), ((0 : Int), ((0 : Int), ((0 : Int), (((0 : Int), (0 : Int)), ((0 : Int), ((0 : Int), [])))))))))).2.2.2.2.2.2.2.1) ((nthI a10 a6 ((0 : Int), ((0 : Int), ((0 : Int), ((0 : Int), ((0 : Int), ((0 : Int), (((0 : Int), (0 : Int)), ((0 : Int), ((0 : Int), [])))))))))).2.2.2.2.2.2.2.2.1) ((nthI a10 a6 ((0 : Int), ((0 : Int), ((0 : Int), ((0 : Int), ((0 : Int), ((0 : Int), (((0 : Int), (0 : Int)), ((0 : Int), ((0 : Int), [])))))))))).2.2.2.2.2.2.2.2.2)) fun r13 =>
    (let v14 : List (Int × Int × Int × Int × Int × Int × (Int × Int) × Int × Int × List Int) := [(r13.1, (r13.2.1, (r13.2.2.1, (r13.2.2.2.1, (r13.2.2.2.2.1, (r13.2.2.2.2.2.1, ((r13.2.2.2.2.2.2.1, r13.2.2.2.2.2.2.2.1), (r13.2.2.2.2.2.2.2.2.1, (r13.2.2.2.2.2.2.2.2.2.1, r13.2.2.2.2.2.2.2.2.2.2)))))))))]
    (bif decide ((a9.length + v14.length) * 104 ≤ 140737488355328) then
    (I.chosen_l0 m e3_0 a5 (IntKind.wrap .i64 (a6 + 1)) r12.2.1 r12.2.2 (a9 ++ v14) a10)
    else
    none)))
    else
    (I.chosen_l0 m e3_0 a5 (IntKind.wrap .i64 (a6 + 1)) r12.2.1 r12.2.2 a9 a10)))
    else
    none)
    else
    (e3_0 a7 a8 a9))
noncomputable def I.chosen (a1 a2 : Int) (a3 : List (Int × Int × Int × Int × Int × Int × (Int × Int) × Int × Int × List Int)) : Option (Int × Int × (List (Int × Int × Int × Int × Int × Int × (Int × Int) × Int × Int × List Int))) :=
(I.chosen_l0 fu (fun y17 y18 y19 =>
(some (y17, y18, y19))) (a3.length : Int) 0 a1 a2 [] a3)
noncomputable def H126_3 : LoopH := ⟨⟨((.one (.unk)) :: (.one (.fn 129 [(0, 0), (1, 0)])) :: (hu 3 ((.one (.sl 0)) :: (hu 3 ((.one (.sl 1)) :: hh :: hh :: (hu 13 [])))))), [(3, [.hole]), (3, [.hole])], [(180, (.pair (.int .i64) (.pair (.int .i64) (.pair (.int .i64) (.pair (.int .i64) (.pair (.int .i64) (.pair (.int .i64) (.pair (.pair (.int .i64) (.int .u64)) (.pair (.int .i64) (.pair (.int .i64) (.sl 3 (.int .i64))))))))))), .own), (180, (.pair (.int .i64) (.pair (.int .i64) (.pair (.int .i64) (.pair (.int .i64) (.pair (.int .i64) (.pair (.int .i64) (.pair (.pair (.int .i64) (.int .u64)) (.pair (.int .i64) (.pair (.int .i64) (.sl 3 (.int .i64))))))))))), .ro)]⟩, [0, 2, 3, 4, 6, 7, 8, 12, 13, 14, 15, 16, 17, 18, 19, 20, 21, 22, 23, 24], [], [0, 1, 2, 3, 6, 7, 8, 9, 10, 11, 12, 13, 14, 15, 16, 17, 18, 19, 20, 21, 22, 23, 24], []⟩
noncomputable def E126_3 (m : Nat) (ps : List Prm) (k : Kont (Int × Int × (List (Int × Int × Int × Int × Int × Int × (Int × Int) × Int × Int × List Int)))) : Option (Int × Int × (List (Int × Int × Int × Int × Int × Int × (Int × Int) × Int × Int × List Int))) :=
  match ps with
  | [.v (.int .i64 a5), .v (.int .i64 a6), .v (.int .i64 a7), .v (.int .i64 a8), .row (.pair (.int .i64) (.pair (.int .i64) (.pair (.int .i64) (.pair (.int .i64) (.pair (.int .i64) (.pair (.int .i64) (.pair (.pair (.int .i64) (.int .u64)) (.pair (.int .i64) (.pair (.int .i64) (.sl 3 (.int .i64))))))))))) a9, .row (.pair (.int .i64) (.pair (.int .i64) (.pair (.int .i64) (.pair (.int .i64) (.pair (.int .i64) (.pair (.int .i64) (.pair (.pair (.int .i64) (.int .u64)) (.pair (.int .i64) (.pair (.int .i64) (.sl 3 (.int .i64))))))))))) a10] => I.chosen_l0 m (fun z23 z24 z25 => k (.exit 0) (⟨(vu 5 ((vl 0) :: (vu 19 []))), [(3, [ai z23]), (3, [ai z24])], [⟨180, (.pair (.int .i64) (.pair (.int .i64) (.pair (.int .i64) (.pair (.int .i64) (.pair (.int .i64) (.pair (.int .i64) (.pair (.pair (.int .i64) (.int .u64)) (.pair (.int .i64) (.pair (.int .i64) (.sl 3 (.int .i64))))))))))), z25, .own⟩]⟩ : St)) a5 a6 a7 a8 a9 a10
  | _ => none
noncomputable def S126_3 (a5 a6 a7 a8 : Int) (a9 a10 : List (Int × Int × Int × Int × Int × Int × (Int × Int) × Int × Int × List Int)) : St := (⟨((.s1 (.one (.unk))) :: (.s1 (.one (.fn 129 [(0, 0), (1, 0)]))) :: (vu 3 ((vl 0) :: (vu 3 ((vl 1) :: (vi a5) :: (vi a6) :: (vu 13 [])))))), [(3, [ai a7]), (3, [ai a8])], [⟨180, (.pair (.int .i64) (.pair (.int .i64) (.pair (.int .i64) (.pair (.int .i64) (.pair (.int .i64) (.pair (.int .i64) (.pair (.pair (.int .i64) (.int .u64)) (.pair (.int .i64) (.pair (.int .i64) (.sl 3 (.int .i64))))))))))), a9, .own⟩, ⟨180, (.pair (.int .i64) (.pair (.int .i64) (.pair (.int .i64) (.pair (.int .i64) (.pair (.int .i64) (.pair (.int .i64) (.pair (.pair (.int .i64) (.int .u64)) (.pair (.int .i64) (.pair (.int .i64) (.sl 3 (.int .i64))))))))))), a10, .ro⟩]⟩ : St)
theorem ev126_3 (m : Nat) (k : Kont (Int × Int × (List (Int × Int × Int × Int × Int × Int × (Int × Int) × Int × Int × List Int)))) (a5 a6 a7 a8 : Int) (a9 a10 : List (Int × Int × Int × Int × Int × Int × (Int × Int) × Int × Int × List Int)) : evC Try.prog G126 loopNil c126_3 (S126_3 a5 a6 a7 a8 a9 a10) (turn Try.prog (2, 0) H126_3 (E126_3 m) k) = E126_3 (m + 1) [.v (.int .i64 a5), .v (.int .i64 a6), .v (.int .i64 a7), .v (.int .i64 a8), .row (.pair (.int .i64) (.pair (.int .i64) (.pair (.int .i64) (.pair (.int .i64) (.pair (.int .i64) (.pair (.int .i64) (.pair (.pair (.int .i64) (.int .u64)) (.pair (.int .i64) (.pair (.int .i64) (.sl 3 (.int .i64))))))))))) a9, .row (.pair (.int .i64) (.pair (.int .i64) (.pair (.int .i64) (.pair (.int .i64) (.pair (.int .i64) (.pair (.int .i64) (.pair (.pair (.int .i64) (.int .u64)) (.pair (.int .i64) (.pair (.int .i64) (.sl 3 (.int .i64))))))))))) a10] k := by kernel_rfl
theorem ok126_3 (m : Nat) : LoopOk Try.prog (2, 0) c126_3 (enter Try.prog (2, 0) H126_3 (E126_3 m)) := by
  refine loop_ok (G := G126) (L := loopNil) (envCons_good good129 (envCons_good good197 envNil_good)) (by intro x hx; simp [show loopsOf c126_3 = [] from by kernel_rfl] at hx) (fun ps k => by unfold E126_3; split <;> rfl) (fun m ps k r h => ?_) m
  have h0 := h
  unfold E126_3 at h
  split at h
  · exact ⟨S126_3 _ _ _ _ _ _, by kernel_rfl, (ev126_3 m k _ _ _ _ _ _).trans h0⟩
  · cases h
noncomputable def L126 : LEnv (Int × Int × (List (Int × Int × Int × Int × Int × Int × (Int × Int) × Int × Int × List Int))) := (loopCons 3 (enter Try.prog (2, 0) H126_3 (E126_3 fu)) loopNil)
theorem lq126 : loopsOf c126 = [c126_3] := by kernel_rfl
theorem fr126_3 : firstReg c126_3 = some 3 := by kernel_rfl
theorem le126_3 : L126 3 = enter Try.prog (2, 0) H126_3 (E126_3 fu) := by kernel_rfl
theorem lm126 : ∀ x ∈ [c126_3], ∀ id, firstReg x = some id → LoopOk Try.prog (2, 0) x (L126 id) := (loops_cons fr126_3 le126_3 (ok126_3 fu) loops_nil)
theorem lp126 : ∀ x ∈ loopsOf c126, ∀ id, firstReg x = some id → LoopOk Try.prog (2, 0) x (L126 id) := loops_eq lq126 lm126
noncomputable def R126 (x : Int × Int × (List (Int × Int × Int × Int × Int × Int × (Int × Int) × Int × Int × List Int))) : Res := ⟨[.one (.sl 0)], [(3, [ai x.1]), (3, [ai x.2.1])], [⟨180, (.pair (.int .i64) (.pair (.int .i64) (.pair (.int .i64) (.pair (.int .i64) (.pair (.int .i64) (.pair (.int .i64) (.pair (.pair (.int .i64) (.int .u64)) (.pair (.int .i64) (.pair (.int .i64) (.sl 3 (.int .i64))))))))))), x.2.2, .own⟩]⟩
noncomputable def K126 (r : Res) : Option (Int × Int × (List (Int × Int × Int × Int × Int × Int × (Int × Int) × Int × Int × List Int))) :=
  match r with
  | ⟨[.one (.sl 0)], [(3, [.val (.int .i64 v1)]), (3, [.val (.int .i64 v2)])], [⟨180, (.pair (.int .i64) (.pair (.int .i64) (.pair (.int .i64) (.pair (.int .i64) (.pair (.int .i64) (.pair (.int .i64) (.pair (.pair (.int .i64) (.int .u64)) (.pair (.int .i64) (.pair (.int .i64) (.sl 3 (.int .i64))))))))))), v3, .own⟩]⟩ => some (v1, v2, v3)
  | _ => none
noncomputable def E126 : Fun2 := fun args bs rs =>
  match args, bs, rs with
  | [.s1 (.one (.sl 0)), .s1 (.one (.fn 129 [(0, 0), (1, 0)]))], [(3, [.val (.int .i64 a1)]), (3, [.val (.int .i64 a2)])], [⟨180, (.pair (.int .i64) (.pair (.int .i64) (.pair (.int .i64) (.pair (.int .i64) (.pair (.int .i64) (.pair (.int .i64) (.pair (.pair (.int .i64) (.int .u64)) (.pair (.int .i64) (.pair (.int .i64) (.sl 3 (.int .i64))))))))))), a3, .ro⟩] => some ⟨Int × Int × (List (Int × Int × Int × Int × Int × Int × (Int × Int) × Int × Int × List Int)), I.chosen a1 a2 a3, R126⟩
  | _, _, _ => none
theorem ev126 (a1 a2 : Int) (a3 : List (Int × Int × Int × Int × Int × Int × (Int × Int) × Int × Int × List Int)) : evF Try.prog G126 L126 (2, 0) [] Try.f126 c126 [vl 0, .s1 (.one (.fn 129 [(0, 0), (1, 0)]))] [(3, [ai a1]), (3, [ai a2])] [⟨180, (.pair (.int .i64) (.pair (.int .i64) (.pair (.int .i64) (.pair (.int .i64) (.pair (.int .i64) (.pair (.int .i64) (.pair (.pair (.int .i64) (.int .u64)) (.pair (.int .i64) (.pair (.int .i64) (.sl 3 (.int .i64))))))))))), a3, .ro⟩] K126 = I.chosen a1 a2 a3 := by kernel_rfl
theorem good126 : Vm.Good Try.prog 126 E126 := by
  refine evF_good (G := G126) (c := c126) (envCons_good good129 (envCons_good good197 envNil_good)) Try.func126 (by kernel_rfl) (by kernel_rfl) (2, 0) (fun args bs rs out t h h2 => ?_)
  unfold E126 at h
  split at h
  · injection h with h
    subst h
    exact ⟨rfl, [], L126, K126, lp126, (fun r t h => by unfold K126 at h; split at h; (injection h with h; subst h; rfl); cases h), (ev126 _ _ _).trans h2⟩
  · cases h
/-! ### I.CellsDue -/
noncomputable def G58 : Env := (envCons 125 [] E125 (envCons 126 [] E126 envNil))
noncomputable def c58 : Code := bodyOf Try.f58
noncomputable def I.CellsDue (a1 a2 : Int) (a3 : List (Int × Int × Int × Int × Int × Int × (Int × Int) × Int × Int × List Int)) : Option ((List (Int × Int × Int × Int × Int × Int × (Int × Int) × Int × Int × List Int))) :=
(Option.bind (I.areCells a3) fun r4 =>
(bif (!r4) then
(some [])
else
(Option.bind (I.chosen a1 a2 a3) fun r5 =>
(some r5.2.2))))
noncomputable def R58 (x : (List (Int × Int × Int × Int × Int × Int × (Int × Int) × Int × Int × List Int))) : Res := ⟨[.one (.sl 0)], [], [⟨180, (.pair (.int .i64) (.pair (.int .i64) (.pair (.int .i64) (.pair (.int .i64) (.pair (.int .i64) (.pair (.int .i64) (.pair (.pair (.int .i64) (.int .u64)) (.pair (.int .i64) (.pair (.int .i64) (.sl 3 (.int .i64))))))))))), x, .own⟩]⟩
noncomputable def K58 (r : Res) : Option ((List (Int × Int × Int × Int × Int × Int × (Int × Int) × Int × Int × List Int))) :=
  match r with
  | ⟨[.one (.sl 0)], [], [⟨180, (.pair (.int .i64) (.pair (.int .i64) (.pair (.int .i64) (.pair (.int .i64) (.pair (.int .i64) (.pair (.int .i64) (.pair (.pair (.int .i64) (.int .u64)) (.pair (.int .i64) (.pair (.int .i64) (.sl 3 (.int .i64))))))))))), v1, .own⟩]⟩ => some (v1)
  | _ => none
noncomputable def E58 : Fun2 := fun args bs rs =>
  match args, bs, rs with
  | [.s1 (.one (.sl 0)), .s1 (.one (.val (.int .i64 a1))), .s1 (.one (.val (.int .i64 a2)))], [], [⟨180, (.pair (.int .i64) (.pair (.int .i64) (.pair (.int .i64) (.pair (.int .i64) (.pair (.int .i64) (.pair (.int .i64) (.pair (.pair (.int .i64) (.int .u64)) (.pair (.int .i64) (.pair (.int .i64) (.sl 3 (.int .i64))))))))))), a3, .ro⟩] => some ⟨(List (Int × Int × Int × Int × Int × Int × (Int × Int) × Int × Int × List Int)), I.CellsDue a1 a2 a3, R58⟩
  | _, _, _ => none
theorem ev58 (a1 a2 : Int) (a3 : List (Int × Int × Int × Int × Int × Int × (Int × Int) × Int × Int × List Int)) : evF Try.prog G58 loopNil (0, 0) [] Try.f58 c58 [vl 0, vi a1, vi a2] [] [⟨180, (.pair (.int .i64) (.pair (.int .i64) (.pair (.int .i64) (.pair (.int .i64) (.pair (.int .i64) (.pair (.int .i64) (.pair (.pair (.int .i64) (.int .u64)) (.pair (.int .i64) (.pair (.int .i64) (.sl 3 (.int .i64))))))))))), a3, .ro⟩] K58 = I.CellsDue a1 a2 a3 := by kernel_rfl
theorem good58 : Vm.Good Try.prog 58 E58 := by
  refine evF_good (G := G58) (c := c58) (envCons_good good125 (envCons_good good126 envNil_good)) Try.func58 (by kernel_rfl) (by kernel_rfl) (0, 0) (fun args bs rs out t h h2 => ?_)
  unfold E58 at h
  split at h
  · injection h with h
    subst h
    exact ⟨rfl, [], loopNil, K58, (by intro x hx; simp [show loopsOf c58 = [] from by kernel_rfl] at hx), (fun r t h => by unfold K58 at h; split at h; (injection h with h; subst h; rfl); cases h), (ev58 _ _ _).trans h2⟩
  · cases h
/-! ### L.eqWide -/
noncomputable def G170 : Env := envNil
noncomputable def c170 : Code := bodyOf Try.f170
noncomputable def L.eqWide (a1 a2 a3 a4 : Int) : Option Bool :=
(bif (a1 != a3) then
(some false)
else
(bif (a2 != a4) then
(some false)
else
(some true)))
noncomputable def R170 (x : Bool) : Res := ⟨[.one (ab x)], [], []⟩
noncomputable def K170 (r : Res) : Option Bool :=
  match r with
  | ⟨[.one (.val (.bool v1))], [], []⟩ => some (v1)
  | _ => none
noncomputable def E170 : Fun2 := fun args bs rs =>
  match args, bs, rs with
  | [.s1 (.agg [.val (.int .i64 a1), .val (.int .u64 a2)]), .s1 (.agg [.val (.int .i64 a3), .val (.int .u64 a4)])], [], [] => some ⟨Bool, L.eqWide a1 a2 a3 a4, R170⟩
  | _, _, _ => none
theorem ev170 (a1 a2 a3 a4 : Int) : evF Try.prog G170 loopNil (0, 0) [] Try.f170 c170 [.s1 (.agg [ai a1, ak .u64 a2]), .s1 (.agg [ai a3, ak .u64 a4])] [] [] K170 = L.eqWide a1 a2 a3 a4 := by kernel_rfl
theorem good170 : Vm.Good Try.prog 170 E170 := by
  refine evF_good (G := G170) (c := c170) envNil_good Try.func170 (by kernel_rfl) (by kernel_rfl) (0, 0) (fun args bs rs out t h h2 => ?_)
  unfold E170 at h
  split at h
  · injection h with h
    subst h
    exact ⟨rfl, [], loopNil, K170, (by intro x hx; simp [show loopsOf c170 = [] from by kernel_rfl] at hx), (fun r t h => by unfold K170 at h; split at h; (injection h with h; subst h; rfl); cases h), (ev170 _ _ _ _).trans h2⟩
  · cases h
/-! ### L.eqIntS -/
noncomputable def G119 : Env := envNil
noncomputable def c119 : Code := bodyOf Try.f119
noncomputable def c119_4 : Code := (loopsOf c119).getD 0 .skip
noncomputable def L.eqIntS_l0 : Nat → (Bool → Option Bool) → (Option Bool) → Int → List Int → List Int → Option Bool
  | 0, _, _, _, _, _ => none
  | m + 1, e4_0, e4_1, a5, a6, a7 =>
    (bif (decide (a5 < (a6.length : Int))) then
    (bif decide ((0 : Int) ≤ a5 ∧ a5 < (a6.length : Int)) then
    (bif decide ((0 : Int) ≤ a5 ∧ a5 < (a7.length : Int)) then
    (bif ((nthI a6 a5 (0 : Int)) != (nthI a7 a5 (0 : Int))) then
    (e4_0 false)
    else
    (L.eqIntS_l0 m e4_0 e4_1 (IntKind.wrap .i64 (a5 + 1)) a6 a7))
    else
    none)
    else
    none)
    else
    e4_1)
noncomputable def L.eqIntS (a1 a2 : List Int) : Option Bool :=
(bif ((a1.length : Int) != (a2.length : Int)) then
(some false)
else
(L.eqIntS_l0 fu (fun y12 =>
(some y12)) (some true) 0 a1 a2))
noncomputable def H119_4 : LoopH := ⟨⟨((.one (.sl 0)) :: (.one (.sl 1)) :: (hu 3 (hh :: (hu 20 [])))), [], [(3, (.int .i64), .ro), (3, (.int .i64), .ro)]⟩, [2, 3, 4, 6, 7, 8, 9, 10, 11, 12, 13, 14, 15, 16, 17, 18, 19, 20, 21, 22, 23, 24, 25], [], [0, 1, 2, 3, 5, 6, 7, 8, 9, 10, 11, 12, 13, 14, 15, 16, 17, 18, 19, 20, 21, 22, 23, 24, 25], []⟩
noncomputable def E119_4 (m : Nat) (ps : List Prm) (k : Kont Bool) : Option Bool :=
  match ps with
  | [.v (.int .i64 a5), .row (.int .i64) a6, .row (.int .i64) a7] => L.eqIntS_l0 m (fun z14 => k .ret (⟨(vu 4 ((vb z14) :: (vu 21 []))), [], []⟩ : St)) (k (.exit 0) (⟨(vu 26 []), [], []⟩ : St)) a5 a6 a7
  | _ => none
noncomputable def S119_4 (a5 : Int) (a6 a7 : List Int) : St := (⟨((vl 0) :: (vl 1) :: (vu 3 ((vi a5) :: (vu 20 [])))), [], [⟨3, (.int .i64), a6, .ro⟩, ⟨3, (.int .i64), a7, .ro⟩]⟩ : St)
theorem ev119_4 (m : Nat) (k : Kont Bool) (a5 : Int) (a6 a7 : List Int) : evC Try.prog G119 loopNil c119_4 (S119_4 a5 a6 a7) (turn Try.prog (0, 0) H119_4 (E119_4 m) k) = E119_4 (m + 1) [.v (.int .i64 a5), .row (.int .i64) a6, .row (.int .i64) a7] k := by kernel_rfl
theorem ok119_4 (m : Nat) : LoopOk Try.prog (0, 0) c119_4 (enter Try.prog (0, 0) H119_4 (E119_4 m)) := by
  refine loop_ok (G := G119) (L := loopNil) envNil_good (by intro x hx; simp [show loopsOf c119_4 = [] from by kernel_rfl] at hx) (fun ps k => by unfold E119_4; split <;> rfl) (fun m ps k r h => ?_) m
  have h0 := h
  unfold E119_4 at h
  split at h
  · exact ⟨S119_4 _ _ _, by kernel_rfl, (ev119_4 m k _ _ _).trans h0⟩
  · cases h
noncomputable def L119 : LEnv Bool := (loopCons 4 (enter Try.prog (0, 0) H119_4 (E119_4 fu)) loopNil)
theorem lq119 : loopsOf c119 = [c119_4] := by kernel_rfl
theorem fr119_4 : firstReg c119_4 = some 4 := by kernel_rfl
theorem le119_4 : L119 4 = enter Try.prog (0, 0) H119_4 (E119_4 fu) := by kernel_rfl
theorem lm119 : ∀ x ∈ [c119_4], ∀ id, firstReg x = some id → LoopOk Try.prog (0, 0) x (L119 id) := (loops_cons fr119_4 le119_4 (ok119_4 fu) loops_nil)
theorem lp119 : ∀ x ∈ loopsOf c119, ∀ id, firstReg x = some id → LoopOk Try.prog (0, 0) x (L119 id) := loops_eq lq119 lm119
noncomputable def R119 (x : Bool) : Res := ⟨[.one (ab x)], [], []⟩
noncomputable def K119 (r : Res) : Option Bool :=
  match r with
  | ⟨[.one (.val (.bool v1))], [], []⟩ => some (v1)
  | _ => none
noncomputable def E119 : Fun2 := fun args bs rs =>
  match args, bs, rs with
  | [.s1 (.one (.sl 0)), .s1 (.one (.sl 1))], [], [⟨3, (.int .i64), a1, .ro⟩, ⟨3, (.int .i64), a2, .ro⟩] => some ⟨Bool, L.eqIntS a1 a2, R119⟩
  | _, _, _ => none
theorem ev119 (a1 a2 : List Int) : evF Try.prog G119 L119 (0, 0) [] Try.f119 c119 [vl 0, vl 1] [] [⟨3, (.int .i64), a1, .ro⟩, ⟨3, (.int .i64), a2, .ro⟩] K119 = L.eqIntS a1 a2 := by kernel_rfl
theorem good119 : Vm.Good Try.prog 119 E119 := by
  refine evF_good (G := G119) (c := c119) envNil_good Try.func119 (by kernel_rfl) (by kernel_rfl) (0, 0) (fun args bs rs out t h h2 => ?_)
  unfold E119 at h
  split at h
  · injection h with h
    subst h
    exact ⟨rfl, [], L119, K119, lp119, (fun r t h => by unfold K119 at h; split at h; (injection h with h; subst h; rfl); cases h), (ev119 _ _).trans h2⟩
  · cases h
/-! ### L.eqAgg -/
noncomputable def G83 : Env := (envCons 170 [] E170 (envCons 119 [] E119 envNil))
noncomputable def c83 : Code := bodyOf Try.f83
noncomputable def L.eqAgg (a1 a2 a3 a4 a5 a6 a7 a8 a9 a10 : Int) (a11 a12 : List Int) : Option Bool :=
(bif (a1 != a6) then
(some false)
else
(Option.bind (L.eqWide a2 a3 a7 a8) fun r13 =>
(bif (!r13) then
(some false)
else
(bif (a4 != a9) then
(some false)
else
(bif (a5 != a10) then
(some false)
else
(Option.bind (L.eqIntS a11 a12) fun r14 =>
(bif (!r14) then
(some false)
else
(some true))))))))
noncomputable def R83 (x : Bool) : Res := ⟨[.one (ab x)], [], []⟩
noncomputable def K83 (r : Res) : Option Bool :=
  match r with
  | ⟨[.one (.val (.bool v1))], [], []⟩ => some (v1)
  | _ => none
noncomputable def E83 : Fun2 := fun args bs rs =>
  match args, bs, rs with
  | [.s1 (.agg [.val (.int .i64 a1), .val (.int .i64 a2), .val (.int .u64 a3), .val (.int .i64 a4), .val (.int .i64 a5), .sl 0]), .s1 (.agg [.val (.int .i64 a6), .val (.int .i64 a7), .val (.int .u64 a8), .val (.int .i64 a9), .val (.int .i64 a10), .sl 1])], [], [⟨3, (.int .i64), a11, .ro⟩, ⟨3, (.int .i64), a12, .ro⟩] => some ⟨Bool, L.eqAgg a1 a2 a3 a4 a5 a6 a7 a8 a9 a10 a11 a12, R83⟩
  | _, _, _ => none
theorem ev83 (a1 a2 a3 a4 a5 a6 a7 a8 a9 a10 : Int) (a11 a12 : List Int) : evF Try.prog G83 loopNil (0, 0) [] Try.f83 c83 [.s1 (.agg [ai a1, ai a2, ak .u64 a3, ai a4, ai a5, .sl 0]), .s1 (.agg [ai a6, ai a7, ak .u64 a8, ai a9, ai a10, .sl 1])] [] [⟨3, (.int .i64), a11, .ro⟩, ⟨3, (.int .i64), a12, .ro⟩] K83 = L.eqAgg a1 a2 a3 a4 a5 a6 a7 a8 a9 a10 a11 a12 := by kernel_rfl
theorem good83 : Vm.Good Try.prog 83 E83 := by
  refine evF_good (G := G83) (c := c83) (envCons_good good170 (envCons_good good119 envNil_good)) Try.func83 (by kernel_rfl) (by kernel_rfl) (0, 0) (fun args bs rs out t h h2 => ?_)
  unfold E83 at h
  split at h
  · injection h with h
    subst h
    exact ⟨rfl, [], loopNil, K83, (by intro x hx; simp [show loopsOf c83 = [] from by kernel_rfl] at hx), (fun r t h => by unfold K83 at h; split at h; (injection h with h; subst h; rfl); cases h), (ev83 _ _ _ _ _ _ _ _ _ _ _ _).trans h2⟩
  · cases h
/-! ### L.eqCell -/
noncomputable def G128 : Env := (envCons 83 [] E83 envNil)
noncomputable def c128 : Code := bodyOf Try.f128
noncomputable def L.eqCell (a1 a2 a3 a4 a5 a6 a7 a8 a9 a10 a11 a12 a13 a14 a15 a16 a17 a18 a19 a20 : Int) (a21 a22 : List Int) : Option Bool :=
(bif (a1 != a11) then
(some false)
else
(bif (a2 != a12) then
(some false)
else
(bif (a3 != a13) then
(some false)
else
(bif (a4 != a14) then
(some false)
else
(bif (a5 != a15) then
(some false)
else
(Option.bind (L.eqAgg a6 a7 a8 a9 a10 a16 a17 a18 a19 a20 a21 a22) fun r23 =>
(bif (!r23) then
(some false)
else
(some true))))))))
noncomputable def R128 (x : Bool) : Res := ⟨[.one (ab x)], [], []⟩
noncomputable def K128 (r : Res) : Option Bool :=
  match r with
  | ⟨[.one (.val (.bool v1))], [], []⟩ => some (v1)
  | _ => none
noncomputable def E128 : Fun2 := fun args bs rs =>
  match args, bs, rs with
  | [.s1 (.agg [.val (.int .i64 a1), .val (.int .i64 a2), .val (.int .i64 a3), .val (.int .i64 a4), .val (.int .i64 a5), .val (.int .i64 a6), .val (.int .i64 a7), .val (.int .u64 a8), .val (.int .i64 a9), .val (.int .i64 a10), .sl 0]), .s1 (.agg [.val (.int .i64 a11), .val (.int .i64 a12), .val (.int .i64 a13), .val (.int .i64 a14), .val (.int .i64 a15), .val (.int .i64 a16), .val (.int .i64 a17), .val (.int .u64 a18), .val (.int .i64 a19), .val (.int .i64 a20), .sl 1])], [], [⟨3, (.int .i64), a21, .ro⟩, ⟨3, (.int .i64), a22, .ro⟩] => some ⟨Bool, L.eqCell a1 a2 a3 a4 a5 a6 a7 a8 a9 a10 a11 a12 a13 a14 a15 a16 a17 a18 a19 a20 a21 a22, R128⟩
  | _, _, _ => none
theorem ev128 (a1 a2 a3 a4 a5 a6 a7 a8 a9 a10 a11 a12 a13 a14 a15 a16 a17 a18 a19 a20 : Int) (a21 a22 : List Int) : evF Try.prog G128 loopNil (0, 0) [] Try.f128 c128 [.s1 (.agg [ai a1, ai a2, ai a3, ai a4, ai a5, ai a6, ai a7, ak .u64 a8, ai a9, ai a10, .sl 0]), .s1 (.agg [ai a11, ai a12, ai a13, ai a14, ai a15, ai a16, ai a17, ak .u64 a18, ai a19, ai a20, .sl 1])] [] [⟨3, (.int .i64), a21, .ro⟩, ⟨3, (.int .i64), a22, .ro⟩] K128 = L.eqCell a1 a2 a3 a4 a5 a6 a7 a8 a9 a10 a11 a12 a13 a14 a15 a16 a17 a18 a19 a20 a21 a22 := by kernel_rfl
theorem good128 : Vm.Good Try.prog 128 E128 := by
  refine evF_good (G := G128) (c := c128) (envCons_good good83 envNil_good) Try.func128 (by kernel_rfl) (by kernel_rfl) (0, 0) (fun args bs rs out t h h2 => ?_)
  unfold E128 at h
  split at h
  · injection h with h
    subst h
    exact ⟨rfl, [], loopNil, K128, (by intro x hx; simp [show loopsOf c128 = [] from by kernel_rfl] at hx), (fun r t h => by unfold K128 at h; split at h; (injection h with h; subst h; rfl); cases h), (ev128 _ _ _ _ _ _ _ _ _ _ _ _ _ _ _ _ _ _ _ _ _ _).trans h2⟩
  · cases h
/-! ### L.eqCellS -/
noncomputable def G54 : Env := (envCons 128 [] E128 envNil)
noncomputable def c54 : Code := bodyOf Try.f54
noncomputable def c54_4 : Code := (loopsOf c54).getD 0 .skip
noncomputable def L.eqCellS_l0 : Nat → (Bool → Option Bool) → (Option Bool) → Int → (List (Int × Int × Int × Int × Int × Int × (Int × Int) × Int × Int × List Int)) → (List (Int × Int × Int × Int × Int × Int × (Int × Int) × Int × Int × List Int)) → Option Bool
  | 0, _, _, _, _, _ => none
  | m + 1, e4_0, e4_1, a5, a6, a7 =>
    (bif (decide (a5 < (a6.length : Int))) then
    (bif decide ((0 : Int) ≤ a5 ∧ a5 < (a6.length : Int)) then
    (bif decide ((0 : Int) ≤ a5 ∧ a5 < (a7.length : Int)) then
    (Option.bind (L.eqCell ((nthI a6 a5 ((0 : Int), ((0 : Int), ((0 : Int), ((0 : Int), ((0 : Int), ((0 : Int), (((0 : Int), (0 : Int)), ((0 : Int), ((0 : Int), [])))))))))).1) ((nthI a6 a5 ((0 : Int), ((0 : Int), ((0 : Int), ((0 : Int), ((0 : Int), ((0 : Int), (((0 : Int), (0 : Int)), ((0 : Int), ((0 : Int), [])))))))))).2.1) ((nthI a6 a5 ((0 : Int), ((0 : Int), ((0 : Int), ((0 : Int), ((0 : Int), ((0 : Int), (((0 : Int), (0 : Int)), ((0 : Int), ((0 : Int), [])))))))))).2.2.1) ((nthI a6 a5 ((0 : Int), ((0 : Int), ((0 : Int), ((0 : Int), ((0 : Int), ((0 : Int), (((0 : Int), (0 : Int)), ((0 : Int), ((0 : Int), [])))))))))).2.2.2.1) ((nthI a6 a5 ((0 : Int), ((0 : Int), ((0 : Int), ((0 : Int), ((0 : Int), ((0 : Int), (((0 : Int), (0 : Int)), ((0 : Int), ((0 : Int), [])))))))))).2.2.2.2.1) ((nthI a6 a5 ((0 : Int), ((0 : Int), ((0 : Int), ((0 : Int), ((0 : Int), ((0 : Int), (((0 : Int), (0 : Int)), ((0 : Int), ((0 : Int), [])))))))))).2.2.2.2.2.1) ((nthI a6 a5 ((0 : Int), ((0 : Int), ((0 : Int), ((0 : Int), ((0 : Int), ((0 : Int), (((0 : Int), (0 : Int)), ((0 : Int), ((0 : Int), [])))))))))).2.2.2.2.2.2.1.1) ((nthI a6 a5 ((0 : Int), ((0 : Int), ((0 : Int), ((0 : Int), ((0 : Int), ((0 : Int), (((0 : Int), (0 : Int)), ((0 : Int), ((0 : Int), [])))))))))).2.2.2.2.2.2.1.2) ((nthI a6 a5 ((0 : Int), ((0 : Int), ((0 : Int), ((0 : Int), ((0 : Int), ((0 : Int), (((0 : Int), (0 : Int)), ((0 : Int), ((0 : Int), [])))))))))).2.2.2.2.2.2.2.1) ((nthI a6 a5 ((0 : Int), ((0 : Int), ((0 : Int), ((0 : Int), ((0 : Int), ((0 : Int), (((0 : Int), (0 : Int)), ((0 : Int), ((0 : Int), [])))))))))).2.2.2.2.2.2.2.2.1) ((nthI a7 a5 ((0 : Int), ((0 : Int), ((0 : Int), ((0 : Int), ((0 : Int), ((0 : Int), (((0 : Int), (0 : Int)), ((0 : Int), ((0 : Int), [])))))))))).1) ((nthI a7 a5 ((0 : Int), ((0 : Int), ((0 : Int), ((0 : Int), ((0 : Int), ((0 : Int), (((0 : Int), (0 : Int)), ((0 : Int), ((0 : Int), [])))))))))).2.1) ((nthI a7 a5 ((0 : Int), ((0 : Int), ((0 : Int), ((0 : Int), ((0 : Int), ((0 : Int), (((0 : Int), (0 : Int)), ((0 : Int), ((0 : Int), [])))))))))).2.2.1) ((nthI a7 a5 ((0 : Int), ((0 : Int), ((0 : Int), ((0 : Int), ((0 : Int), ((0 : Int), (((0 : Int), (0 : Int)), ((0 : Int), ((0 : Int), [])))))))))).2.2.2.1) ((nthI a7 a5 ((0 : Int), ((0 : Int), ((0 : Int), ((0 : Int), ((0 : Int), ((0 : Int), (((0 : Int), (0 : Int)), ((0 : Int), ((0 : Int), [])))))))))).2.2.2.2.1) ((nthI a7 a5 ((0 : Int), ((0 : Int), ((0 : Int), ((0 : Int), ((0 : Int), ((0 : Int), (((0 : Int), (0 : Int)), ((0 : Int), ((0 : Int), [])))))))))).2.2.2.2.2.1) ((nthI a7 a5 ((0 : Int), ((0 : Int), ((0 : Int), ((0 : Int), ((0 : Int), ((0 : Int), (((0 : Int), (0 : Int)), ((0 : Int), ((0 : Int), [])))))))))).2.2.2.2.2.2.1.1) ((nthI a7 a5 ((0 : Int), ((0 : Int), ((0 : Int), ((0 : Int), ((0 : Int), ((0 : Int), (((0 : Int), (0 : Int)), ((0 : Int), ((0 : Int), [])))))))))).2.2.2.2.2.2.1.2) ((nthI a7 a5 ((0 : Int), ((0 : Int), ((0 : Int), ((0 : Int), ((0 : Int), ((0 : Int), (((0 : Int), (0 : Int)), ((0 : Int), ((0 : Int), [])))))))))).2.2.2.2.2.2.2.1) ((nthI a7 a5 ((0 : Int), ((0 : Int), ((0 : Int), ((0 : Int), ((0 : Int), ((0 : Int), (((0 : Int), (0 : Int)), ((0 : Int), ((0 : Int), [])))))))))).2.2.2.2.2.2.2.2.1) ((nthI a6 a5 ((0 : Int), ((0 : Int), ((0 : Int), ((0 : Int), ((0 : Int), ((0 : Int), (((0 : Int), (0 : Int)), ((0 : Int), ((0 : Int), [])))))))))).2.2.2.2.2.2.2.2.2) ((nthI a7 a5 ((0 : Int), ((0 : Int), ((0 : Int), ((0 : Int), ((0 : Int), ((0 : Int), (((0 : Int), (0 : Int)), ((0 : Int), ((0 : Int), [])))))))))).2.2.2.2.2.2.2.2.2)) fun r10 =>
    (bif (!r10) then
    (e4_0 false)
    else
    (L.eqCellS_l0 m e4_0 e4_1 (IntKind.wrap .i64 (a5 + 1)) a6 a7)))
    else
    none)
    else
    none)
    else
    e4_1)
noncomputable def L.eqCellS (a1 a2 : List (Int × Int × Int × Int × Int × Int × (Int × Int) × Int × Int × List Int)) : Option Bool :=
(bif ((a1.length : Int) != (a2.length : Int)) then
(some false)
else
(L.eqCellS_l0 fu (fun y12 =>
(some y12)) (some true) 0 a1 a2))
noncomputable def H54_4 : LoopH := ⟨⟨((.one (.sl 0)) :: (.one (.sl 1)) :: (hu 3 (hh :: (hu 21 [])))), [], [(180, (.pair (.int .i64) (.pair (.int .i64) (.pair (.int .i64) (.pair (.int .i64) (.pair (.int .i64) (.pair (.int .i64) (.pair (.pair (.int .i64) (.int .u64)) (.pair (.int .i64) (.pair (.int .i64) (.sl 3 (.int .i64))))))))))), .ro), (180, (.pair (.int .i64) (.pair (.int .i64) (.pair (.int .i64) (.pair (.int .i64) (.pair (.int .i64) (.pair (.int .i64) (.pair (.pair (.int .i64) (.int .u64)) (.pair (.int .i64) (.pair (.int .i64) (.sl 3 (.int .i64))))))))))), .ro)]⟩, [2, 3, 4, 6, 7, 8, 9, 10, 11, 12, 13, 14, 15, 16, 17, 18, 19, 20, 21, 22, 23, 24, 25, 26], [], [0, 1, 2, 3, 5, 6, 7, 8, 9, 10, 11, 12, 13, 14, 15, 16, 17, 18, 19, 20, 21, 22, 23, 24, 25, 26], []⟩
noncomputable def E54_4 (m : Nat) (ps : List Prm) (k : Kont Bool) : Option Bool :=
  match ps with
  | [.v (.int .i64 a5), .row (.pair (.int .i64) (.pair (.int .i64) (.pair (.int .i64) (.pair (.int .i64) (.pair (.int .i64) (.pair (.int .i64) (.pair (.pair (.int .i64) (.int .u64)) (.pair (.int .i64) (.pair (.int .i64) (.sl 3 (.int .i64))))))))))) a6, .row (.pair (.int .i64) (.pair (.int .i64) (.pair (.int .i64) (.pair (.int .i64) (.pair (.int .i64) (.pair (.int .i64) (.pair (.pair (.int .i64) (.int .u64)) (.pair (.int .i64) (.pair (.int .i64) (.sl 3 (.int .i64))))))))))) a7] => L.eqCellS_l0 m (fun z14 => k .ret (⟨(vu 4 ((vb z14) :: (vu 22 []))), [], []⟩ : St)) (k (.exit 0) (⟨(vu 27 []), [], []⟩ : St)) a5 a6 a7
  | _ => none
noncomputable def S54_4 (a5 : Int) (a6 a7 : List (Int × Int × Int × Int × Int × Int × (Int × Int) × Int × Int × List Int)) : St := (⟨((vl 0) :: (vl 1) :: (vu 3 ((vi a5) :: (vu 21 [])))), [], [⟨180, (.pair (.int .i64) (.pair (.int .i64) (.pair (.int .i64) (.pair (.int .i64) (.pair (.int .i64) (.pair (.int .i64) (.pair (.pair (.int .i64) (.int .u64)) (.pair (.int .i64) (.pair (.int .i64) (.sl 3 (.int .i64))))))))))), a6, .ro⟩, ⟨180, (.pair (.int .i64) (.pair (.int .i64) (.pair (.int .i64) (.pair (.int .i64) (.pair (.int .i64) (.pair (.int .i64) (.pair (.pair (.int .i64) (.int .u64)) (.pair (.int .i64) (.pair (.int .i64) (.sl 3 (.int .i64))))))))))), a7, .ro⟩]⟩ : St)
theorem ev54_4 (m : Nat) (k : Kont Bool) (a5 : Int) (a6 a7 : List (Int × Int × Int × Int × Int × Int × (Int × Int) × Int × Int × List Int)) : evC Try.prog G54 loopNil c54_4 (S54_4 a5 a6 a7) (turn Try.prog (0, 0) H54_4 (E54_4 m) k) = E54_4 (m + 1) [.v (.int .i64 a5), .row (.pair (.int .i64) (.pair (.int .i64) (.pair (.int .i64) (.pair (.int .i64) (.pair (.int .i64) (.pair (.int .i64) (.pair (.pair (.int .i64) (.int .u64)) (.pair (.int .i64) (.pair (.int .i64) (.sl 3 (.int .i64))))))))))) a6, .row (.pair (.int .i64) (.pair (.int .i64) (.pair (.int .i64) (.pair (.int .i64) (.pair (.int .i64) (.pair (.int .i64) (.pair (.pair (.int .i64) (.int .u64)) (.pair (.int .i64) (.pair (.int .i64) (.sl 3 (.int .i64))))))))))) a7] k := by kernel_rfl
theorem ok54_4 (m : Nat) : LoopOk Try.prog (0, 0) c54_4 (enter Try.prog (0, 0) H54_4 (E54_4 m)) := by
  refine loop_ok (G := G54) (L := loopNil) (envCons_good good128 envNil_good) (by intro x hx; simp [show loopsOf c54_4 = [] from by kernel_rfl] at hx) (fun ps k => by unfold E54_4; split <;> rfl) (fun m ps k r h => ?_) m
  have h0 := h
  unfold E54_4 at h
  split at h
  · exact ⟨S54_4 _ _ _, by kernel_rfl, (ev54_4 m k _ _ _).trans h0⟩
  · cases h
noncomputable def L54 : LEnv Bool := (loopCons 4 (enter Try.prog (0, 0) H54_4 (E54_4 fu)) loopNil)
theorem lq54 : loopsOf c54 = [c54_4] := by kernel_rfl
theorem fr54_4 : firstReg c54_4 = some 4 := by kernel_rfl
theorem le54_4 : L54 4 = enter Try.prog (0, 0) H54_4 (E54_4 fu) := by kernel_rfl
theorem lm54 : ∀ x ∈ [c54_4], ∀ id, firstReg x = some id → LoopOk Try.prog (0, 0) x (L54 id) := (loops_cons fr54_4 le54_4 (ok54_4 fu) loops_nil)
theorem lp54 : ∀ x ∈ loopsOf c54, ∀ id, firstReg x = some id → LoopOk Try.prog (0, 0) x (L54 id) := loops_eq lq54 lm54
noncomputable def R54 (x : Bool) : Res := ⟨[.one (ab x)], [], []⟩
noncomputable def K54 (r : Res) : Option Bool :=
  match r with
  | ⟨[.one (.val (.bool v1))], [], []⟩ => some (v1)
  | _ => none
noncomputable def E54 : Fun2 := fun args bs rs =>
  match args, bs, rs with
  | [.s1 (.one (.sl 0)), .s1 (.one (.sl 1))], [], [⟨180, (.pair (.int .i64) (.pair (.int .i64) (.pair (.int .i64) (.pair (.int .i64) (.pair (.int .i64) (.pair (.int .i64) (.pair (.pair (.int .i64) (.int .u64)) (.pair (.int .i64) (.pair (.int .i64) (.sl 3 (.int .i64))))))))))), a1, .ro⟩, ⟨180, (.pair (.int .i64) (.pair (.int .i64) (.pair (.int .i64) (.pair (.int .i64) (.pair (.int .i64) (.pair (.int .i64) (.pair (.pair (.int .i64) (.int .u64)) (.pair (.int .i64) (.pair (.int .i64) (.sl 3 (.int .i64))))))))))), a2, .ro⟩] => some ⟨Bool, L.eqCellS a1 a2, R54⟩
  | _, _, _ => none
theorem ev54 (a1 a2 : List (Int × Int × Int × Int × Int × Int × (Int × Int) × Int × Int × List Int)) : evF Try.prog G54 L54 (0, 0) [] Try.f54 c54 [vl 0, vl 1] [] [⟨180, (.pair (.int .i64) (.pair (.int .i64) (.pair (.int .i64) (.pair (.int .i64) (.pair (.int .i64) (.pair (.int .i64) (.pair (.pair (.int .i64) (.int .u64)) (.pair (.int .i64) (.pair (.int .i64) (.sl 3 (.int .i64))))))))))), a1, .ro⟩, ⟨180, (.pair (.int .i64) (.pair (.int .i64) (.pair (.int .i64) (.pair (.int .i64) (.pair (.int .i64) (.pair (.int .i64) (.pair (.pair (.int .i64) (.int .u64)) (.pair (.int .i64) (.pair (.int .i64) (.sl 3 (.int .i64))))))))))), a2, .ro⟩] K54 = L.eqCellS a1 a2 := by kernel_rfl
theorem good54 : Vm.Good Try.prog 54 E54 := by
  refine evF_good (G := G54) (c := c54) (envCons_good good128 envNil_good) Try.func54 (by kernel_rfl) (by kernel_rfl) (0, 0) (fun args bs rs out t h h2 => ?_)
  unfold E54 at h
  split at h
  · injection h with h
    subst h
    exact ⟨rfl, [], L54, K54, lp54, (fun r t h => by unfold K54 at h; split at h; (injection h with h; subst h; rfl); cases h), (ev54 _ _).trans h2⟩
  · cases h
/-! ### L.markIntS -/
noncomputable def G96 : Env := envNil
noncomputable def c96 : Code := bodyOf Try.f96
noncomputable def c96_2 : Code := (loopsOf c96).getD 0 .skip
noncomputable def L.markIntS_l0 : Nat → (Int → List Int → Option (Int × List Int)) → Int → Int → List Int → Option (Int × List Int)
  | 0, _, _, _, _ => none
  | m + 1, e2_0, a3, a4, a5 =>
    (bif (decide (a4 < (a5.length : Int))) then
    (bif decide ((0 : Int) ≤ a4 ∧ a4 < (a5.length : Int)) then
    (L.markIntS_l0 m e2_0 (IntKind.wrap .i64 (a3 + 1)) (IntKind.wrap .i64 (a4 + 1)) (a5.set (Int.toNat a4) a3))
    else
    none)
    else
    (e2_0 a3 a5))
noncomputable def L.markIntS (a1 : Int) (a2 : List Int) : Option (Int × List Int) :=
(L.markIntS_l0 fu (fun y11 y12 =>
(some (y11, y12))) a1 0 a2)
noncomputable def H96_2 : LoopH := ⟨⟨((.one (.sl 0)) :: hh :: (hu 3 (hh :: (hu 13 [])))), [], [(3, (.int .i64), .own)]⟩, [2, 3, 4, 6, 7, 8, 9, 10, 11, 12, 13, 14, 15, 16, 17, 18], [], [0, 2, 3, 5, 6, 7, 8, 9, 10, 11, 12, 13, 14, 15, 16, 17, 18], []⟩
noncomputable def E96_2 (m : Nat) (ps : List Prm) (k : Kont (Int × List Int)) : Option (Int × List Int) :=
  match ps with
  | [.v (.int .i64 a3), .v (.int .i64 a4), .row (.int .i64) a5] => L.markIntS_l0 m (fun z15 z16 => k (.exit 0) (⟨((.s1 (.one (.unk))) :: (vi z15) :: (vu 17 [])), [], [⟨3, (.int .i64), z16, .own⟩]⟩ : St)) a3 a4 a5
  | _ => none
noncomputable def S96_2 (a3 a4 : Int) (a5 : List Int) : St := (⟨((vl 0) :: (vi a3) :: (vu 3 ((vi a4) :: (vu 13 [])))), [], [⟨3, (.int .i64), a5, .own⟩]⟩ : St)
theorem ev96_2 (m : Nat) (k : Kont (Int × List Int)) (a3 a4 : Int) (a5 : List Int) : evC Try.prog G96 loopNil c96_2 (S96_2 a3 a4 a5) (turn Try.prog (0, 1) H96_2 (E96_2 m) k) = E96_2 (m + 1) [.v (.int .i64 a3), .v (.int .i64 a4), .row (.int .i64) a5] k := by kernel_rfl
theorem ok96_2 (m : Nat) : LoopOk Try.prog (0, 1) c96_2 (enter Try.prog (0, 1) H96_2 (E96_2 m)) := by
  refine loop_ok (G := G96) (L := loopNil) envNil_good (by intro x hx; simp [show loopsOf c96_2 = [] from by kernel_rfl] at hx) (fun ps k => by unfold E96_2; split <;> rfl) (fun m ps k r h => ?_) m
  have h0 := h
  unfold E96_2 at h
  split at h
  · exact ⟨S96_2 _ _ _, by kernel_rfl, (ev96_2 m k _ _ _).trans h0⟩
  · cases h
noncomputable def L96 : LEnv (Int × List Int) := (loopCons 2 (enter Try.prog (0, 1) H96_2 (E96_2 fu)) loopNil)
theorem lq96 : loopsOf c96 = [c96_2] := by kernel_rfl
theorem fr96_2 : firstReg c96_2 = some 2 := by kernel_rfl
theorem le96_2 : L96 2 = enter Try.prog (0, 1) H96_2 (E96_2 fu) := by kernel_rfl
theorem lm96 : ∀ x ∈ [c96_2], ∀ id, firstReg x = some id → LoopOk Try.prog (0, 1) x (L96 id) := (loops_cons fr96_2 le96_2 (ok96_2 fu) loops_nil)
theorem lp96 : ∀ x ∈ loopsOf c96, ∀ id, firstReg x = some id → LoopOk Try.prog (0, 1) x (L96 id) := loops_eq lq96 lm96
noncomputable def R96 (x : Int × List Int) : Res := ⟨[.one (ai x.1)], [], [⟨3, (.int .i64), x.2, .own⟩]⟩
noncomputable def K96 (r : Res) : Option (Int × List Int) :=
  match r with
  | ⟨[.one (.val (.int .i64 v1))], [], [⟨3, (.int .i64), v2, .own⟩]⟩ => some (v1, v2)
  | _ => none
noncomputable def E96 : Fun2 := fun args bs rs =>
  match args, bs, rs with
  | [.s1 (.one (.sl 0)), .s1 (.one (.val (.int .i64 a1)))], [], [⟨3, (.int .i64), a2, .own⟩] => some ⟨Int × List Int, L.markIntS a1 a2, R96⟩
  | _, _, _ => none
theorem ev96 (a1 : Int) (a2 : List Int) : evF Try.prog G96 L96 (0, 1) [] Try.f96 c96 [vl 0, vi a1] [] [⟨3, (.int .i64), a2, .own⟩] K96 = L.markIntS a1 a2 := by kernel_rfl
theorem good96 : Vm.Good Try.prog 96 E96 := by
  refine evF_good (G := G96) (c := c96) envNil_good Try.func96 (by kernel_rfl) (by kernel_rfl) (0, 1) (fun args bs rs out t h h2 => ?_)
  unfold E96 at h
  split at h
  · injection h with h
    subst h
    exact ⟨rfl, [], L96, K96, lp96, (fun r t h => by unfold K96 at h; split at h; (injection h with h; subst h; rfl); cases h), (ev96 _ _).trans h2⟩
  · cases h
/-! ### L.markCellS -/
noncomputable def G55 : Env := (envCons 96 [0] E96 envNil)
noncomputable def c55 : Code := bodyOf Try.f55
noncomputable def c55_2 : Code := (loopsOf c55).getD 0 .skip
noncomputable def L.markCellS_l0 : Nat → (Int → (List (Int × Int × Int × Int × Int × Int × (Int × Int) × Int × Int × List Int)) → Option (Int × (List (Int × Int × Int × Int × Int × Int × (Int × Int) × Int × Int × List Int)))) → Int → Int → (List (Int × Int × Int × Int × Int × Int × (Int × Int) × Int × Int × List Int)) → Option (Int × (List (Int × Int × Int × Int × Int × Int × (Int × Int) × Int × Int × List Int)))
  | 0, _, _, _, _ => none
  | m + 1, e2_0, a3, a4, a5 =>
    (bif (decide (a4 < (a5.length : Int))) then
    (bif decide ((0 : Int) ≤ a4 ∧ a4 < (a5.length : Int)) then
    (let v8 : List (Int × Int × Int × Int × Int × Int × (Int × Int) × Int × Int × List Int) := (a5.set (Int.toNat a4) (a3, (nthI a5 a4 ((0 : Int), ((0 : Int), ((0 : Int), ((0 : Int), ((0 : Int), ((0 : Int), (((0 : Int), (0 : Int)), ((0 : Int), ((0 : Int), [])))))))))).2))
    (let v9 : Int := (IntKind.wrap .i64 (a3 + 1))
    (bif decide ((0 : Int) ≤ a4 ∧ a4 < (v8.length : Int)) then
    (let v10 : List (Int × Int × Int × Int × Int × Int × (Int × Int) × Int × Int × List Int) := (v8.set (Int.toNat a4) ((nthI v8 a4 ((0 : Int), ((0 : Int), ((0 : Int), ((0 : Int), ((0 : Int), ((0 : Int), (((0 : Int), (0 : Int)), ((0 : Int), ((0 : Int), [])))))))))).1, (v9, (nthI v8 a4 ((0 : Int), ((0 : Int), ((0 : Int), ((0 : Int), ((0 : Int), ((0 : Int), (((0 : Int), (0 : Int)), ((0 : Int), ((0 : Int), [])))))))))).2.2)))
    (let v11 : Int := (IntKind.wrap .i64 (v9 + 1))
    (bif decide ((0 : Int) ≤ a4 ∧ a4 < (v10.length : Int)) then
    (let v12 : List (Int × Int × Int × Int × Int × Int × (Int × Int) × Int × Int × List Int) := (v10.set (Int.toNat a4) ((nthI v10 a4 ((0 : Int), ((0 : Int), ((0 : Int), ((0 : Int), ((0 : Int), ((0 : Int), (((0 : Int), (0 : Int)), ((0 : Int), ((0 : Int), [])))))))))).1, ((nthI v10 a4 ((0 : Int), ((0 : Int), ((0 : Int), ((0 : Int), ((0 : Int), ((0 : Int), (((0 : Int), (0 : Int)), ((0 : Int), ((0 : Int), [])))))))))).2.1, (v11, (nthI v10 a4 ((0 : Int), ((0 : Int), ((0 : Int), ((0 : Int), ((0 : Int), ((0 : Int), (((0 : Int), (0 : Int)), ((0 : Int), ((0 : Int), [])))))))))).2.2.2))))
    (let v13 : Int := (IntKind.wrap .i64 (v11 + 1))
    (bif decide ((0 : Int) ≤ a4 ∧ a4 < (v12.length : Int)) then
    (let v14 : List (Int × Int × Int × Int × Int × Int × (Int × Int) × Int × Int × List Int) := (v12.set (Int.toNat a4) ((nthI v12 a4 ((0 : Int), ((0 : Int), ((0 : Int), ((0 : Int), ((0 : Int), ((0 : Int), (((0 : Int), (0 : Int)), ((0 : Int), ((0 : Int), [])))))))))).1, ((nthI v12 a4 ((0 : Int), ((0 : Int), ((0 : Int), ((0 : Int), ((0 : Int), ((0 : Int), (((0 : Int), (0 : Int)), ((0 : Int), ((0 : Int), [])))))))))).2.1, ((nthI v12 a4 ((0 : Int), ((0 : Int), ((0 : Int), ((0 : Int), ((0 : Int), ((0 : Int), (((0 : Int), (0 : Int)), ((0 : Int), ((0 : Int), [])))))))))).2.2.1, (v13, (nthI v12 a4 ((0 : Int), ((0 : Int), ((0 : Int), ((0 : Int), ((0 : Int), ((0 : Int), (((0 : Int), (0 : Int)), ((0 : Int), ((0 : Int), [])))))))))).2.2.2.2)))))
    (let v15 : Int := (IntKind.wrap .i64 (v13 + 1))
    (bif decide ((0 : Int) ≤ a4 ∧ a4 < (v14.length : Int)) then
    (let v16 : List (Int × Int × Int × Int × Int × Int × (Int × Int) × Int × Int × List Int) := (v14.set (Int.toNat a4) ((nthI v14 a4 ((0 : Int), ((0 : Int), ((0 : Int), ((0 : Int), ((0 : Int), ((0 : Int), (((0 : Int), (0 : Int)), ((0 : Int), ((0 : Int), [])))))))))).1, ((nthI v14 a4 ((0 : Int), ((0 : Int), ((0 : Int), ((0 : Int), ((0 : Int), ((0 : Int), (((0 : Int), (0 : Int)), ((0 : Int), ((0 : Int), [])))))))))).2.1, ((nthI v14 a4 ((0 : Int), ((0 : Int), ((0 : Int), ((0 : Int), ((0 : Int), ((0 : Int), (((0 : Int), (0 : Int)), ((0 : Int), ((0 : Int), [])))))))))).2.2.1, ((nthI v14 a4 ((0 : Int), ((0 : Int), ((0 : Int), ((0 : Int), ((0 : Int), ((0 : Int), (((0 : Int), (0 : Int)), ((0 : Int), ((0 : Int), [])))))))))).2.2.2.1, (v15, (nthI v14 a4 ((0 : Int), ((0 : Int), ((0 : Int), ((0 : Int), ((0 : Int), ((0 : Int), (((0 : Int), (0 : Int)), ((0 : Int), ((0 : Int), [])))))))))).2.2.2.2.2))))))
    (let v17 : Int := (IntKind.wrap .i64 (v15 + 1))
    (bif decide ((0 : Int) ≤ a4 ∧ a4 < (v16.length : Int)) then
    (let v18 : List (Int × Int × Int × Int × Int × Int × (Int × Int) × Int × Int × List Int) := (v16.set (Int.toNat a4) ((nthI v16 a4 ((0 : Int), ((0 : Int), ((0 : Int), ((0 : Int), ((0 : Int), ((0 : Int), (((0 : Int), (0 : Int)), ((0 : Int), ((0 : Int), [])))))))))).1, ((nthI v16 a4 ((0 : Int), ((0 : Int), ((0 : Int), ((0 : Int), ((0 : Int), ((0 : Int), (((0 : Int), (0 : Int)), ((0 : Int), ((0 : Int), [])))))))))).2.1, ((nthI v16 a4 ((0 : Int), ((0 : Int), ((0 : Int), ((0 : Int), ((0 : Int), ((0 : Int), (((0 : Int), (0 : Int)), ((0 : Int), ((0 : Int), [])))))))))).2.2.1, ((nthI v16 a4 ((0 : Int), ((0 : Int), ((0 : Int), ((0 : Int), ((0 : Int), ((0 : Int), (((0 : Int), (0 : Int)), ((0 : Int), ((0 : Int), [])))))))))).2.2.2.1, ((nthI v16 a4 ((0 : Int), ((0 : Int), ((0 : Int), ((0 : Int), ((0 : Int), ((0 : Int), (((0 : Int), (0 : Int)), ((0 : Int), ((0 : Int), [])))))))))).2.2.2.2.1, (v17, (nthI v16 a4 ((0 : Int), ((0 : Int), ((0 : Int), ((0 : Int), ((0 : Int), ((0 : Int), (((0 : Int), (0 : Int)), ((0 : Int), ((0 : Int), [])))))))))).2.2.2.2.2.2)))))))
    (let v19 : Int := (IntKind.wrap .i64 (v17 + 1))
    (bif decide ((0 : Int) ≤ a4 ∧ a4 < (v18.length : Int)) then
    (let v20 : List (Int × Int × Int × Int × Int × Int × (Int × Int) × Int × Int × List Int) := (v18.set (Int.toNat a4) ((nthI v18 a4 ((0 : Int), ((0 : Int), ((0 : Int), ((0 : Int), ((0 : Int), ((0 : Int), (((0 : Int), (0 : Int)), ((0 : Int), ((0 : Int), [])))))))))).1, ((nthI v18 a4 ((0 : Int), ((0 : Int), ((0 : Int), ((0 : Int), ((0 : Int), ((0 : Int), (((0 : Int), (0 : Int)), ((0 : Int), ((0 : Int), [])))))))))).2.1, ((nthI v18 a4 ((0 : Int), ((0 : Int), ((0 : Int), ((0 : Int), ((0 : Int), ((0 : Int), (((0 : Int), (0 : Int)), ((0 : Int), ((0 : Int), [])))))))))).2.2.1, ((nthI v18 a4 ((0 : Int), ((0 : Int), ((0 : Int), ((0 : Int), ((0 : Int), ((0 : Int), (((0 : Int), (0 : Int)), ((0 : Int), ((0 : Int), [])))))))))).2.2.2.1, ((nthI v18 a4 ((0 : Int), ((0 : Int), ((0 : Int), ((0 : Int), ((0 : Int), ((0 : Int), (((0 : Int), (0 : Int)), ((0 : Int), ((0 : Int), [])))))))))).2.2.2.2.1, ((nthI v18 a4 ((0 : Int), ((0 : Int), ((0 : Int), ((0 : Int), ((0 : Int), ((0 : Int), (((0 : Int), (0 : Int)), ((0 : Int), ((0 : Int), [])))))))))).2.2.2.2.2.1, ((v19, (nthI v18 a4 ((0 : Int), ((0 : Int), ((0 : Int), ((0 : Int), ((0 : Int), ((0 : Int), (((0 : Int), (0 : Int)), ((0 : Int), ((0 : Int), [])))))))))).2.2.2.2.2.2.1.2), (nthI v18 a4 ((0 : Int), ((0 : Int), ((0 : Int), ((0 : Int), ((0 : Int), ((0 : Int), (((0 : Int), (0 : Int)), ((0 : Int), ((0 : Int), [])))))))))).2.2.2.2.2.2.2))))))))
    (let v21 : Int := (IntKind.wrap .i64 (v19 + 1))
    (bif decide ((0 : Int) ≤ a4 ∧ a4 < (v20.length : Int)) then
    (let v23 : List (Int × Int × Int × Int × Int × Int × (Int × Int) × Int × Int × List Int) := (v20.set (Int.toNat a4) ((nthI v20 a4 ((0 : Int), ((0 : Int), ((0 : Int), ((0 : Int), ((0 : Int), ((0 : Int), (((0 : Int), (0 : Int)), ((0 : Int), ((0 : Int), [])))))))))).1, ((nthI v20 a4 ((0 : Int), ((0 : Int), ((0 : Int), ((0 : Int), ((0 : Int), ((0 : Int), (((0 : Int), (0 : Int)), ((0 : Int), ((0 : Int), [])))))))))).2.1, ((nthI v20 a4 ((0 : Int), ((0 : Int), ((0 : Int), ((0 : Int), ((0 : Int), ((0 : Int), (((0 : Int), (0 : Int)), ((0 : Int), ((0 : Int), [])))))))))).2.2.1, ((nthI v20 a4 ((0 : Int), ((0 : Int), ((0 : Int), ((0 : Int), ((0 : Int), ((0 : Int), (((0 : Int), (0 : Int)), ((0 : Int), ((0 : Int), [])))))))))).2.2.2.1, ((nthI v20 a4 ((0 : Int), ((0 : Int), ((0 : Int), ((0 : Int), ((0 : Int), ((0 : Int), (((0 : Int), (0 : Int)), ((0 : Int), ((0 : Int), [])))))))))).2.2.2.2.1, ((nthI v20 a4 ((0 : Int), ((0 : Int), ((0 : Int), ((0 : Int), ((0 : Int), ((0 : Int), (((0 : Int), (0 : Int)), ((0 : Int), ((0 : Int), [])))))))))).2.2.2.2.2.1, (((nthI v20 a4 ((0 : Int), ((0 : Int), ((0 : Int), ((0 : Int), ((0 : Int), ((0 : Int), (((0 : Int), (0 : Int)), ((0 : Int), ((0 : Int), [])))))))))).2.2.2.2.2.2.1.1, (IntKind.wrap .u64 v21)), (nthI v20 a4 ((0 : Int), ((0 : Int), ((0 : Int), ((0 : Int), ((0 : Int), ((0 : Int), (((0 : Int), (0 : Int)), ((0 : Int), ((0 : Int), [])))))))))).2.2.2.2.2.2.2))))))))
    (let v24 : Int := (IntKind.wrap .i64 (v21 + 1))
    (bif decide ((0 : Int) ≤ a4 ∧ a4 < (v23.length : Int)) then
    (let v25 : List (Int × Int × Int × Int × Int × Int × (Int × Int) × Int × Int × List Int) := (v23.set (Int.toNat a4) ((nthI v23 a4 ((0 : Int), ((0 : Int), ((0 : Int), ((0 : Int), ((0 : Int), ((0 : Int), (((0 : Int), (0 : Int)), ((0 : Int), ((0 : Int), [])))))))))).1, ((nthI v23 a4 ((0 : Int), ((0 : Int), ((0 : Int), ((0 : Int), ((0 : Int), ((0 : Int), (((0 : Int), (0 : Int)), ((0 : Int), ((0 : Int), [])))))))))).2.1, ((nthI v23 a4 ((0 : Int), ((0 : Int), ((0 : Int), ((0 : Int), ((0 : Int), ((0 : Int), (((0 : Int), (0 : Int)), ((0 : Int), ((0 : Int), [])))))))))).2.2.1, ((nthI v23 a4 ((0 : Int), ((0 : Int), ((0 : Int), ((0 : Int), ((0 : Int), ((0 : Int), (((0 : Int), (0 : Int)), ((0 : Int), ((0 : Int), [])))))))))).2.2.2.1, ((nthI v23 a4 ((0 : Int), ((0 : Int), ((0 : Int), ((0 : Int), ((0 : Int), ((0 : Int), (((0 : Int), (0 : Int)), ((0 : Int), ((0 : Int), [])))))))))).2.2.2.2.1, ((nthI v23 a4 ((0 : Int), ((0 : Int), ((0 : Int), ((0 : Int), ((0 : Int), ((0 : Int), (((0 : Int), (0 : Int)), ((0 : Int), ((0 : Int), [])))))))))).2.2.2.2.2.1, ((nthI v23 a4 ((0 : Int), ((0 : Int), ((0 : Int), ((0 : Int), ((0 : Int), ((0 : Int), (((0 : Int), (0 : Int)), ((0 : Int), ((0 : Int), [])))))))))).2.2.2.2.2.2.1, (v24, (nthI v23 a4 ((0 : Int), ((0 : Int), ((0 : Int), ((0 : Int), ((0 : Int), ((0 : Int), (((0 : Int), (0 : Int)), ((0 : Int), ((0 : Int), [])))))))))).2.2.2.2.2.2.2.2)))))))))
    (let v26 : Int := (IntKind.wrap .i64 (v24 + 1))
    (bif decide ((0 : Int) ≤ a4 ∧ a4 < (v25.length : Int)) then
    (let v27 : List (Int × Int × Int × Int × Int × Int × (Int × Int) × Int × Int × List Int) := (v25.set (Int.toNat a4) ((nthI v25 a4 ((0 : Int), ((0 : Int), ((0 : Int), ((0 : Int), ((0 : Int), ((0 : Int), (((0 : Int), (0 : Int)), ((0 : Int), ((0 : Int), [])))))))))).1, ((nthI v25 a4 ((0 : Int), ((0 : Int), ((0 : Int), ((0 : Int), ((0 : Int), ((0 : Int), (((0 : Int), (0 : Int)), ((0 : Int), ((0 : Int), [])))))))))).2.1, ((nthI v25 a4 ((0 : Int), ((0 : Int), ((0 : Int), ((0 : Int), ((0 : Int), ((0 : Int), (((0 : Int), (0 : Int)), ((0 : Int), ((0 : Int), [])))))))))).2.2.1, ((nthI v25 a4 ((0 : Int), ((0 : Int), ((0 : Int), ((0 : Int), ((0 : Int), ((0 : Int), (((0 : Int), (0 : Int)), ((0 : Int), ((0 : Int), [])))))))))).2.2.2.1, ((nthI v25 a4 ((0 : Int), ((0 : Int), ((0 : Int), ((0 : Int), ((0 : Int), ((0 : Int), (((0 : Int), (0 : Int)), ((0 : Int), ((0 : Int), [])))))))))).2.2.2.2.1, ((nthI v25 a4 ((0 : Int), ((0 : Int), ((0 : Int), ((0 : Int), ((0 : Int), ((0 : Int), (((0 : Int), (0 : Int)), ((0 : Int), ((0 : Int), [])))))))))).2.2.2.2.2.1, ((nthI v25 a4 ((0 : Int), ((0 : Int), ((0 : Int), ((0 : Int), ((0 : Int), ((0 : Int), (((0 : Int), (0 : Int)), ((0 : Int), ((0 : Int), [])))))))))).2.2.2.2.2.2.1, ((nthI v25 a4 ((0 : Int), ((0 : Int), ((0 : Int), ((0 : Int), ((0 : Int), ((0 : Int), (((0 : Int), (0 : Int)), ((0 : Int), ((0 : Int), [])))))))))).2.2.2.2.2.2.2.1, (v26, (nthI v25 a4 ((0 : Int), ((0 : Int), ((0 : Int), ((0 : Int), ((0 : Int), ((0 : Int), (((0 : Int), (0 : Int)), ((0 : Int), ((0 : Int), [])))))))))).2.2.2.2.2.2.2.2.2))))))))))
    (bif decide ((0 : Int) ≤ a4 ∧ a4 < (v27.length : Int)) then
    (Option.bind (L.markIntS (IntKind.wrap .i64 (v26 + 1)) ((nthI v27 a4 ((0 : Int), ((0 : Int), ((0 : Int), ((0 : Int), ((0 : Int), ((0 : Int), (((0 : Int), (0 : Int)), ((0 : Int), ((0 : Int), [])))))))))).2.2.2.2.2.2.2.2.2)) fun r29 =>
    (let v30 : List (Int × Int × Int × Int × Int × Int × (Int × Int) × Int × Int × List Int) := (v27.set (Int.toNat a4) ((nthI v27 a4 ((0 : Int), ((0 : Int), ((0 : Int), ((0 : Int), ((0 : Int), ((0 : Int), (((0 : Int), (0 : Int)), ((0 : Int), ((0 : Int), [])))))))))).1, ((nthI v27 a4 ((0 : Int), ((0 : Int), ((0 : Int), ((0 : Int), ((0 : Int), ((0 : Int), (((0 : Int), (0 : Int)), ((0 : Int), ((0 : Int), [])))))))))).2.1, ((nthI v27 a4 ((0 : Int), ((0 : Int), ((0 : Int), ((0 : Int), ((0 : Int), ((0 : Int), (((0 : Int), (0 : Int)), ((0 : Int), ((0 : Int), [])))))))))).2.2.1, ((nthI v27 a4 ((0 : Int), ((0 : Int), ((0 : Int), ((0 : Int), ((0 : Int), ((0 : Int), (((0 : Int), (0 : Int)), ((0 : Int), ((0 : Int), [])))))))))).2.2.2.1, ((nthI v27 a4 ((0 : Int), ((0 : Int), ((0 : Int), ((0 : Int), ((0 : Int), ((0 : Int), (((0 : Int), (0 : Int)), ((0 : Int), ((0 : Int), [])))))))))).2.2.2.2.1, ((nthI v27 a4 ((0 : Int), ((0 : Int), ((0 : Int), ((0 : Int), ((0 : Int), ((0 : Int), (((0 : Int), (0 : Int)), ((0 : Int), ((0 : Int), [])))))))))).2.2.2.2.2.1, ((nthI v27 a4 ((0 : Int), ((0 : Int), ((0 : Int), ((0 : Int), ((0 : Int), ((0 : Int), (((0 : Int), (0 : Int)), ((0 : Int), ((0 : Int), [])))))))))).2.2.2.2.2.2.1, ((nthI v27 a4 ((0 : Int), ((0 : Int), ((0 : Int), ((0 : Int), ((0 : Int), ((0 : Int), (((0 : Int), (0 : Int)), ((0 : Int), ((0 : Int), [])))))))))).2.2.2.2.2.2.2.1, ((nthI v27 a4 ((0 : Int), ((0 : Int), ((0 : Int), ((0 : Int), ((0 : Int), ((0 : Int), (((0 : Int), (0 : Int)), ((0 : Int), ((0 : Int), [])))))))))).2.2.2.2.2.2.2.2.1, r29.2))))))))))
    (L.markCellS_l0 m e2_0 r29.1 (IntKind.wrap .i64 (a4 + 1)) v30)))
    else
    none))
    else
    none)))
    else
    none)))
    else
    none)))
    else
    none)))
    else
    none)))
    else
    none)))
    else
    none)))
    else
    none)))
    else
    none)))
    else
    none)
    else
    (e2_0 a3 a5))
noncomputable def L.markCellS (a1 : Int) (a2 : List (Int × Int × Int × Int × Int × Int × (Int × Int) × Int × Int × List Int)) : Option (Int × (List (Int × Int × Int × Int × Int × Int × (Int × Int) × Int × Int × List Int))) :=
(L.markCellS_l0 fu (fun y32 y33 =>
(some (y32, y33))) a1 0 a2)
noncomputable def H55_2 : LoopH := ⟨⟨((.one (.sl 0)) :: hh :: (hu 3 (hh :: (hu 93 [])))), [], [(180, (.pair (.int .i64) (.pair (.int .i64) (.pair (.int .i64) (.pair (.int .i64) (.pair (.int .i64) (.pair (.int .i64) (.pair (.pair (.int .i64) (.int .u64)) (.pair (.int .i64) (.pair (.int .i64) (.sl 3 (.int .i64))))))))))), .own)]⟩, [2, 3, 4, 6, 7, 8, 9, 10, 11, 12, 13, 14, 15, 16, 17, 18, 19, 20, 21, 22, 23, 24, 25, 26, 27, 28, 29, 30, 31, 32, 33, 34, 35, 36, 37, 38, 39, 40, 41, 42, 43, 44, 45, 46, 47, 48, 49, 50, 51, 52, 53, 54, 55, 56, 57, 58, 59, 60, 61, 62, 63, 64, 65, 66, 67, 68, 69, 70, 71, 72, 73, 74, 75, 76, 77, 78, 79, 80, 81, 82, 83, 84, 85, 86, 87, 88, 89, 90, 91, 92, 93, 94, 95, 96, 97, 98], [], [0, 2, 3, 5, 6, 7, 8, 9, 10, 11, 12, 13, 14, 15, 16, 17, 18, 19, 20, 21, 22, 23, 24, 25, 26, 27, 28, 29, 30, 31, 32, 33, 34, 35, 36, 37, 38, 39, 40, 41, 42, 43, 44, 45, 46, 47, 48, 49, 50, 51, 52, 53, 54, 55, 56, 57, 58, 59, 60, 61, 62, 63, 64, 65, 66, 67, 68, 69, 70, 71, 72, 73, 74, 75, 76, 77, 78, 79, 80, 81, 82, 83, 84, 85, 86, 87, 88, 89, 90, 91, 92, 93, 94, 95, 96, 97, 98], []⟩
noncomputable def E55_2 (m : Nat) (ps : List Prm) (k : Kont (Int × (List (Int × Int × Int × Int × Int × Int × (Int × Int) × Int × Int × List Int)))) : Option (Int × (List (Int × Int × Int × Int × Int × Int × (Int × Int) × Int × Int × List Int))) :=
  match ps with
  | [.v (.int .i64 a3), .v (.int .i64 a4), .row (.pair (.int .i64) (.pair (.int .i64) (.pair (.int .i64) (.pair (.int .i64) (.pair (.int .i64) (.pair (.int .i64) (.pair (.pair (.int .i64) (.int .u64)) (.pair (.int .i64) (.pair (.int .i64) (.sl 3 (.int .i64))))))))))) a5] => L.markCellS_l0 m (fun z36 z37 => k (.exit 0) (⟨((.s1 (.one (.unk))) :: (vi z36) :: (vu 97 [])), [], [⟨180, (.pair (.int .i64) (.pair (.int .i64) (.pair (.int .i64) (.pair (.int .i64) (.pair (.int .i64) (.pair (.int .i64) (.pair (.pair (.int .i64) (.int .u64)) (.pair (.int .i64) (.pair (.int .i64) (.sl 3 (.int .i64))))))))))), z37, .own⟩]⟩ : St)) a3 a4 a5
  | _ => none
noncomputable def S55_2 (a3 a4 : Int) (a5 : List (Int × Int × Int × Int × Int × Int × (Int × Int) × Int × Int × List Int)) : St := (⟨((vl 0) :: (vi a3) :: (vu 3 ((vi a4) :: (vu 93 [])))), [], [⟨180, (.pair (.int .i64) (.pair (.int .i64) (.pair (.int .i64) (.pair (.int .i64) (.pair (.int .i64) (.pair (.int .i64) (.pair (.pair (.int .i64) (.int .u64)) (.pair (.int .i64) (.pair (.int .i64) (.sl 3 (.int .i64))))))))))), a5, .own⟩]⟩ : St)
theorem ev55_2 (m : Nat) (k : Kont (Int × (List (Int × Int × Int × Int × Int × Int × (Int × Int) × Int × Int × List Int)))) (a3 a4 : Int) (a5 : List (Int × Int × Int × Int × Int × Int × (Int × Int) × Int × Int × List Int)) : evC Try.prog G55 loopNil c55_2 (S55_2 a3 a4 a5) (turn Try.prog (0, 1) H55_2 (E55_2 m) k) = E55_2 (m + 1) [.v (.int .i64 a3), .v (.int .i64 a4), .row (.pair (.int .i64) (.pair (.int .i64) (.pair (.int .i64) (.pair (.int .i64) (.pair (.int .i64) (.pair (.int .i64) (.pair (.pair (.int .i64) (.int .u64)) (.pair (.int .i64) (.pair (.int .i64) (.sl 3 (.int .i64))))))))))) a5] k := by kernel_rfl
theorem ok55_2 (m : Nat) : LoopOk Try.prog (0, 1) c55_2 (enter Try.prog (0, 1) H55_2 (E55_2 m)) := by
  refine loop_ok (G := G55) (L := loopNil) (envCons_good good96 envNil_good) (by intro x hx; simp [show loopsOf c55_2 = [] from by kernel_rfl] at hx) (fun ps k => by unfold E55_2; split <;> rfl) (fun m ps k r h => ?_) m
  have h0 := h
  unfold E55_2 at h
  split at h
  · exact ⟨S55_2 _ _ _, by kernel_rfl, (ev55_2 m k _ _ _).trans h0⟩
  · cases h
noncomputable def L55 : LEnv (Int × (List (Int × Int × Int × Int × Int × Int × (Int × Int) × Int × Int × List Int))) := (loopCons 2 (enter Try.prog (0, 1) H55_2 (E55_2 fu)) loopNil)
theorem lq55 : loopsOf c55 = [c55_2] := by kernel_rfl
theorem fr55_2 : firstReg c55_2 = some 2 := by kernel_rfl
theorem le55_2 : L55 2 = enter Try.prog (0, 1) H55_2 (E55_2 fu) := by kernel_rfl
theorem lm55 : ∀ x ∈ [c55_2], ∀ id, firstReg x = some id → LoopOk Try.prog (0, 1) x (L55 id) := (loops_cons fr55_2 le55_2 (ok55_2 fu) loops_nil)
theorem lp55 : ∀ x ∈ loopsOf c55, ∀ id, firstReg x = some id → LoopOk Try.prog (0, 1) x (L55 id) := loops_eq lq55 lm55
noncomputable def R55 (x : Int × (List (Int × Int × Int × Int × Int × Int × (Int × Int) × Int × Int × List Int))) : Res := ⟨[.one (ai x.1)], [], [⟨180, (.pair (.int .i64) (.pair (.int .i64) (.pair (.int .i64) (.pair (.int .i64) (.pair (.int .i64) (.pair (.int .i64) (.pair (.pair (.int .i64) (.int .u64)) (.pair (.int .i64) (.pair (.int .i64) (.sl 3 (.int .i64))))))))))), x.2, .own⟩]⟩
noncomputable def K55 (r : Res) : Option (Int × (List (Int × Int × Int × Int × Int × Int × (Int × Int) × Int × Int × List Int))) :=
  match r with
  | ⟨[.one (.val (.int .i64 v1))], [], [⟨180, (.pair (.int .i64) (.pair (.int .i64) (.pair (.int .i64) (.pair (.int .i64) (.pair (.int .i64) (.pair (.int .i64) (.pair (.pair (.int .i64) (.int .u64)) (.pair (.int .i64) (.pair (.int .i64) (.sl 3 (.int .i64))))))))))), v2, .own⟩]⟩ => some (v1, v2)
  | _ => none
noncomputable def E55 : Fun2 := fun args bs rs =>
  match args, bs, rs with
  | [.s1 (.one (.sl 0)), .s1 (.one (.val (.int .i64 a1)))], [], [⟨180, (.pair (.int .i64) (.pair (.int .i64) (.pair (.int .i64) (.pair (.int .i64) (.pair (.int .i64) (.pair (.int .i64) (.pair (.pair (.int .i64) (.int .u64)) (.pair (.int .i64) (.pair (.int .i64) (.sl 3 (.int .i64))))))))))), a2, .own⟩] => some ⟨Int × (List (Int × Int × Int × Int × Int × Int × (Int × Int) × Int × Int × List Int)), L.markCellS a1 a2, R55⟩
  | _, _, _ => none
theorem ev55 (a1 : Int) (a2 : List (Int × Int × Int × Int × Int × Int × (Int × Int) × Int × Int × List Int)) : evF Try.prog G55 L55 (0, 1) [] Try.f55 c55 [vl 0, vi a1] [] [⟨180, (.pair (.int .i64) (.pair (.int .i64) (.pair (.int .i64) (.pair (.int .i64) (.pair (.int .i64) (.pair (.int .i64) (.pair (.pair (.int .i64) (.int .u64)) (.pair (.int .i64) (.pair (.int .i64) (.sl 3 (.int .i64))))))))))), a2, .own⟩] K55 = L.markCellS a1 a2 := by kernel_rfl
theorem good55 : Vm.Good Try.prog 55 E55 := by
  refine evF_good (G := G55) (c := c55) (envCons_good good96 envNil_good) Try.func55 (by kernel_rfl) (by kernel_rfl) (0, 1) (fun args bs rs out t h h2 => ?_)
  unfold E55 at h
  split at h
  · injection h with h
    subst h
    exact ⟨rfl, [], L55, K55, lp55, (fun r t h => by unfold K55 at h; split at h; (injection h with h; subst h; rfl); cases h), (ev55 _ _).trans h2⟩
  · cases h
/-! ### L.heldIntS -/
noncomputable def G97 : Env := envNil
noncomputable def c97 : Code := bodyOf Try.f97
noncomputable def c97_2 : Code := (loopsOf c97).getD 0 .skip
noncomputable def L.heldIntS_l0 : Nat → (Int → Int → Option Int) → (Int → Option Int) → Int → Int → List Int → Option Int
  | 0, _, _, _, _, _ => none
  | m + 1, e2_0, e2_1, a3, a4, a5 =>
    (bif (decide (a4 < (a5.length : Int))) then
    (bif decide ((0 : Int) ≤ a4 ∧ a4 < (a5.length : Int)) then
    (bif ((nthI a5 a4 (0 : Int)) != a3) then
    (e2_0 a3 (-1))
    else
    (L.heldIntS_l0 m e2_0 e2_1 (IntKind.wrap .i64 (a3 + 1)) (IntKind.wrap .i64 (a4 + 1)) a5))
    else
    none)
    else
    (e2_1 a3))
noncomputable def L.heldIntS (a1 : Int) (a2 : List Int) : Option Int :=
(L.heldIntS_l0 fu (fun y11 y12 =>
(some y12)) (fun y13 =>
(some y13)) a1 0 a2)
noncomputable def H97_2 : LoopH := ⟨⟨((.one (.sl 0)) :: hh :: (hu 3 (hh :: (hu 15 [])))), [], [(3, (.int .i64), .ro)]⟩, [2, 3, 4, 6, 7, 8, 9, 10, 11, 12, 13, 14, 15, 16, 17, 18, 19, 20], [], [0, 2, 3, 5, 6, 7, 8, 9, 10, 11, 12, 13, 14, 15, 16, 17, 18, 19, 20], []⟩
noncomputable def E97_2 (m : Nat) (ps : List Prm) (k : Kont Int) : Option Int :=
  match ps with
  | [.v (.int .i64 a3), .v (.int .i64 a4), .row (.int .i64) a5] => L.heldIntS_l0 m (fun z17 z18 => k .ret (⟨((.s1 (.one (.unk))) :: (vi z17) :: (vu 2 ((vi z18) :: (vu 16 [])))), [], []⟩ : St)) (fun z19 => k (.exit 0) (⟨((.s1 (.one (.unk))) :: (vi z19) :: (vu 19 [])), [], []⟩ : St)) a3 a4 a5
  | _ => none
noncomputable def S97_2 (a3 a4 : Int) (a5 : List Int) : St := (⟨((vl 0) :: (vi a3) :: (vu 3 ((vi a4) :: (vu 15 [])))), [], [⟨3, (.int .i64), a5, .ro⟩]⟩ : St)
theorem ev97_2 (m : Nat) (k : Kont Int) (a3 a4 : Int) (a5 : List Int) : evC Try.prog G97 loopNil c97_2 (S97_2 a3 a4 a5) (turn Try.prog (0, 0) H97_2 (E97_2 m) k) = E97_2 (m + 1) [.v (.int .i64 a3), .v (.int .i64 a4), .row (.int .i64) a5] k := by kernel_rfl
theorem ok97_2 (m : Nat) : LoopOk Try.prog (0, 0) c97_2 (enter Try.prog (0, 0) H97_2 (E97_2 m)) := by
  refine loop_ok (G := G97) (L := loopNil) envNil_good (by intro x hx; simp [show loopsOf c97_2 = [] from by kernel_rfl] at hx) (fun ps k => by unfold E97_2; split <;> rfl) (fun m ps k r h => ?_) m
  have h0 := h
  unfold E97_2 at h
  split at h
  · exact ⟨S97_2 _ _ _, by kernel_rfl, (ev97_2 m k _ _ _).trans h0⟩
  · cases h
noncomputable def L97 : LEnv Int := (loopCons 2 (enter Try.prog (0, 0) H97_2 (E97_2 fu)) loopNil)
theorem lq97 : loopsOf c97 = [c97_2] := by kernel_rfl
theorem fr97_2 : firstReg c97_2 = some 2 := by kernel_rfl
theorem le97_2 : L97 2 = enter Try.prog (0, 0) H97_2 (E97_2 fu) := by kernel_rfl
theorem lm97 : ∀ x ∈ [c97_2], ∀ id, firstReg x = some id → LoopOk Try.prog (0, 0) x (L97 id) := (loops_cons fr97_2 le97_2 (ok97_2 fu) loops_nil)
theorem lp97 : ∀ x ∈ loopsOf c97, ∀ id, firstReg x = some id → LoopOk Try.prog (0, 0) x (L97 id) := loops_eq lq97 lm97
noncomputable def R97 (x : Int) : Res := ⟨[.one (ai x)], [], []⟩
noncomputable def K97 (r : Res) : Option Int :=
  match r with
  | ⟨[.one (.val (.int .i64 v1))], [], []⟩ => some (v1)
  | _ => none
noncomputable def E97 : Fun2 := fun args bs rs =>
  match args, bs, rs with
  | [.s1 (.one (.sl 0)), .s1 (.one (.val (.int .i64 a1)))], [], [⟨3, (.int .i64), a2, .ro⟩] => some ⟨Int, L.heldIntS a1 a2, R97⟩
  | _, _, _ => none
theorem ev97 (a1 : Int) (a2 : List Int) : evF Try.prog G97 L97 (0, 0) [] Try.f97 c97 [vl 0, vi a1] [] [⟨3, (.int .i64), a2, .ro⟩] K97 = L.heldIntS a1 a2 := by kernel_rfl
theorem good97 : Vm.Good Try.prog 97 E97 := by
  refine evF_good (G := G97) (c := c97) envNil_good Try.func97 (by kernel_rfl) (by kernel_rfl) (0, 0) (fun args bs rs out t h h2 => ?_)
  unfold E97 at h
  split at h
  · injection h with h
    subst h
    exact ⟨rfl, [], L97, K97, lp97, (fun r t h => by unfold K97 at h; split at h; (injection h with h; subst h; rfl); cases h), (ev97 _ _).trans h2⟩
  · cases h
end Go.Proofs.Ythddkomphkanbaa.Run
