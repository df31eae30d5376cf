import Derived.Test.YtflagchmcnfigaaVmU
import Derived.Test.YtflagchmcnfigaaProg
namespace Go.Proofs.Ytflagchmcnfigaa.Run
open Go Go.RowKit Go.Proofs.YtflagchmcnfigaaW.PrintWords Go.Proofs.Ytflagchmcnfigaa.Vm
set_option linter.unusedVariables false
set_option maxRecDepth 100000

/-! ### L.szTokS -/
noncomputable def G63 : Env := envNil
noncomputable def c63 : Code := bodyOf Try.f63
noncomputable def L.szTokS (a1 : Int) (a2 : List (Int × Int)) : Option Int :=
(let v4 : Int := (IntKind.wrap .i64 (a1 - (a2.length : Int)))
(bif (decide (v4 < 0)) then
(some (-1))
else
(some v4)))
noncomputable def R63 (x : Int) : Res := ⟨[.one (ai x)], [], []⟩
noncomputable def K63 (r : Res) : Option Int :=
  match r with
  | ⟨[.one (.val (.int .i64 v1))], [], []⟩ => some (v1)
  | _ => none
noncomputable def E63 : Fun2 := fun args bs rs =>
  match args, bs, rs with
  | [.s1 (.one (.sl 0)), .s1 (.one (.val (.int .i64 a1)))], [], [⟨171, (.pair (.int .i64) (.int .i64)), a2, .ro⟩] => some ⟨Int, L.szTokS a1 a2, R63⟩
  | _, _, _ => none
theorem ev63 (a1 : Int) (a2 : List (Int × Int)) : evF Try.prog G63 loopNil (0, 0) Try.f63 c63 [vl 0, vi a1] [] [⟨171, (.pair (.int .i64) (.int .i64)), a2, .ro⟩] K63 = L.szTokS a1 a2 := by kernel_rfl
theorem good63 : Vm.Good Try.prog 63 E63 := by
  refine evF_good (G := G63) (c := c63) envNil_good Try.func63 (by kernel_rfl) (by kernel_rfl) (0, 0) (fun args bs rs out t h h2 => ?_)
  unfold E63 at h
  split at h
  · injection h with h
    subst h
    exact ⟨rfl, loopNil, K63, (by intro x hx; simp [show loopsOf c63 = [] from by kernel_rfl] at hx), (fun r t h => by unfold K63 at h; split at h; (injection h with h; subst h; rfl); cases h), (ev63 _ _).trans h2⟩
  · cases h
/-! ### L.szQuery -/
noncomputable def G13 : Env := (envCons 63 [] E63 envNil)
noncomputable def c13 : Code := bodyOf Try.f13
noncomputable def L.szQuery (a1 a2 a3 a4 a5 a6 : Int) (a7 a8 : List (Int × Int)) : Option Int :=
(Option.bind (L.szTokS a6 a7) fun r9 =>
(bif (decide (r9 < 0)) then
(some (-1))
else
(Option.bind (L.szTokS r9 a8) fun r11 =>
(bif (decide (r11 < 0)) then
(some (-1))
else
(some r11)))))
noncomputable def R13 (x : Int) : Res := ⟨[.one (ai x)], [], []⟩
noncomputable def K13 (r : Res) : Option Int :=
  match r with
  | ⟨[.one (.val (.int .i64 v1))], [], []⟩ => some (v1)
  | _ => none
noncomputable def E13 : Fun2 := fun args bs rs =>
  match args, bs, rs with
  | [.s1 (.agg [.sl 0, .sl 1, .val (.int .i64 a1), .val (.int .i64 a2), .val (.int .i64 a3), .val (.int .i64 a4), .val (.int .i64 a5)]), .s1 (.one (.val (.int .i64 a6)))], [], [⟨171, (.pair (.int .i64) (.int .i64)), a7, .ro⟩, ⟨171, (.pair (.int .i64) (.int .i64)), a8, .ro⟩] => some ⟨Int, L.szQuery a1 a2 a3 a4 a5 a6 a7 a8, R13⟩
  | _, _, _ => none
theorem ev13 (a1 a2 a3 a4 a5 a6 : Int) (a7 a8 : List (Int × Int)) : evF Try.prog G13 loopNil (0, 0) Try.f13 c13 [.s1 (.agg [.sl 0, .sl 1, ai a1, ai a2, ai a3, ai a4, ai a5]), vi a6] [] [⟨171, (.pair (.int .i64) (.int .i64)), a7, .ro⟩, ⟨171, (.pair (.int .i64) (.int .i64)), a8, .ro⟩] K13 = L.szQuery a1 a2 a3 a4 a5 a6 a7 a8 := by kernel_rfl
theorem good13 : Vm.Good Try.prog 13 E13 := by
  refine evF_good (G := G13) (c := c13) (envCons_good good63 envNil_good) Try.func13 (by kernel_rfl) (by kernel_rfl) (0, 0) (fun args bs rs out t h h2 => ?_)
  unfold E13 at h
  split at h
  · injection h with h
    subst h
    exact ⟨rfl, loopNil, K13, (by intro x hx; simp [show loopsOf c13 = [] from by kernel_rfl] at hx), (fun r t h => by unfold K13 at h; split at h; (injection h with h; subst h; rfl); cases h), (ev13 _ _ _ _ _ _ _ _).trans h2⟩
  · cases h
/-! ### L.toTok -/
noncomputable def G122 : Env := envNil
noncomputable def c122 : Code := bodyOf Try.f122
noncomputable def L.toTok (a1 a2 : Int) : Option (Int × Int) :=
(some (a1, a2))
noncomputable def R122 (x : Int × Int) : Res := ⟨[.agg [ai x.1, ai x.2]], [], []⟩
noncomputable def K122 (r : Res) : Option (Int × Int) :=
  match r with
  | ⟨[.agg [.val (.int .i64 v1), .val (.int .i64 v2)]], [], []⟩ => some (v1, v2)
  | _ => none
noncomputable def E122 : Fun2 := fun args bs rs =>
  match args, bs, rs with
  | [.s1 (.agg [.val (.int .i64 a1), .val (.int .i64 a2)])], [], [] => some ⟨Int × Int, L.toTok a1 a2, R122⟩
  | _, _, _ => none
theorem ev122 (a1 a2 : Int) : evF Try.prog G122 loopNil (0, 0) Try.f122 c122 [.s1 (.agg [ai a1, ai a2])] [] [] K122 = L.toTok a1 a2 := by kernel_rfl
theorem good122 : Vm.Good Try.prog 122 E122 := by
  refine evF_good (G := G122) (c := c122) envNil_good Try.func122 (by kernel_rfl) (by kernel_rfl) (0, 0) (fun args bs rs out t h h2 => ?_)
  unfold E122 at h
  split at h
  · injection h with h
    subst h
    exact ⟨rfl, loopNil, K122, (by intro x hx; simp [show loopsOf c122 = [] from by kernel_rfl] at hx), (fun r t h => by unfold K122 at h; split at h; (injection h with h; subst h; rfl); cases h), (ev122 _ _).trans h2⟩
  · cases h
/-! ### L.toTokS -/
noncomputable def G67 : Env := (envCons 122 [] E122 envNil)
noncomputable def c67 : Code := bodyOf Try.f67
noncomputable def c67_3 : Code := (loopsOf c67).getD 0 .skip
noncomputable def L.toTokS_l0 : Nat → ((List (Int × Int)) → Option ((List (Int × Int)))) → Int → (List (Int × Int)) → (List (Int × Int)) → Option ((List (Int × Int)))
  | 0, _, _, _, _ => none
  | m + 1, e3_0, a4, a5, a6 =>
    (bif (decide (a4 < (a5.length : Int))) then
    (bif decide (0 ≤ a4 ∧ a4 < (a5.length : Int)) then
    (Option.bind (L.toTok ((nthI a5 a4 ((0 : Int), (0 : Int))).1) ((nthI a5 a4 ((0 : Int), (0 : Int))).2)) fun r9 =>
    (bif decide (0 ≤ a4 ∧ a4 < (a6.length : Int)) then
    (L.toTokS_l0 m e3_0 (IntKind.wrap .i64 (a4 + 1)) a5 (a6.set (Int.toNat a4) (r9.1, r9.2)))
    else
    none))
    else
    none)
    else
    (e3_0 a6))
noncomputable def L.toTokS (a1 : List (Int × Int)) : Option ((List (Int × Int))) :=
(let v2 : Int := (a1.length : Int)
(bif decide (0 ≤ v2 ∧ v2 ≤ v2 ∧ (16 : Int) * v2 ≤ 281474976710656 ∧ v2 ≤ 9223372036854775807) then
(L.toTokS_l0 fu (fun y12 =>
(some y12)) 0 a1 (List.replicate (Int.toNat v2) (0, 0)))
else
none))
noncomputable def H67_3 : LoopH := ⟨⟨((.one (.sl 0)) :: (hu 2 ((.one (.sl 1)) :: hh :: (hu 18 [])))), [], [(171, (.pair (.int .i64) (.int .i64)), .ro), (169, (.pair (.int .i64) (.int .i64)), .own)]⟩, [1, 2, 5, 6, 7, 8, 9, 10, 11, 12, 13, 14, 15, 16, 17, 18, 19, 20, 21, 22], [], [0, 1, 4, 5, 6, 7, 8, 9, 10, 11, 12, 13, 14, 15, 16, 17, 18, 19, 20, 21, 22]⟩
noncomputable def E67_3 (m : Nat) (ps : List Prm) (k : Kont ((List (Int × Int)))) : Option ((List (Int × Int))) :=
  match ps with
  | [.v (.int .i64 a4), .row (.pair (.int .i64) (.int .i64)) a5, .row (.pair (.int .i64) (.int .i64)) a6] => L.toTokS_l0 m (fun z14 => k (.exit 0) (⟨(vu 3 ((vl 0) :: (vu 19 []))), [], [⟨169, (.pair (.int .i64) (.int .i64)), z14, .own⟩]⟩ : St)) a4 a5 a6
  | _ => none
noncomputable def S67_3 (a4 : Int) (a5 a6 : List (Int × Int)) : St := (⟨((vl 0) :: (vu 2 ((vl 1) :: (vi a4) :: (vu 18 [])))), [], [⟨171, (.pair (.int .i64) (.int .i64)), a5, .ro⟩, ⟨169, (.pair (.int .i64) (.int .i64)), a6, .own⟩]⟩ : St)
theorem ev67_3 (m : Nat) (k : Kont ((List (Int × Int)))) (a4 : Int) (a5 a6 : List (Int × Int)) : evC Try.prog G67 loopNil c67_3 (S67_3 a4 a5 a6) (turn Try.prog (0, 0) H67_3 (E67_3 m) k) = E67_3 (m + 1) [.v (.int .i64 a4), .row (.pair (.int .i64) (.int .i64)) a5, .row (.pair (.int .i64) (.int .i64)) a6] k := by kernel_rfl
theorem ok67_3 (m : Nat) : LoopOk Try.prog (0, 0) c67_3 (enter Try.prog (0, 0) H67_3 (E67_3 m)) := by
  refine loop_ok (G := G67) (L := loopNil) (envCons_good good122 envNil_good) (by intro x hx; simp [show loopsOf c67_3 = [] from by kernel_rfl] at hx) (fun ps k => by unfold E67_3; split <;> rfl) (fun m ps k r h => ?_) m
  have h0 := h
  unfold E67_3 at h
  split at h
  · exact ⟨S67_3 _ _ _, by kernel_rfl, (ev67_3 m k _ _ _).trans h0⟩
  · cases h
noncomputable def L67 : LEnv ((List (Int × Int))) := (loopCons 3 (enter Try.prog (0, 0) H67_3 (E67_3 fu)) loopNil)
theorem lq67 : loopsOf c67 = [c67_3] := by kernel_rfl
theorem fr67_3 : firstReg c67_3 = some 3 := by kernel_rfl
theorem le67_3 : L67 3 = enter Try.prog (0, 0) H67_3 (E67_3 fu) := by kernel_rfl
theorem lm67 : ∀ x ∈ [c67_3], ∀ id, firstReg x = some id → LoopOk Try.prog (0, 0) x (L67 id) := (loops_cons fr67_3 le67_3 (ok67_3 fu) loops_nil)
theorem lp67 : ∀ x ∈ loopsOf c67, ∀ id, firstReg x = some id → LoopOk Try.prog (0, 0) x (L67 id) := loops_eq lq67 lm67
noncomputable def R67 (x : (List (Int × Int))) : Res := ⟨[.one (.sl 0)], [], [⟨169, (.pair (.int .i64) (.int .i64)), x, .own⟩]⟩
noncomputable def K67 (r : Res) : Option ((List (Int × Int))) :=
  match r with
  | ⟨[.one (.sl 0)], [], [⟨169, (.pair (.int .i64) (.int .i64)), v1, .own⟩]⟩ => some (v1)
  | _ => none
noncomputable def E67 : Fun2 := fun args bs rs =>
  match args, bs, rs with
  | [.s1 (.one (.sl 0))], [], [⟨171, (.pair (.int .i64) (.int .i64)), a1, .ro⟩] => some ⟨(List (Int × Int)), L.toTokS a1, R67⟩
  | _, _, _ => none
theorem ev67 (a1 : List (Int × Int)) : evF Try.prog G67 L67 (0, 0) Try.f67 c67 [vl 0] [] [⟨171, (.pair (.int .i64) (.int .i64)), a1, .ro⟩] K67 = L.toTokS a1 := by kernel_rfl
theorem good67 : Vm.Good Try.prog 67 E67 := by
  refine evF_good (G := G67) (c := c67) (envCons_good good122 envNil_good) Try.func67 (by kernel_rfl) (by kernel_rfl) (0, 0) (fun args bs rs out t h h2 => ?_)
  unfold E67 at h
  split at h
  · injection h with h
    subst h
    exact ⟨rfl, L67, K67, lp67, (fun r t h => by unfold K67 at h; split at h; (injection h with h; subst h; rfl); cases h), (ev67 _).trans h2⟩
  · cases h
/-! ### L.toWinDef -/
noncomputable def G68 : Env := envNil
noncomputable def c68 : Code := bodyOf Try.f68
noncomputable def L.toWinDef (a1 a2 a3 : Int) : Option (Int × Int × Int) :=
(some (a1, a2, a3))
noncomputable def R68 (x : Int × Int × Int) : Res := ⟨[.agg [ai x.1, ai x.2.1, ai x.2.2]], [], []⟩
noncomputable def K68 (r : Res) : Option (Int × Int × Int) :=
  match r with
  | ⟨[.agg [.val (.int .i64 v1), .val (.int .i64 v2), .val (.int .i64 v3)]], [], []⟩ => some (v1, v2, v3)
  | _ => none
noncomputable def E68 : Fun2 := fun args bs rs =>
  match args, bs, rs with
  | [.s1 (.agg [.val (.int .i64 a1), .val (.int .i64 a2), .val (.int .i64 a3)])], [], [] => some ⟨Int × Int × Int, L.toWinDef a1 a2 a3, R68⟩
  | _, _, _ => none
theorem ev68 (a1 a2 a3 : Int) : evF Try.prog G68 loopNil (0, 0) Try.f68 c68 [.s1 (.agg [ai a1, ai a2, ai a3])] [] [] K68 = L.toWinDef a1 a2 a3 := by kernel_rfl
theorem good68 : Vm.Good Try.prog 68 E68 := by
  refine evF_good (G := G68) (c := c68) envNil_good Try.func68 (by kernel_rfl) (by kernel_rfl) (0, 0) (fun args bs rs out t h h2 => ?_)
  unfold E68 at h
  split at h
  · injection h with h
    subst h
    exact ⟨rfl, loopNil, K68, (by intro x hx; simp [show loopsOf c68 = [] from by kernel_rfl] at hx), (fun r t h => by unfold K68 at h; split at h; (injection h with h; subst h; rfl); cases h), (ev68 _ _ _).trans h2⟩
  · cases h
/-! ### L.toQuery -/
noncomputable def G15 : Env := (envCons 67 [] E67 (envCons 68 [] E68 envNil))
noncomputable def c15 : Code := bodyOf Try.f15
noncomputable def L.toQuery (a1 a2 a3 a4 a5 : Int) (a6 a7 : List (Int × Int)) : Option (Int × Int × Int × Int × Int × (List (Int × Int)) × (List (Int × Int))) :=
(Option.bind (L.toTokS a6) fun r8 =>
(Option.bind (L.toTokS a7) fun r9 =>
(Option.bind (L.toWinDef a1 a2 a3) fun r10 =>
(some (r10.1, r10.2.1, r10.2.2, a4, a5, r8, r9)))))
noncomputable def R15 (x : Int × Int × Int × Int × Int × (List (Int × Int)) × (List (Int × Int))) : Res := ⟨[.agg [.sl 0, .sl 1, ai x.1, ai x.2.1, ai x.2.2.1, ai x.2.2.2.1, ai x.2.2.2.2.1]], [], [⟨169, (.pair (.int .i64) (.int .i64)), x.2.2.2.2.2.1, .own⟩, ⟨169, (.pair (.int .i64) (.int .i64)), x.2.2.2.2.2.2, .own⟩]⟩
noncomputable def K15 (r : Res) : Option (Int × Int × Int × Int × Int × (List (Int × Int)) × (List (Int × Int))) :=
  match r with
  | ⟨[.agg [.sl 0, .sl 1, .val (.int .i64 v1), .val (.int .i64 v2), .val (.int .i64 v3), .val (.int .i64 v4), .val (.int .i64 v5)]], [], [⟨169, (.pair (.int .i64) (.int .i64)), v6, .own⟩, ⟨169, (.pair (.int .i64) (.int .i64)), v7, .own⟩]⟩ => some (v1, v2, v3, v4, v5, v6, v7)
  | _ => none
noncomputable def E15 : Fun2 := fun args bs rs =>
  match args, bs, rs with
  | [.s1 (.agg [.sl 0, .sl 1, .val (.int .i64 a1), .val (.int .i64 a2), .val (.int .i64 a3), .val (.int .i64 a4), .val (.int .i64 a5)])], [], [⟨171, (.pair (.int .i64) (.int .i64)), a6, .ro⟩, ⟨171, (.pair (.int .i64) (.int .i64)), a7, .ro⟩] => some ⟨Int × Int × Int × Int × Int × (List (Int × Int)) × (List (Int × Int)), L.toQuery a1 a2 a3 a4 a5 a6 a7, R15⟩
  | _, _, _ => none
theorem ev15 (a1 a2 a3 a4 a5 : Int) (a6 a7 : List (Int × Int)) : evF Try.prog G15 loopNil (0, 0) Try.f15 c15 [.s1 (.agg [.sl 0, .sl 1, ai a1, ai a2, ai a3, ai a4, ai a5])] [] [⟨171, (.pair (.int .i64) (.int .i64)), a6, .ro⟩, ⟨171, (.pair (.int .i64) (.int .i64)), a7, .ro⟩] K15 = L.toQuery a1 a2 a3 a4 a5 a6 a7 := by kernel_rfl
theorem good15 : Vm.Good Try.prog 15 E15 := by
  refine evF_good (G := G15) (c := c15) (envCons_good good67 (envCons_good good68 envNil_good)) Try.func15 (by kernel_rfl) (by kernel_rfl) (0, 0) (fun args bs rs out t h h2 => ?_)
  unfold E15 at h
  split at h
  · injection h with h
    subst h
    exact ⟨rfl, loopNil, K15, (by intro x hx; simp [show loopsOf c15 = [] from by kernel_rfl] at hx), (fun r t h => by unfold K15 at h; split at h; (injection h with h; subst h; rfl); cases h), (ev15 _ _ _ _ _ _ _).trans h2⟩
  · cases h
/-! ### S.l03Takes -/
noncomputable def G173 : Env := envNil
noncomputable def c173 : Code := bodyOf Try.f173
noncomputable def S.l03Takes (a1 : Int) : Option Int :=
(bif (decide (a1 ≤ 3)) then
(some 0)
else
(bif (a1 == 11) then
(some 1)
else
(some 2)))
noncomputable def R173 (x : Int) : Res := ⟨[.one (ai x)], [], []⟩
noncomputable def K173 (r : Res) : Option Int :=
  match r with
  | ⟨[.one (.val (.int .i64 v1))], [], []⟩ => some (v1)
  | _ => none
noncomputable def E173 : Fun2 := fun args bs rs =>
  match args, bs, rs with
  | [.s1 (.one (.val (.int .i64 a1)))], [], [] => some ⟨Int, S.l03Takes a1, R173⟩
  | _, _, _ => none
theorem ev173 (a1 : Int) : evF Try.prog G173 loopNil (0, 0) Try.f173 c173 [vi a1] [] [] K173 = S.l03Takes a1 := by kernel_rfl
theorem good173 : Vm.Good Try.prog 173 E173 := by
  refine evF_good (G := G173) (c := c173) envNil_good Try.func173 (by kernel_rfl) (by kernel_rfl) (0, 0) (fun args bs rs out t h h2 => ?_)
  unfold E173 at h
  split at h
  · injection h with h
    subst h
    exact ⟨rfl, loopNil, K173, (by intro x hx; simp [show loopsOf c173 = [] from by kernel_rfl] at hx), (fun r t h => by unfold K173 at h; split at h; (injection h with h; subst h; rfl); cases h), (ev173 _).trans h2⟩
  · cases h
/-! ### S.l03Depth -/
noncomputable def G121 : Env := (envCons 173 [] E173 envNil)
noncomputable def c121 : Code := bodyOf Try.f121
noncomputable def c121_6 : Code := (loopsOf c121).getD 0 .skip
noncomputable def S.l03Depth_l0 : Nat → (Int → Int → Int → Option Int) → (Int → Int → Option Int) → Int → Int → Int → (List (Int × Int)) → Option Int
  | 0, _, _, _, _, _, _ => none
  | m + 1, e6_0, e6_1, a6, a7, a8, a9 =>
    (bif (decide (a8 < (a9.length : Int))) then
    (bif decide (0 ≤ a8 ∧ a8 < (a9.length : Int)) then
    (bif (decide ((nthI a9 a8 ((0 : Int), (0 : Int))).1 < 0)) then
    (e6_0 (-1) a6 a7)
    else
    (bif decide (0 ≤ a8 ∧ a8 < (a9.length : Int)) then
    (bif (decide (11 < (nthI a9 a8 ((0 : Int), (0 : Int))).1)) then
    (e6_0 (-1) a6 a7)
    else
    (bif decide (0 ≤ a8 ∧ a8 < (a9.length : Int)) then
    (bif ((nthI a9 a8 ((0 : Int), (0 : Int))).1 != 0) then
    (bif decide (0 ≤ a8 ∧ a8 < (a9.length : Int)) then
    (bif ((nthI a9 a8 ((0 : Int), (0 : Int))).2 != 0) then
    (e6_0 (-1) a6 a7)
    else
    (bif decide (0 ≤ a8 ∧ a8 < (a9.length : Int)) then
    (Option.bind (S.l03Takes ((nthI a9 a8 ((0 : Int), (0 : Int))).1)) fun r16 =>
    (bif (decide (a6 < r16)) then
    (e6_0 (-1) a6 a7)
    else
    (bif decide (0 ≤ a8 ∧ a8 < (a9.length : Int)) then
    (Option.bind (S.l03Takes ((nthI a9 a8 ((0 : Int), (0 : Int))).1)) fun r18 =>
    (let v20 : Int := (IntKind.wrap .i64 ((IntKind.wrap .i64 (a6 - r18)) + 1))
    (S.l03Depth_l0 m e6_0 e6_1 v20 (if v20 > a7 then v20 else a7) (IntKind.wrap .i64 (a8 + 1)) a9)))
    else
    none)))
    else
    none))
    else
    none)
    else
    (bif decide (0 ≤ a8 ∧ a8 < (a9.length : Int)) then
    (Option.bind (S.l03Takes ((nthI a9 a8 ((0 : Int), (0 : Int))).1)) fun r23 =>
    (bif (decide (a6 < r23)) then
    (e6_0 (-1) a6 a7)
    else
    (bif decide (0 ≤ a8 ∧ a8 < (a9.length : Int)) then
    (Option.bind (S.l03Takes ((nthI a9 a8 ((0 : Int), (0 : Int))).1)) fun r25 =>
    (let v27 : Int := (IntKind.wrap .i64 ((IntKind.wrap .i64 (a6 - r25)) + 1))
    (S.l03Depth_l0 m e6_0 e6_1 v27 (if v27 > a7 then v27 else a7) (IntKind.wrap .i64 (a8 + 1)) a9)))
    else
    none)))
    else
    none))
    else
    none))
    else
    none))
    else
    none)
    else
    (e6_1 a6 a7))
noncomputable def S.l03Depth (a1 : List (Int × Int)) : Option Int :=
(bif (decide ((a1.length : Int) < 1)) then
(some (-1))
else
(bif (decide (20 < (a1.length : Int))) then
(some (-1))
else
(S.l03Depth_l0 fu (fun y30 y31 y32 =>
(some y30)) (fun y33 y34 =>
(bif (y33 != 1) then
(some (-1))
else
(some y34))) 0 0 0 a1)))
noncomputable def H121_6 : LoopH := ⟨⟨((.one (.sl 0)) :: (hu 2 (hh :: hh :: hh :: (hu 69 [])))), [], [(169, (.pair (.int .i64) (.int .i64)), .ro)]⟩, [1, 2, 6, 7, 8, 9, 10, 11, 12, 13, 14, 15, 16, 17, 18, 19, 20, 21, 22, 23, 24, 25, 26, 27, 28, 29, 30, 31, 32, 33, 34, 35, 36, 37, 38, 39, 40, 41, 42, 43, 44, 45, 46, 47, 48, 49, 50, 51, 52, 53, 54, 55, 56, 57, 58, 59, 60, 61, 62, 63, 64, 65, 66, 67, 68, 69, 70, 71, 72, 73, 74], [], [0, 1, 5, 6, 7, 8, 9, 10, 11, 12, 13, 14, 15, 16, 17, 18, 19, 20, 21, 22, 23, 24, 25, 26, 27, 28, 29, 30, 31, 32, 33, 34, 35, 36, 37, 38, 39, 40, 41, 42, 43, 44, 45, 46, 47, 48, 49, 50, 51, 52, 53, 54, 55, 56, 57, 58, 59, 60, 61, 62, 63, 64, 65, 66, 67, 68, 69, 70, 71, 72, 73, 74]⟩
noncomputable def E121_6 (m : Nat) (ps : List Prm) (k : Kont Int) : Option Int :=
  match ps with
  | [.v (.int .i64 a6), .v (.int .i64 a7), .v (.int .i64 a8), .row (.pair (.int .i64) (.int .i64)) a9] => S.l03Depth_l0 m (fun z40 z41 z42 => k .ret (⟨(vu 2 ((vi z40) :: (vi z41) :: (vi z42) :: (vu 70 []))), [], []⟩ : St)) (fun z43 z44 => k (.exit 0) (⟨(vu 3 ((vi z43) :: (vi z44) :: (vu 70 []))), [], []⟩ : St)) a6 a7 a8 a9
  | _ => none
noncomputable def S121_6 (a6 a7 a8 : Int) (a9 : List (Int × Int)) : St := (⟨((vl 0) :: (vu 2 ((vi a6) :: (vi a7) :: (vi a8) :: (vu 69 [])))), [], [⟨169, (.pair (.int .i64) (.int .i64)), a9, .ro⟩]⟩ : St)
theorem ev121_6 (m : Nat) (k : Kont Int) (a6 a7 a8 : Int) (a9 : List (Int × Int)) : evC Try.prog G121 loopNil c121_6 (S121_6 a6 a7 a8 a9) (turn Try.prog (0, 0) H121_6 (E121_6 m) k) = E121_6 (m + 1) [.v (.int .i64 a6), .v (.int .i64 a7), .v (.int .i64 a8), .row (.pair (.int .i64) (.int .i64)) a9] k := by kernel_rfl
theorem ok121_6 (m : Nat) : LoopOk Try.prog (0, 0) c121_6 (enter Try.prog (0, 0) H121_6 (E121_6 m)) := by
  refine loop_ok (G := G121) (L := loopNil) (envCons_good good173 envNil_good) (by intro x hx; simp [show loopsOf c121_6 = [] from by kernel_rfl] at hx) (fun ps k => by unfold E121_6; split <;> rfl) (fun m ps k r h => ?_) m
  have h0 := h
  unfold E121_6 at h
  split at h
  · exact ⟨S121_6 _ _ _ _, by kernel_rfl, (ev121_6 m k _ _ _ _).trans h0⟩
  · cases h
noncomputable def L121 : LEnv Int := (loopCons 6 (enter Try.prog (0, 0) H121_6 (E121_6 fu)) loopNil)
theorem lq121 : loopsOf c121 = [c121_6] := by kernel_rfl
theorem fr121_6 : firstReg c121_6 = some 6 := by kernel_rfl
theorem le121_6 : L121 6 = enter Try.prog (0, 0) H121_6 (E121_6 fu) := by kernel_rfl
theorem lm121 : ∀ x ∈ [c121_6], ∀ id, firstReg x = some id → LoopOk Try.prog (0, 0) x (L121 id) := (loops_cons fr121_6 le121_6 (ok121_6 fu) loops_nil)
theorem lp121 : ∀ x ∈ loopsOf c121, ∀ id, firstReg x = some id → LoopOk Try.prog (0, 0) x (L121 id) := loops_eq lq121 lm121
noncomputable def R121 (x : Int) : Res := ⟨[.one (ai x)], [], []⟩
noncomputable def K121 (r : Res) : Option Int :=
  match r with
  | ⟨[.one (.val (.int .i64 v1))], [], []⟩ => some (v1)
  | _ => none
noncomputable def E121 : Fun2 := fun args bs rs =>
  match args, bs, rs with
  | [.s1 (.one (.sl 0))], [], [⟨169, (.pair (.int .i64) (.int .i64)), a1, .ro⟩] => some ⟨Int, S.l03Depth a1, R121⟩
  | _, _, _ => none
theorem ev121 (a1 : List (Int × Int)) : evF Try.prog G121 L121 (0, 0) Try.f121 c121 [vl 0] [] [⟨169, (.pair (.int .i64) (.int .i64)), a1, .ro⟩] K121 = S.l03Depth a1 := by kernel_rfl
theorem good121 : Vm.Good Try.prog 121 E121 := by
  refine evF_good (G := G121) (c := c121) (envCons_good good173 envNil_good) Try.func121 (by kernel_rfl) (by kernel_rfl) (0, 0) (fun args bs rs out t h h2 => ?_)
  unfold E121 at h
  split at h
  · injection h with h
    subst h
    exact ⟨rfl, L121, K121, lp121, (fun r t h => by unfold K121 at h; split at h; (injection h with h; subst h; rfl); cases h), (ev121 _).trans h2⟩
  · cases h
/-! ### S.ExprOk -/
noncomputable def G64 : Env := (envCons 121 [] E121 envNil)
noncomputable def c64 : Code := bodyOf Try.f64
noncomputable def S.ExprOk (a1 : List (Int × Int)) : Option Bool :=
(Option.bind (S.l03Depth a1) fun r2 =>
(some (decide (0 ≤ r2))))
noncomputable def R64 (x : Bool) : Res := ⟨[.one (ab x)], [], []⟩
noncomputable def K64 (r : Res) : Option Bool :=
  match r with
  | ⟨[.one (.val (.bool v1))], [], []⟩ => some (v1)
  | _ => none
noncomputable def E64 : Fun2 := fun args bs rs =>
  match args, bs, rs with
  | [.s1 (.one (.sl 0))], [], [⟨169, (.pair (.int .i64) (.int .i64)), a1, .ro⟩] => some ⟨Bool, S.ExprOk a1, R64⟩
  | _, _, _ => none
theorem ev64 (a1 : List (Int × Int)) : evF Try.prog G64 loopNil (0, 0) Try.f64 c64 [vl 0] [] [⟨169, (.pair (.int .i64) (.int .i64)), a1, .ro⟩] K64 = S.ExprOk a1 := by kernel_rfl
theorem good64 : Vm.Good Try.prog 64 E64 := by
  refine evF_good (G := G64) (c := c64) (envCons_good good121 envNil_good) Try.func64 (by kernel_rfl) (by kernel_rfl) (0, 0) (fun args bs rs out t h h2 => ?_)
  unfold E64 at h
  split at h
  · injection h with h
    subst h
    exact ⟨rfl, loopNil, K64, (by intro x hx; simp [show loopsOf c64 = [] from by kernel_rfl] at hx), (fun r t h => by unfold K64 at h; split at h; (injection h with h; subst h; rfl); cases h), (ev64 _).trans h2⟩
  · cases h
/-! ### S.WinOk -/
noncomputable def G65 : Env := envNil
noncomputable def c65 : Code := bodyOf Try.f65
noncomputable def S.WinOk (a1 a2 a3 : Int) : Option Bool :=
(bif (decide (a1 < 1)) then
(some false)
else
(bif (decide (3 < a1)) then
(some false)
else
(bif (decide (a2 < 1)) then
(some false)
else
(bif (decide (100 < a2)) then
(some false)
else
(bif (a1 != 2) then
(some (a3 == 0))
else
(bif (decide (1 ≤ a3)) then
(bif (decide (a3 ≤ a2)) then
(some (decide (a2 ≤ (IntKind.wrap .i64 (8 * a3)))))
else
(some false))
else
(some false)))))))
noncomputable def R65 (x : Bool) : Res := ⟨[.one (ab x)], [], []⟩
noncomputable def K65 (r : Res) : Option Bool :=
  match r with
  | ⟨[.one (.val (.bool v1))], [], []⟩ => some (v1)
  | _ => none
noncomputable def E65 : Fun2 := fun args bs rs =>
  match args, bs, rs with
  | [.s1 (.agg [.val (.int .i64 a1), .val (.int .i64 a2), .val (.int .i64 a3)])], [], [] => some ⟨Bool, S.WinOk a1 a2 a3, R65⟩
  | _, _, _ => none
theorem ev65 (a1 a2 a3 : Int) : evF Try.prog G65 loopNil (0, 0) Try.f65 c65 [.s1 (.agg [ai a1, ai a2, ai a3])] [] [] K65 = S.WinOk a1 a2 a3 := by kernel_rfl
theorem good65 : Vm.Good Try.prog 65 E65 := by
  refine evF_good (G := G65) (c := c65) envNil_good Try.func65 (by kernel_rfl) (by kernel_rfl) (0, 0) (fun args bs rs out t h h2 => ?_)
  unfold E65 at h
  split at h
  · injection h with h
    subst h
    exact ⟨rfl, loopNil, K65, (by intro x hx; simp [show loopsOf c65 = [] from by kernel_rfl] at hx), (fun r t h => by unfold K65 at h; split at h; (injection h with h; subst h; rfl); cases h), (ev65 _ _ _).trans h2⟩
  · cases h
/-! ### S.AggKind -/
noncomputable def G66 : Env := envNil
noncomputable def c66 : Code := bodyOf Try.f66
noncomputable def S.AggKind (a1 a2 : Int) : Option Bool :=
(bif (a1 == 6) then
(bif (decide (1 ≤ a2)) then
(some (decide (a2 ≤ 4)))
else
(some false))
else
(bif (decide (1 ≤ a1)) then
(bif (decide (a1 < 6)) then
(some (a2 == 0))
else
(some false))
else
(some false)))
noncomputable def R66 (x : Bool) : Res := ⟨[.one (ab x)], [], []⟩
noncomputable def K66 (r : Res) : Option Bool :=
  match r with
  | ⟨[.one (.val (.bool v1))], [], []⟩ => some (v1)
  | _ => none
noncomputable def E66 : Fun2 := fun args bs rs =>
  match args, bs, rs with
  | [.s1 (.one (.val (.int .i64 a1))), .s1 (.one (.val (.int .i64 a2)))], [], [] => some ⟨Bool, S.AggKind a1 a2, R66⟩
  | _, _, _ => none
theorem ev66 (a1 a2 : Int) : evF Try.prog G66 loopNil (0, 0) Try.f66 c66 [vi a1, vi a2] [] [] K66 = S.AggKind a1 a2 := by kernel_rfl
theorem good66 : Vm.Good Try.prog 66 E66 := by
  refine evF_good (G := G66) (c := c66) envNil_good Try.func66 (by kernel_rfl) (by kernel_rfl) (0, 0) (fun args bs rs out t h h2 => ?_)
  unfold E66 at h
  split at h
  · injection h with h
    subst h
    exact ⟨rfl, loopNil, K66, (by intro x hx; simp [show loopsOf c66 = [] from by kernel_rfl] at hx), (fun r t h => by unfold K66 at h; split at h; (injection h with h; subst h; rfl); cases h), (ev66 _ _).trans h2⟩
  · cases h
/-! ### S.QueryOk -/
noncomputable def G14 : Env := (envCons 64 [] E64 (envCons 65 [] E65 (envCons 66 [] E66 envNil)))
noncomputable def c14 : Code := bodyOf Try.f14
noncomputable def S.QueryOk (a1 a2 a3 a4 a5 : Int) (a6 a7 : List (Int × Int)) : Option Bool :=
(Option.bind (S.ExprOk a6) fun r8 =>
(bif r8 then
(Option.bind (S.ExprOk a7) fun r9 =>
(bif r9 then
(Option.bind (S.WinOk a1 a2 a3) fun r10 =>
(bif r10 then
(Option.bind (S.AggKind a4 a5) fun r11 =>
(some r11))
else
(some false)))
else
(some false)))
else
(some false)))
noncomputable def R14 (x : Bool) : Res := ⟨[.one (ab x)], [], []⟩
noncomputable def K14 (r : Res) : Option Bool :=
  match r with
  | ⟨[.one (.val (.bool v1))], [], []⟩ => some (v1)
  | _ => none
noncomputable def E14 : Fun2 := fun args bs rs =>
  match args, bs, rs with
  | [.s1 (.agg [.sl 0, .sl 1, .val (.int .i64 a1), .val (.int .i64 a2), .val (.int .i64 a3), .val (.int .i64 a4), .val (.int .i64 a5)])], [], [⟨169, (.pair (.int .i64) (.int .i64)), a6, .ro⟩, ⟨169, (.pair (.int .i64) (.int .i64)), a7, .ro⟩] => some ⟨Bool, S.QueryOk a1 a2 a3 a4 a5 a6 a7, R14⟩
  | _, _, _ => none
theorem ev14 (a1 a2 a3 a4 a5 : Int) (a6 a7 : List (Int × Int)) : evF Try.prog G14 loopNil (0, 0) Try.f14 c14 [.s1 (.agg [.sl 0, .sl 1, ai a1, ai a2, ai a3, ai a4, ai a5])] [] [⟨169, (.pair (.int .i64) (.int .i64)), a6, .ro⟩, ⟨169, (.pair (.int .i64) (.int .i64)), a7, .ro⟩] K14 = S.QueryOk a1 a2 a3 a4 a5 a6 a7 := by kernel_rfl
theorem good14 : Vm.Good Try.prog 14 E14 := by
  refine evF_good (G := G14) (c := c14) (envCons_good good64 (envCons_good good65 (envCons_good good66 envNil_good))) Try.func14 (by kernel_rfl) (by kernel_rfl) (0, 0) (fun args bs rs out t h h2 => ?_)
  unfold E14 at h
  split at h
  · injection h with h
    subst h
    exact ⟨rfl, loopNil, K14, (by intro x hx; simp [show loopsOf c14 = [] from by kernel_rfl] at hx), (fun r t h => by unfold K14 at h; split at h; (injection h with h; subst h; rfl); cases h), (ev14 _ _ _ _ _ _ _).trans h2⟩
  · cases h
/-! ### I.in -/
noncomputable def G134 : Env := envNil
noncomputable def c134 : Code := bodyOf Try.f134
noncomputable def I.in (a1 a2 a3 : Int) : Option Bool :=
(bif (decide (a2 ≤ a1)) then
(some (decide (a1 ≤ a3)))
else
(some false))
noncomputable def R134 (x : Bool) : Res := ⟨[.one (ab x)], [], []⟩
noncomputable def K134 (r : Res) : Option Bool :=
  match r with
  | ⟨[.one (.val (.bool v1))], [], []⟩ => some (v1)
  | _ => none
noncomputable def E134 : Fun2 := fun args bs rs =>
  match args, bs, rs with
  | [.s1 (.one (.val (.int .i64 a1))), .s1 (.one (.val (.int .i64 a2))), .s1 (.one (.val (.int .i64 a3)))], [], [] => some ⟨Bool, I.in a1 a2 a3, R134⟩
  | _, _, _ => none
theorem ev134 (a1 a2 a3 : Int) : evF Try.prog G134 loopNil (0, 0) Try.f134 c134 [vi a1, vi a2, vi a3] [] [] K134 = I.in a1 a2 a3 := by kernel_rfl
theorem good134 : Vm.Good Try.prog 134 E134 := by
  refine evF_good (G := G134) (c := c134) envNil_good Try.func134 (by kernel_rfl) (by kernel_rfl) (0, 0) (fun args bs rs out t h h2 => ?_)
  unfold E134 at h
  split at h
  · injection h with h
    subst h
    exact ⟨rfl, loopNil, K134, (by intro x hx; simp [show loopsOf c134 = [] from by kernel_rfl] at hx), (fun r t h => by unfold K134 at h; split at h; (injection h with h; subst h; rfl); cases h), (ev134 _ _ _).trans h2⟩
  · cases h
/-! ### I.Tok_takes -/
noncomputable def G191 : Env := envNil
noncomputable def c191 : Code := bodyOf Try.f191
noncomputable def I.Tok_takes (a1 a2 : Int) : Option Int :=
(bif (decide (a1 ≤ 3)) then
(some 0)
else
(bif (a1 == 11) then
(some 1)
else
(some 2)))
noncomputable def R191 (x : Int) : Res := ⟨[.one (ai x)], [], []⟩
noncomputable def K191 (r : Res) : Option Int :=
  match r with
  | ⟨[.one (.val (.int .i64 v1))], [], []⟩ => some (v1)
  | _ => none
noncomputable def E191 : Fun2 := fun args bs rs =>
  match args, bs, rs with
  | [.s1 (.agg [.val (.int .i64 a1), .val (.int .i64 a2)])], [], [] => some ⟨Int, I.Tok_takes a1 a2, R191⟩
  | _, _, _ => none
theorem ev191 (a1 a2 : Int) : evF Try.prog G191 loopNil (0, 0) Try.f191 c191 [.s1 (.agg [ai a1, ai a2])] [] [] K191 = I.Tok_takes a1 a2 := by kernel_rfl
theorem good191 : Vm.Good Try.prog 191 E191 := by
  refine evF_good (G := G191) (c := c191) envNil_good Try.func191 (by kernel_rfl) (by kernel_rfl) (0, 0) (fun args bs rs out t h h2 => ?_)
  unfold E191 at h
  split at h
  · injection h with h
    subst h
    exact ⟨rfl, loopNil, K191, (by intro x hx; simp [show loopsOf c191 = [] from by kernel_rfl] at hx), (fun r t h => by unfold K191 at h; split at h; (injection h with h; subst h; rfl); cases h), (ev191 _ _).trans h2⟩
  · cases h
/-! ### I.depth -/
noncomputable def G174 : Env := (envCons 134 [] E134 (envCons 191 [] E191 envNil))
noncomputable def c174 : Code := bodyOf Try.f174
noncomputable def c174_5 : Code := (loopsOf c174).getD 0 .skip
noncomputable def I.depth_l0 : Nat → (Int → Int → Int → Option Int) → (Int → Int → Option Int) → Int → Int → Int → Int → (List (Int × Int)) → Option Int
  | 0, _, _, _, _, _, _, _ => none
  | m + 1, e5_0, e5_1, a5, a6, a7, a8, a9 =>
    (bif (decide (a8 < a7)) then
    (bif decide (0 ≤ a8 ∧ a8 < (a9.length : Int)) then
    (Option.bind (I.in ((nthI a9 a8 ((0 : Int), (0 : Int))).1) 0 11) fun r11 =>
    (bif (!r11) then
    (e5_0 (-1) a5 a6)
    else
    (bif ((nthI a9 a8 ((0 : Int), (0 : Int))).1 != 0) then
    (bif ((nthI a9 a8 ((0 : Int), (0 : Int))).2 != 0) then
    (e5_0 (-1) a5 a6)
    else
    (Option.bind (I.Tok_takes ((nthI a9 a8 ((0 : Int), (0 : Int))).1) ((nthI a9 a8 ((0 : Int), (0 : Int))).2)) fun r14 =>
    (bif (decide (a5 < r14)) then
    (e5_0 (-1) a5 a6)
    else
    (Option.bind (I.Tok_takes ((nthI a9 a8 ((0 : Int), (0 : Int))).1) ((nthI a9 a8 ((0 : Int), (0 : Int))).2)) fun r16 =>
    (let v18 : Int := (IntKind.wrap .i64 (a5 + (IntKind.wrap .i64 (1 - r16))))
    (I.depth_l0 m e5_0 e5_1 v18 (if v18 > a6 then v18 else a6) a7 (IntKind.wrap .i64 (a8 + 1)) a9))))))
    else
    (Option.bind (I.Tok_takes ((nthI a9 a8 ((0 : Int), (0 : Int))).1) ((nthI a9 a8 ((0 : Int), (0 : Int))).2)) fun r21 =>
    (bif (decide (a5 < r21)) then
    (e5_0 (-1) a5 a6)
    else
    (Option.bind (I.Tok_takes ((nthI a9 a8 ((0 : Int), (0 : Int))).1) ((nthI a9 a8 ((0 : Int), (0 : Int))).2)) fun r23 =>
    (let v25 : Int := (IntKind.wrap .i64 (a5 + (IntKind.wrap .i64 (1 - r23))))
    (I.depth_l0 m e5_0 e5_1 v25 (if v25 > a6 then v25 else a6) a7 (IntKind.wrap .i64 (a8 + 1)) a9))))))))
    else
    none)
    else
    (e5_1 a5 a6))
noncomputable def I.depth (a1 : List (Int × Int)) : Option Int :=
(Option.bind (I.in (a1.length : Int) 1 20) fun r3 =>
(bif (!r3) then
(some (-1))
else
(I.depth_l0 fu (fun y28 y29 y30 =>
(some y28)) (fun y31 y32 =>
(bif (y31 != 1) then
(some (-1))
else
(some y32))) 0 0 (a1.length : Int) 0 a1)))
noncomputable def H174_5 : LoopH := ⟨⟨(hu 3 (hh :: hh :: (hu 6 ((.one (.sl 0)) :: hh :: hh :: (hu 35 []))))), [], [(169, (.pair (.int .i64) (.int .i64)), .ro)]⟩, [0, 1, 2, 5, 6, 7, 8, 9, 10, 14, 15, 16, 17, 18, 19, 20, 21, 22, 23, 24, 25, 26, 27, 28, 29, 30, 31, 32, 33, 34, 35, 36, 37, 38, 39, 40, 41, 42, 43, 44, 45, 46, 47, 48], [], [0, 1, 5, 6, 7, 8, 9, 10, 11, 12, 13, 14, 15, 16, 17, 18, 19, 20, 21, 22, 23, 24, 25, 26, 27, 28, 29, 30, 31, 32, 33, 34, 35, 36, 37, 38, 39, 40, 41, 42, 43, 44, 45, 46, 47, 48]⟩
noncomputable def E174_5 (m : Nat) (ps : List Prm) (k : Kont Int) : Option Int :=
  match ps with
  | [.v (.int .i64 a5), .v (.int .i64 a6), .v (.int .i64 a7), .v (.int .i64 a8), .row (.pair (.int .i64) (.int .i64)) a9] => I.depth_l0 m (fun z38 z39 z40 => k .ret (⟨(vu 2 ((vi z38) :: (vi z39) :: (vi z40) :: (vu 44 []))), [], []⟩ : St)) (fun z41 z42 => k (.exit 0) (⟨(vu 3 ((vi z41) :: (vi z42) :: (vu 44 []))), [], []⟩ : St)) a5 a6 a7 a8 a9
  | _ => none
noncomputable def S174_5 (a5 a6 a7 a8 : Int) (a9 : List (Int × Int)) : St := (⟨(vu 3 ((vi a5) :: (vi a6) :: (vu 6 ((vl 0) :: (vi a7) :: (vi a8) :: (vu 35 []))))), [], [⟨169, (.pair (.int .i64) (.int .i64)), a9, .ro⟩]⟩ : St)
theorem ev174_5 (m : Nat) (k : Kont Int) (a5 a6 a7 a8 : Int) (a9 : List (Int × Int)) : evC Try.prog G174 loopNil c174_5 (S174_5 a5 a6 a7 a8 a9) (turn Try.prog (0, 0) H174_5 (E174_5 m) k) = E174_5 (m + 1) [.v (.int .i64 a5), .v (.int .i64 a6), .v (.int .i64 a7), .v (.int .i64 a8), .row (.pair (.int .i64) (.int .i64)) a9] k := by kernel_rfl
theorem ok174_5 (m : Nat) : LoopOk Try.prog (0, 0) c174_5 (enter Try.prog (0, 0) H174_5 (E174_5 m)) := by
  refine loop_ok (G := G174) (L := loopNil) (envCons_good good134 (envCons_good good191 envNil_good)) (by intro x hx; simp [show loopsOf c174_5 = [] from by kernel_rfl] at hx) (fun ps k => by unfold E174_5; split <;> rfl) (fun m ps k r h => ?_) m
  have h0 := h
  unfold E174_5 at h
  split at h
  · exact ⟨S174_5 _ _ _ _ _, by kernel_rfl, (ev174_5 m k _ _ _ _ _).trans h0⟩
  · cases h
noncomputable def L174 : LEnv Int := (loopCons 5 (enter Try.prog (0, 0) H174_5 (E174_5 fu)) loopNil)
theorem lq174 : loopsOf c174 = [c174_5] := by kernel_rfl
theorem fr174_5 : firstReg c174_5 = some 5 := by kernel_rfl
theorem le174_5 : L174 5 = enter Try.prog (0, 0) H174_5 (E174_5 fu) := by kernel_rfl
theorem lm174 : ∀ x ∈ [c174_5], ∀ id, firstReg x = some id → LoopOk Try.prog (0, 0) x (L174 id) := (loops_cons fr174_5 le174_5 (ok174_5 fu) loops_nil)
theorem lp174 : ∀ x ∈ loopsOf c174, ∀ id, firstReg x = some id → LoopOk Try.prog (0, 0) x (L174 id) := loops_eq lq174 lm174
noncomputable def R174 (x : Int) : Res := ⟨[.one (ai x)], [], []⟩
noncomputable def K174 (r : Res) : Option Int :=
  match r with
  | ⟨[.one (.val (.int .i64 v1))], [], []⟩ => some (v1)
  | _ => none
noncomputable def E174 : Fun2 := fun args bs rs =>
  match args, bs, rs with
  | [.s1 (.one (.sl 0))], [], [⟨169, (.pair (.int .i64) (.int .i64)), a1, .ro⟩] => some ⟨Int, I.depth a1, R174⟩
  | _, _, _ => none
theorem ev174 (a1 : List (Int × Int)) : evF Try.prog G174 L174 (0, 0) Try.f174 c174 [vl 0] [] [⟨169, (.pair (.int .i64) (.int .i64)), a1, .ro⟩] K174 = I.depth a1 := by kernel_rfl
theorem good174 : Vm.Good Try.prog 174 E174 := by
  refine evF_good (G := G174) (c := c174) (envCons_good good134 (envCons_good good191 envNil_good)) Try.func174 (by kernel_rfl) (by kernel_rfl) (0, 0) (fun args bs rs out t h h2 => ?_)
  unfold E174 at h
  split at h
  · injection h with h
    subst h
    exact ⟨rfl, L174, K174, lp174, (fun r t h => by unfold K174 at h; split at h; (injection h with h; subst h; rfl); cases h), (ev174 _).trans h2⟩
  · cases h
/-! ### I.isExpr -/
noncomputable def G123 : Env := (envCons 174 [] E174 envNil)
noncomputable def c123 : Code := bodyOf Try.f123
noncomputable def I.isExpr (a1 : List (Int × Int)) : Option Bool :=
(Option.bind (I.depth a1) fun r2 =>
(some (decide (0 < r2))))
noncomputable def R123 (x : Bool) : Res := ⟨[.one (ab x)], [], []⟩
noncomputable def K123 (r : Res) : Option Bool :=
  match r with
  | ⟨[.one (.val (.bool v1))], [], []⟩ => some (v1)
  | _ => none
noncomputable def E123 : Fun2 := fun args bs rs =>
  match args, bs, rs with
  | [.s1 (.one (.sl 0))], [], [⟨169, (.pair (.int .i64) (.int .i64)), a1, .ro⟩] => some ⟨Bool, I.isExpr a1, R123⟩
  | _, _, _ => none
theorem ev123 (a1 : List (Int × Int)) : evF Try.prog G123 loopNil (0, 0) Try.f123 c123 [vl 0] [] [⟨169, (.pair (.int .i64) (.int .i64)), a1, .ro⟩] K123 = I.isExpr a1 := by kernel_rfl
theorem good123 : Vm.Good Try.prog 123 E123 := by
  refine evF_good (G := G123) (c := c123) (envCons_good good174 envNil_good) Try.func123 (by kernel_rfl) (by kernel_rfl) (0, 0) (fun args bs rs out t h h2 => ?_)
  unfold E123 at h
  split at h
  · injection h with h
    subst h
    exact ⟨rfl, loopNil, K123, (by intro x hx; simp [show loopsOf c123 = [] from by kernel_rfl] at hx), (fun r t h => by unfold K123 at h; split at h; (injection h with h; subst h; rfl); cases h), (ev123 _).trans h2⟩
  · cases h
/-! ### I.isWinDef -/
noncomputable def G124 : Env := (envCons 134 [] E134 envNil)
noncomputable def c124 : Code := bodyOf Try.f124
noncomputable def I.isWinDef (a1 a2 a3 : Int) : Option Bool :=
(Option.bind (I.in a2 1 100) fun r4 =>
(bif (!r4) then
(some false)
else
(bif (a1 == 1) then
(some (a3 == 0))
else
(bif (a1 == 3) then
(some (a3 == 0))
else
(bif (a1 == 2) then
(Option.bind (I.in a3 1 a2) fun r5 =>
(bif r5 then
(some (decide (a2 ≤ (IntKind.wrap .i64 (8 * a3)))))
else
(some false)))
else
(some false))))))
noncomputable def R124 (x : Bool) : Res := ⟨[.one (ab x)], [], []⟩
noncomputable def K124 (r : Res) : Option Bool :=
  match r with
  | ⟨[.one (.val (.bool v1))], [], []⟩ => some (v1)
  | _ => none
noncomputable def E124 : Fun2 := fun args bs rs =>
  match args, bs, rs with
  | [.s1 (.agg [.val (.int .i64 a1), .val (.int .i64 a2), .val (.int .i64 a3)])], [], [] => some ⟨Bool, I.isWinDef a1 a2 a3, R124⟩
  | _, _, _ => none
theorem ev124 (a1 a2 a3 : Int) : evF Try.prog G124 loopNil (0, 0) Try.f124 c124 [.s1 (.agg [ai a1, ai a2, ai a3])] [] [] K124 = I.isWinDef a1 a2 a3 := by kernel_rfl
theorem good124 : Vm.Good Try.prog 124 E124 := by
  refine evF_good (G := G124) (c := c124) (envCons_good good134 envNil_good) Try.func124 (by kernel_rfl) (by kernel_rfl) (0, 0) (fun args bs rs out t h h2 => ?_)
  unfold E124 at h
  split at h
  · injection h with h
    subst h
    exact ⟨rfl, loopNil, K124, (by intro x hx; simp [show loopsOf c124 = [] from by kernel_rfl] at hx), (fun r t h => by unfold K124 at h; split at h; (injection h with h; subst h; rfl); cases h), (ev124 _ _ _).trans h2⟩
  · cases h
/-! ### I.isAggKind -/
noncomputable def G125 : Env := (envCons 134 [] E134 envNil)
noncomputable def c125 : Code := bodyOf Try.f125
noncomputable def I.isAggKind (a1 a2 : Int) : Option Bool :=
(bif (a1 == 6) then
(Option.bind (I.in a2 1 4) fun r3 =>
(some r3))
else
(Option.bind (I.in a1 1 5) fun r4 =>
(bif r4 then
(some (a2 == 0))
else
(some false))))
noncomputable def R125 (x : Bool) : Res := ⟨[.one (ab x)], [], []⟩
noncomputable def K125 (r : Res) : Option Bool :=
  match r with
  | ⟨[.one (.val (.bool v1))], [], []⟩ => some (v1)
  | _ => none
noncomputable def E125 : Fun2 := fun args bs rs =>
  match args, bs, rs with
  | [.s1 (.one (.val (.int .i64 a1))), .s1 (.one (.val (.int .i64 a2)))], [], [] => some ⟨Bool, I.isAggKind a1 a2, R125⟩
  | _, _, _ => none
theorem ev125 (a1 a2 : Int) : evF Try.prog G125 loopNil (0, 0) Try.f125 c125 [vi a1, vi a2] [] [] K125 = I.isAggKind a1 a2 := by kernel_rfl
theorem good125 : Vm.Good Try.prog 125 E125 := by
  refine evF_good (G := G125) (c := c125) (envCons_good good134 envNil_good) Try.func125 (by kernel_rfl) (by kernel_rfl) (0, 0) (fun args bs rs out t h h2 => ?_)
  unfold E125 at h
  split at h
  · injection h with h
    subst h
    exact ⟨rfl, loopNil, K125, (by intro x hx; simp [show loopsOf c125 = [] from by kernel_rfl] at hx), (fun r t h => by unfold K125 at h; split at h; (injection h with h; subst h; rfl); cases h), (ev125 _ _).trans h2⟩
  · cases h
/-! ### I.isQuery -/
noncomputable def G69 : Env := (envCons 123 [] E123 (envCons 124 [] E124 (envCons 125 [] E125 envNil)))
noncomputable def c69 : Code := bodyOf Try.f69
noncomputable def I.isQuery (a1 a2 a3 a4 a5 : Int) (a6 a7 : List (Int × Int)) : Option Bool :=
(Option.bind (I.isExpr a6) fun r8 =>
(bif r8 then
(Option.bind (I.isExpr a7) fun r9 =>
(bif r9 then
(Option.bind (I.isWinDef a1 a2 a3) fun r10 =>
(bif r10 then
(Option.bind (I.isAggKind a4 a5) fun r11 =>
(some r11))
else
(some false)))
else
(some false)))
else
(some false)))
noncomputable def R69 (x : Bool) : Res := ⟨[.one (ab x)], [], []⟩
noncomputable def K69 (r : Res) : Option Bool :=
  match r with
  | ⟨[.one (.val (.bool v1))], [], []⟩ => some (v1)
  | _ => none
noncomputable def E69 : Fun2 := fun args bs rs =>
  match args, bs, rs with
  | [.s1 (.agg [.sl 0, .sl 1, .val (.int .i64 a1), .val (.int .i64 a2), .val (.int .i64 a3), .val (.int .i64 a4), .val (.int .i64 a5)])], [], [⟨169, (.pair (.int .i64) (.int .i64)), a6, .ro⟩, ⟨169, (.pair (.int .i64) (.int .i64)), a7, .ro⟩] => some ⟨Bool, I.isQuery a1 a2 a3 a4 a5 a6 a7, R69⟩
  | _, _, _ => none
theorem ev69 (a1 a2 a3 a4 a5 : Int) (a6 a7 : List (Int × Int)) : evF Try.prog G69 loopNil (0, 0) Try.f69 c69 [.s1 (.agg [.sl 0, .sl 1, ai a1, ai a2, ai a3, ai a4, ai a5])] [] [⟨169, (.pair (.int .i64) (.int .i64)), a6, .ro⟩, ⟨169, (.pair (.int .i64) (.int .i64)), a7, .ro⟩] K69 = I.isQuery a1 a2 a3 a4 a5 a6 a7 := by kernel_rfl
theorem good69 : Vm.Good Try.prog 69 E69 := by
  refine evF_good (G := G69) (c := c69) (envCons_good good123 (envCons_good good124 (envCons_good good125 envNil_good))) Try.func69 (by kernel_rfl) (by kernel_rfl) (0, 0) (fun args bs rs out t h h2 => ?_)
  unfold E69 at h
  split at h
  · injection h with h
    subst h
    exact ⟨rfl, loopNil, K69, (by intro x hx; simp [show loopsOf c69 = [] from by kernel_rfl] at hx), (fun r t h => by unfold K69 at h; split at h; (injection h with h; subst h; rfl); cases h), (ev69 _ _ _ _ _ _ _).trans h2⟩
  · cases h
/-! ### I.QueryOk -/
noncomputable def G16 : Env := (envCons 69 [] E69 envNil)
noncomputable def c16 : Code := bodyOf Try.f16
noncomputable def I.QueryOk (a1 a2 a3 a4 a5 : Int) (a6 a7 : List (Int × Int)) : Option Bool :=
(Option.bind (I.isQuery a1 a2 a3 a4 a5 a6 a7) fun r8 =>
(some r8))
noncomputable def R16 (x : Bool) : Res := ⟨[.one (ab x)], [], []⟩
noncomputable def K16 (r : Res) : Option Bool :=
  match r with
  | ⟨[.one (.val (.bool v1))], [], []⟩ => some (v1)
  | _ => none
noncomputable def E16 : Fun2 := fun args bs rs =>
  match args, bs, rs with
  | [.s1 (.agg [.sl 0, .sl 1, .val (.int .i64 a1), .val (.int .i64 a2), .val (.int .i64 a3), .val (.int .i64 a4), .val (.int .i64 a5)])], [], [⟨169, (.pair (.int .i64) (.int .i64)), a6, .ro⟩, ⟨169, (.pair (.int .i64) (.int .i64)), a7, .ro⟩] => some ⟨Bool, I.QueryOk a1 a2 a3 a4 a5 a6 a7, R16⟩
  | _, _, _ => none
theorem ev16 (a1 a2 a3 a4 a5 : Int) (a6 a7 : List (Int × Int)) : evF Try.prog G16 loopNil (0, 0) Try.f16 c16 [.s1 (.agg [.sl 0, .sl 1, ai a1, ai a2, ai a3, ai a4, ai a5])] [] [⟨169, (.pair (.int .i64) (.int .i64)), a6, .ro⟩, ⟨169, (.pair (.int .i64) (.int .i64)), a7, .ro⟩] K16 = I.QueryOk a1 a2 a3 a4 a5 a6 a7 := by kernel_rfl
theorem good16 : Vm.Good Try.prog 16 E16 := by
  refine evF_good (G := G16) (c := c16) (envCons_good good69 envNil_good) Try.func16 (by kernel_rfl) (by kernel_rfl) (0, 0) (fun args bs rs out t h h2 => ?_)
  unfold E16 at h
  split at h
  · injection h with h
    subst h
    exact ⟨rfl, loopNil, K16, (by intro x hx; simp [show loopsOf c16 = [] from by kernel_rfl] at hx), (fun r t h => by unfold K16 at h; split at h; (injection h with h; subst h; rfl); cases h), (ev16 _ _ _ _ _ _ _).trans h2⟩
  · cases h
/-! ### L.eqTok -/
noncomputable def G126 : Env := envNil
noncomputable def c126 : Code := bodyOf Try.f126
noncomputable def L.eqTok (a1 a2 a3 a4 : Int) : Option Bool :=
(bif (a1 != a3) then
(some false)
else
(bif (a2 != a4) then
(some false)
else
(some true)))
noncomputable def R126 (x : Bool) : Res := ⟨[.one (ab x)], [], []⟩
noncomputable def K126 (r : Res) : Option Bool :=
  match r with
  | ⟨[.one (.val (.bool v1))], [], []⟩ => some (v1)
  | _ => none
noncomputable def E126 : Fun2 := fun args bs rs =>
  match args, bs, rs with
  | [.s1 (.agg [.val (.int .i64 a1), .val (.int .i64 a2)]), .s1 (.agg [.val (.int .i64 a3), .val (.int .i64 a4)])], [], [] => some ⟨Bool, L.eqTok a1 a2 a3 a4, R126⟩
  | _, _, _ => none
theorem ev126 (a1 a2 a3 a4 : Int) : evF Try.prog G126 loopNil (0, 0) Try.f126 c126 [.s1 (.agg [ai a1, ai a2]), .s1 (.agg [ai a3, ai a4])] [] [] K126 = L.eqTok a1 a2 a3 a4 := by kernel_rfl
theorem good126 : Vm.Good Try.prog 126 E126 := by
  refine evF_good (G := G126) (c := c126) envNil_good Try.func126 (by kernel_rfl) (by kernel_rfl) (0, 0) (fun args bs rs out t h h2 => ?_)
  unfold E126 at h
  split at h
  · injection h with h
    subst h
    exact ⟨rfl, loopNil, K126, (by intro x hx; simp [show loopsOf c126 = [] from by kernel_rfl] at hx), (fun r t h => by unfold K126 at h; split at h; (injection h with h; subst h; rfl); cases h), (ev126 _ _ _ _).trans h2⟩
  · cases h
/-! ### L.eqTokS -/
noncomputable def G70 : Env := (envCons 126 [] E126 envNil)
noncomputable def c70 : Code := bodyOf Try.f70
noncomputable def c70_4 : Code := (loopsOf c70).getD 0 .skip
noncomputable def L.eqTokS_l0 : Nat → (Bool → Option Bool) → (Option Bool) → Int → (List (Int × Int)) → (List (Int × Int)) → Option Bool
  | 0, _, _, _, _, _ => none
  | m + 1, e4_0, e4_1, a5, a6, a7 =>
    (bif (decide (a5 < (a6.length : Int))) then
    (bif decide (0 ≤ a5 ∧ a5 < (a6.length : Int)) then
    (bif decide (0 ≤ a5 ∧ a5 < (a7.length : Int)) then
    (Option.bind (L.eqTok ((nthI a6 a5 ((0 : Int), (0 : Int))).1) ((nthI a6 a5 ((0 : Int), (0 : Int))).2) ((nthI a7 a5 ((0 : Int), (0 : Int))).1) ((nthI a7 a5 ((0 : Int), (0 : Int))).2)) fun r10 =>
    (bif (!r10) then
    (e4_0 false)
    else
    (L.eqTokS_l0 m e4_0 e4_1 (IntKind.wrap .i64 (a5 + 1)) a6 a7)))
    else
    none)
    else
    none)
    else
    e4_1)
noncomputable def L.eqTokS (a1 a2 : List (Int × Int)) : Option Bool :=
(bif ((a1.length : Int) != (a2.length : Int)) then
(some false)
else
(L.eqTokS_l0 fu (fun y12 =>
(some y12)) (some true) 0 a1 a2))
noncomputable def H70_4 : LoopH := ⟨⟨((.one (.sl 0)) :: (.one (.sl 1)) :: (hu 3 (hh :: (hu 21 [])))), [], [(169, (.pair (.int .i64) (.int .i64)), .ro), (169, (.pair (.int .i64) (.int .i64)), .ro)]⟩, [2, 3, 4, 6, 7, 8, 9, 10, 11, 12, 13, 14, 15, 16, 17, 18, 19, 20, 21, 22, 23, 24, 25, 26], [], [0, 1, 2, 3, 5, 6, 7, 8, 9, 10, 11, 12, 13, 14, 15, 16, 17, 18, 19, 20, 21, 22, 23, 24, 25, 26]⟩
noncomputable def E70_4 (m : Nat) (ps : List Prm) (k : Kont Bool) : Option Bool :=
  match ps with
  | [.v (.int .i64 a5), .row (.pair (.int .i64) (.int .i64)) a6, .row (.pair (.int .i64) (.int .i64)) a7] => L.eqTokS_l0 m (fun z14 => k .ret (⟨(vu 4 ((vb z14) :: (vu 22 []))), [], []⟩ : St)) (k (.exit 0) (⟨(vu 27 []), [], []⟩ : St)) a5 a6 a7
  | _ => none
noncomputable def S70_4 (a5 : Int) (a6 a7 : List (Int × Int)) : St := (⟨((vl 0) :: (vl 1) :: (vu 3 ((vi a5) :: (vu 21 [])))), [], [⟨169, (.pair (.int .i64) (.int .i64)), a6, .ro⟩, ⟨169, (.pair (.int .i64) (.int .i64)), a7, .ro⟩]⟩ : St)
theorem ev70_4 (m : Nat) (k : Kont Bool) (a5 : Int) (a6 a7 : List (Int × Int)) : evC Try.prog G70 loopNil c70_4 (S70_4 a5 a6 a7) (turn Try.prog (0, 0) H70_4 (E70_4 m) k) = E70_4 (m + 1) [.v (.int .i64 a5), .row (.pair (.int .i64) (.int .i64)) a6, .row (.pair (.int .i64) (.int .i64)) a7] k := by kernel_rfl
theorem ok70_4 (m : Nat) : LoopOk Try.prog (0, 0) c70_4 (enter Try.prog (0, 0) H70_4 (E70_4 m)) := by
  refine loop_ok (G := G70) (L := loopNil) (envCons_good good126 envNil_good) (by intro x hx; simp [show loopsOf c70_4 = [] from by kernel_rfl] at hx) (fun ps k => by unfold E70_4; split <;> rfl) (fun m ps k r h => ?_) m
  have h0 := h
  unfold E70_4 at h
  split at h
  · exact ⟨S70_4 _ _ _, by kernel_rfl, (ev70_4 m k _ _ _).trans h0⟩
  · cases h
noncomputable def L70 : LEnv Bool := (loopCons 4 (enter Try.prog (0, 0) H70_4 (E70_4 fu)) loopNil)
theorem lq70 : loopsOf c70 = [c70_4] := by kernel_rfl
theorem fr70_4 : firstReg c70_4 = some 4 := by kernel_rfl
theorem le70_4 : L70 4 = enter Try.prog (0, 0) H70_4 (E70_4 fu) := by kernel_rfl
theorem lm70 : ∀ x ∈ [c70_4], ∀ id, firstReg x = some id → LoopOk Try.prog (0, 0) x (L70 id) := (loops_cons fr70_4 le70_4 (ok70_4 fu) loops_nil)
theorem lp70 : ∀ x ∈ loopsOf c70, ∀ id, firstReg x = some id → LoopOk Try.prog (0, 0) x (L70 id) := loops_eq lq70 lm70
noncomputable def R70 (x : Bool) : Res := ⟨[.one (ab x)], [], []⟩
noncomputable def K70 (r : Res) : Option Bool :=
  match r with
  | ⟨[.one (.val (.bool v1))], [], []⟩ => some (v1)
  | _ => none
noncomputable def E70 : Fun2 := fun args bs rs =>
  match args, bs, rs with
  | [.s1 (.one (.sl 0)), .s1 (.one (.sl 1))], [], [⟨169, (.pair (.int .i64) (.int .i64)), a1, .ro⟩, ⟨169, (.pair (.int .i64) (.int .i64)), a2, .ro⟩] => some ⟨Bool, L.eqTokS a1 a2, R70⟩
  | _, _, _ => none
theorem ev70 (a1 a2 : List (Int × Int)) : evF Try.prog G70 L70 (0, 0) Try.f70 c70 [vl 0, vl 1] [] [⟨169, (.pair (.int .i64) (.int .i64)), a1, .ro⟩, ⟨169, (.pair (.int .i64) (.int .i64)), a2, .ro⟩] K70 = L.eqTokS a1 a2 := by kernel_rfl
theorem good70 : Vm.Good Try.prog 70 E70 := by
  refine evF_good (G := G70) (c := c70) (envCons_good good126 envNil_good) Try.func70 (by kernel_rfl) (by kernel_rfl) (0, 0) (fun args bs rs out t h h2 => ?_)
  unfold E70 at h
  split at h
  · injection h with h
    subst h
    exact ⟨rfl, L70, K70, lp70, (fun r t h => by unfold K70 at h; split at h; (injection h with h; subst h; rfl); cases h), (ev70 _ _).trans h2⟩
  · cases h
/-! ### L.eqWinDef -/
noncomputable def G71 : Env := envNil
noncomputable def c71 : Code := bodyOf Try.f71
noncomputable def L.eqWinDef (a1 a2 a3 a4 a5 a6 : Int) : Option Bool :=
(bif (a1 != a4) then
(some false)
else
(bif (a2 != a5) then
(some false)
else
(bif (a3 != a6) then
(some false)
else
(some true))))
noncomputable def R71 (x : Bool) : Res := ⟨[.one (ab x)], [], []⟩
noncomputable def K71 (r : Res) : Option Bool :=
  match r with
  | ⟨[.one (.val (.bool v1))], [], []⟩ => some (v1)
  | _ => none
noncomputable def E71 : Fun2 := fun args bs rs =>
  match args, bs, rs with
  | [.s1 (.agg [.val (.int .i64 a1), .val (.int .i64 a2), .val (.int .i64 a3)]), .s1 (.agg [.val (.int .i64 a4), .val (.int .i64 a5), .val (.int .i64 a6)])], [], [] => some ⟨Bool, L.eqWinDef a1 a2 a3 a4 a5 a6, R71⟩
  | _, _, _ => none
theorem ev71 (a1 a2 a3 a4 a5 a6 : Int) : evF Try.prog G71 loopNil (0, 0) Try.f71 c71 [.s1 (.agg [ai a1, ai a2, ai a3]), .s1 (.agg [ai a4, ai a5, ai a6])] [] [] K71 = L.eqWinDef a1 a2 a3 a4 a5 a6 := by kernel_rfl
theorem good71 : Vm.Good Try.prog 71 E71 := by
  refine evF_good (G := G71) (c := c71) envNil_good Try.func71 (by kernel_rfl) (by kernel_rfl) (0, 0) (fun args bs rs out t h h2 => ?_)
  unfold E71 at h
  split at h
  · injection h with h
    subst h
    exact ⟨rfl, loopNil, K71, (by intro x hx; simp [show loopsOf c71 = [] from by kernel_rfl] at hx), (fun r t h => by unfold K71 at h; split at h; (injection h with h; subst h; rfl); cases h), (ev71 _ _ _ _ _ _).trans h2⟩
  · cases h
/-! ### L.eqQuery -/
noncomputable def G17 : Env := (envCons 70 [] E70 (envCons 71 [] E71 envNil))
noncomputable def c17 : Code := bodyOf Try.f17
noncomputable def L.eqQuery (a1 a2 a3 a4 a5 a6 a7 a8 a9 a10 : Int) (a11 a12 a13 a14 : List (Int × Int)) : Option Bool :=
(Option.bind (L.eqTokS a11 a13) fun r15 =>
(bif (!r15) then
(some false)
else
(Option.bind (L.eqTokS a12 a14) fun r16 =>
(bif (!r16) then
(some false)
else
(Option.bind (L.eqWinDef a1 a2 a3 a6 a7 a8) fun r17 =>
(bif (!r17) then
(some false)
else
(bif (a4 != a9) then
(some false)
else
(bif (a5 != a10) then
(some false)
else
(some true)))))))))
noncomputable def R17 (x : Bool) : Res := ⟨[.one (ab x)], [], []⟩
noncomputable def K17 (r : Res) : Option Bool :=
  match r with
  | ⟨[.one (.val (.bool v1))], [], []⟩ => some (v1)
  | _ => none
noncomputable def E17 : Fun2 := fun args bs rs =>
  match args, bs, rs with
  | [.s1 (.agg [.sl 0, .sl 1, .val (.int .i64 a1), .val (.int .i64 a2), .val (.int .i64 a3), .val (.int .i64 a4), .val (.int .i64 a5)]), .s1 (.agg [.sl 2, .sl 3, .val (.int .i64 a6), .val (.int .i64 a7), .val (.int .i64 a8), .val (.int .i64 a9), .val (.int .i64 a10)])], [], [⟨169, (.pair (.int .i64) (.int .i64)), a11, .ro⟩, ⟨169, (.pair (.int .i64) (.int .i64)), a12, .ro⟩, ⟨169, (.pair (.int .i64) (.int .i64)), a13, .ro⟩, ⟨169, (.pair (.int .i64) (.int .i64)), a14, .ro⟩] => some ⟨Bool, L.eqQuery a1 a2 a3 a4 a5 a6 a7 a8 a9 a10 a11 a12 a13 a14, R17⟩
  | _, _, _ => none
theorem ev17 (a1 a2 a3 a4 a5 a6 a7 a8 a9 a10 : Int) (a11 a12 a13 a14 : List (Int × Int)) : evF Try.prog G17 loopNil (0, 0) Try.f17 c17 [.s1 (.agg [.sl 0, .sl 1, ai a1, ai a2, ai a3, ai a4, ai a5]), .s1 (.agg [.sl 2, .sl 3, ai a6, ai a7, ai a8, ai a9, ai a10])] [] [⟨169, (.pair (.int .i64) (.int .i64)), a11, .ro⟩, ⟨169, (.pair (.int .i64) (.int .i64)), a12, .ro⟩, ⟨169, (.pair (.int .i64) (.int .i64)), a13, .ro⟩, ⟨169, (.pair (.int .i64) (.int .i64)), a14, .ro⟩] K17 = L.eqQuery a1 a2 a3 a4 a5 a6 a7 a8 a9 a10 a11 a12 a13 a14 := by kernel_rfl
theorem good17 : Vm.Good Try.prog 17 E17 := by
  refine evF_good (G := G17) (c := c17) (envCons_good good70 (envCons_good good71 envNil_good)) Try.func17 (by kernel_rfl) (by kernel_rfl) (0, 0) (fun args bs rs out t h h2 => ?_)
  unfold E17 at h
  split at h
  · injection h with h
    subst h
    exact ⟨rfl, loopNil, K17, (by intro x hx; simp [show loopsOf c17 = [] from by kernel_rfl] at hx), (fun r t h => by unfold K17 at h; split at h; (injection h with h; subst h; rfl); cases h), (ev17 _ _ _ _ _ _ _ _ _ _ _ _ _ _).trans h2⟩
  · cases h
/-! ### L.FnExactQueryOk -/
noncomputable def G3 : Env := (envCons 13 [] E13 (envCons 15 [] E15 (envCons 14 [] E14 (envCons 16 [] E16 (envCons 17 [] E17 envNil)))))
noncomputable def c3 : Code := bodyOf Try.f3
noncomputable def L.FnExactQueryOk (a1 a2 a3 a4 a5 : Int) (a6 a7 : List (Int × Int)) : Option Bool :=
(Option.bind (L.szQuery a1 a2 a3 a4 a5 1048576 a6 a7) fun r8 =>
(bif (decide (r8 < 0)) then
(some true)
else
(Option.bind (L.toQuery a1 a2 a3 a4 a5 a6 a7) fun r10 =>
(Option.bind (S.QueryOk r10.1 r10.2.1 r10.2.2.1 r10.2.2.2.1 r10.2.2.2.2.1 r10.2.2.2.2.2.1 r10.2.2.2.2.2.2) fun r11 =>
(Option.bind (L.toQuery a1 a2 a3 a4 a5 a6 a7) fun r12 =>
(Option.bind (I.QueryOk r12.1 r12.2.1 r12.2.2.1 r12.2.2.2.1 r12.2.2.2.2.1 r12.2.2.2.2.2.1 r12.2.2.2.2.2.2) fun r13 =>
(bif (!(r13 == r11)) then
(some false)
else
(Option.bind (L.toQuery a1 a2 a3 a4 a5 a6 a7) fun r15 =>
(Option.bind (L.eqQuery r12.1 r12.2.1 r12.2.2.1 r12.2.2.2.1 r12.2.2.2.2.1 r15.1 r15.2.1 r15.2.2.1 r15.2.2.2.1 r15.2.2.2.2.1 r12.2.2.2.2.2.1 r12.2.2.2.2.2.2 r15.2.2.2.2.2.1 r15.2.2.2.2.2.2) fun r16 =>
(bif (!r16) then
(some false)
else
(some true)))))))))))
noncomputable def R3 (x : Bool) : Res := ⟨[.one (ab x)], [], []⟩
noncomputable def K3 (r : Res) : Option Bool :=
  match r with
  | ⟨[.one (.val (.bool v1))], [], []⟩ => some (v1)
  | _ => none
noncomputable def E3 : Fun2 := fun args bs rs =>
  match args, bs, rs with
  | [.s1 (.agg [.sl 0, .sl 1, .val (.int .i64 a1), .val (.int .i64 a2), .val (.int .i64 a3), .val (.int .i64 a4), .val (.int .i64 a5)])], [], [⟨171, (.pair (.int .i64) (.int .i64)), a6, .ro⟩, ⟨171, (.pair (.int .i64) (.int .i64)), a7, .ro⟩] => some ⟨Bool, L.FnExactQueryOk a1 a2 a3 a4 a5 a6 a7, R3⟩
  | _, _, _ => none
theorem ev3 (a1 a2 a3 a4 a5 : Int) (a6 a7 : List (Int × Int)) : evF Try.prog G3 loopNil (0, 0) Try.f3 c3 [.s1 (.agg [.sl 0, .sl 1, ai a1, ai a2, ai a3, ai a4, ai a5])] [] [⟨171, (.pair (.int .i64) (.int .i64)), a6, .ro⟩, ⟨171, (.pair (.int .i64) (.int .i64)), a7, .ro⟩] K3 = L.FnExactQueryOk a1 a2 a3 a4 a5 a6 a7 := by kernel_rfl
theorem good3 : Vm.Good Try.prog 3 E3 := by
  refine evF_good (G := G3) (c := c3) (envCons_good good13 (envCons_good good15 (envCons_good good14 (envCons_good good16 (envCons_good good17 envNil_good))))) Try.func3 (by kernel_rfl) (by kernel_rfl) (0, 0) (fun args bs rs out t h h2 => ?_)
  unfold E3 at h
  split at h
  · injection h with h
    subst h
    exact ⟨rfl, loopNil, K3, (by intro x hx; simp [show loopsOf c3 = [] from by kernel_rfl] at hx), (fun r t h => by unfold K3 at h; split at h; (injection h with h; subst h; rfl); cases h), (ev3 _ _ _ _ _ _ _).trans h2⟩
  · cases h
end Go.Proofs.Ytflagchmcnfigaa.Run
