import Derived.Test.YtflagchmcnfigaaVmU
import Derived.Test.YtflagchmcnfigaaProg
namespace Go.Proofs.Ytflagchmcnfigaa.Run
open Go Go.RowKit Go.Proofs.YtflagchmcnfigaaW.PrintWords Go.Proofs.Ytflagchmcnfigaa.Vm
set_option linter.unusedVariables false
set_option maxRecDepth 100000

/-! ### L.szTokS -/
noncomputable def G63 : Env := envNil
noncomputable def c63 : Code := bodyOf Try.f63
noncomputable def L.szTokS (a1 : Int) (a2 : List (Int × Int)) : Option Int :=
(let v4 : Int := (IntKind.wrap .i64 (a1 - (a2.length : Int)))
(bif (decide (v4 < 0)) then
(some (-1))
else
(some v4)))
noncomputable def R63 (x : Int) : Res := ⟨[.one (ai x)], [], []⟩
noncomputable def K63 (r : Res) : Option Int :=
  match r with
  | ⟨[.one (.val (.int .i64 v1))], [], []⟩ => some (v1)
  | _ => none
noncomputable def E63 : Fun2 := fun args bs rs =>
  match args, bs, rs with
  | [.s1 (.one (.sl 0)), .s1 (.one (.val (.int .i64 a1)))], [], [⟨171, (.pair (.int .i64) (.int .i64)), a2, .ro⟩] => some ⟨Int, L.szTokS a1 a2, R63⟩
  | _, _, _ => none
theorem ev63 (a1 : Int) (a2 : List (Int × Int)) : evF Try.prog G63 loopNil (0, 0) Try.f63 c63 [vl 0, vi a1] [] [⟨171, (.pair (.int .i64) (.int .i64)), a2, .ro⟩] K63 = L.szTokS a1 a2 := by kernel_rfl
theorem good63 : Vm.Good Try.prog 63 E63 := by
  refine evF_good (G := G63) (c := c63) envNil_good Try.func63 (by kernel_rfl) (by kernel_rfl) (0, 0) (fun args bs rs out t h h2 => ?_)
  unfold E63 at h
  split at h
  · injection h with h
    subst h
    exact ⟨rfl, loopNil, K63, (by intro x hx; simp [show loopsOf c63 = [] from by kernel_rfl] at hx), (fun r t h => by unfold K63 at h; split at h; (injection h with h; subst h; rfl); cases h), (ev63 _ _).trans h2⟩
  · cases h
/-! ### L.szQuery -/
noncomputable def G13 : Env := (envCons 63 [] E63 envNil)
noncomputable def c13 : Code := bodyOf Try.f13
noncomputable def L.szQuery (a1 a2 a3 a4 a5 a6 : Int) (a7 a8 : List (Int × Int)) : Option Int :=
(Option.bind (L.szTokS a6 a7) fun r9 =>
(bif (decide (r9 < 0)) then
(some (-1))
else
(Option.bind (L.szTokS r9 a8) fun r11 =>
(bif (decide (r11 < 0)) then
(some (-1))
else
(some r11)))))
noncomputable def R13 (x : Int) : Res := ⟨[.one (ai x)], [], []⟩
noncomputable def K13 (r : Res) : Option Int :=
  match r with
  | ⟨[.one (.val (.int .i64 v1))], [], []⟩ => some (v1)
  | _ => none
noncomputable def E13 : Fun2 := fun args bs rs =>
  match args, bs, rs with
  | [.s1 (.agg [.sl 0, .sl 1, .val (.int .i64 a1), .val (.int .i64 a2), .val (.int .i64 a3), .val (.int .i64 a4), .val (.int .i64 a5)]), .s1 (.one (.val (.int .i64 a6)))], [], [⟨171, (.pair (.int .i64) (.int .i64)), a7, .ro⟩, ⟨171, (.pair (.int .i64) (.int .i64)), a8, .ro⟩] => some ⟨Int, L.szQuery a1 a2 a3 a4 a5 a6 a7 a8, R13⟩
  | _, _, _ => none
theorem ev13 (a1 a2 a3 a4 a5 a6 : Int) (a7 a8 : List (Int × Int)) : evF Try.prog G13 loopNil (0, 0) Try.f13 c13 [.s1 (.agg [.sl 0, .sl 1, ai a1, ai a2, ai a3, ai a4, ai a5]), vi a6] [] [⟨171, (.pair (.int .i64) (.int .i64)), a7, .ro⟩, ⟨171, (.pair (.int .i64) (.int .i64)), a8, .ro⟩] K13 = L.szQuery a1 a2 a3 a4 a5 a6 a7 a8 := by kernel_rfl
theorem good13 : Vm.Good Try.prog 13 E13 := by
  refine evF_good (G := G13) (c := c13) (envCons_good good63 envNil_good) Try.func13 (by kernel_rfl) (by kernel_rfl) (0, 0) (fun args bs rs out t h h2 => ?_)
  unfold E13 at h
  split at h
  · injection h with h
    subst h
    exact ⟨rfl, loopNil, K13, (by intro x hx; simp [show loopsOf c13 = [] from by kernel_rfl] at hx), (fun r t h => by unfold K13 at h; split at h; (injection h with h; subst h; rfl); cases h), (ev13 _ _ _ _ _ _ _ _).trans h2⟩
  · cases h
/-! ### L.toTok -/
noncomputable def G122 : Env := envNil
noncomputable def c122 : Code := bodyOf Try.f122
noncomputable def L.toTok (a1 a2 : Int) : Option (Int × Int) :=
(some (a1, a2))
noncomputable def R122 (x : Int × Int) : Res := ⟨[.agg [ai x.1, ai x.2]], [], []⟩
noncomputable def K122 (r : Res) : Option (Int × Int) :=
  match r with
  | ⟨[.agg [.val (.int .i64 v1), .val (.int .i64 v2)]], [], []⟩ => some (v1, v2)
  | _ => none
noncomputable def E122 : Fun2 := fun args bs rs =>
  match args, bs, rs with
  | [.s1 (.agg [.val (.int .i64 a1), .val (.int .i64 a2)])], [], [] => some ⟨Int × Int, L.toTok a1 a2, R122⟩
  | _, _, _ => none
theorem ev122 (a1 a2 : Int) : evF Try.prog G122 loopNil (0, 0) Try.f122 c122 [.s1 (.agg [ai a1, ai a2])] [] [] K122 = L.toTok a1 a2 := by kernel_rfl
theorem good122 : Vm.Good Try.prog 122 E122 := by
  refine evF_good (G := G122) (c := c122) envNil_good Try.func122 (by kernel_rfl) (by kernel_rfl) (0, 0) (fun args bs rs out t h h2 => ?_)
  unfold E122 at h
  split at h
  · injection h with h
    subst h
    exact ⟨rfl, loopNil, K122, (by intro x hx; simp [show loopsOf c122 = [] from by kernel_rfl] at hx), (fun r t h => by unfold K122 at h; split at h; (injection h with h; subst h; rfl); cases h), (ev122 _ _).trans h2⟩
  · cases h
/-! ### L.toTokS -/
noncomputable def G67 : Env := (envCons 122 [] E122 envNil)
noncomputable def c67 : Code := bodyOf Try.f67
noncomputable def c67_3 : Code := (loopsOf c67).getD 0 .skip
noncomputable def L.toTokS_l0 : Nat → ((List (Int × Int)) → Option ((List (Int × Int)))) → Int → (List (Int × Int)) → (List (Int × Int)) → Option ((List (Int × Int)))
  | 0, _, _, _, _ => none
  | m + 1, e3_0, a4, a5, a6 =>
    (bif (decide (a4 < (a5.length : Int))) then
    (bif decide ((0 : Int) ≤ a4 ∧ a4 < (a5.length : Int)) then
    (Option.bind (L.toTok ((nthI a5 a4 ((0 : Int), (0 : Int))).1) ((nthI a5 a4 ((0 : Int), (0 : Int))).2)) fun r9 =>
    (bif decide ((0 : Int) ≤ a4 ∧ a4 < (a6.length : Int)) then
    (L.toTokS_l0 m e3_0 (IntKind.wrap .i64 (a4 + 1)) a5 (a6.set (Int.toNat a4) (r9.1, r9.2)))
    else
    none))
    else
    none)
    else
    (e3_0 a6))
noncomputable def L.toTokS (a1 : List (Int × Int)) : Option ((List (Int × Int))) :=
(let v2 : Int := (a1.length : Int)
(bif decide ((0 : Int) ≤ v2 ∧ v2 ≤ v2 ∧ (16 : Int) * v2 ≤ 281474976710656 ∧ v2 ≤ 9223372036854775807) then
(L.toTokS_l0 fu (fun y12 =>
(some y12)) 0 a1 (List.replicate (Int.toNat v2) (0, 0)))
else
none))
noncomputable def H67_3 : LoopH := ⟨⟨((.one (.sl 0)) :: (hu 2 ((.one (.sl 1)) :: hh :: (hu 18 [])))), [], [(171, (.pair (.int .i64) (.int .i64)), .ro), (169, (.pair (.int .i64) (.int .i64)), .own)]⟩, [1, 2, 5, 6, 7, 8, 9, 10, 11, 12, 13, 14, 15, 16, 17, 18, 19, 20, 21, 22], [], [0, 1, 4, 5, 6, 7, 8, 9, 10, 11, 12, 13, 14, 15, 16, 17, 18, 19, 20, 21, 22]⟩
noncomputable def E67_3 (m : Nat) (ps : List Prm) (k : Kont ((List (Int × Int)))) : Option ((List (Int × Int))) :=
  match ps with
  | [.v (.int .i64 a4), .row (.pair (.int .i64) (.int .i64)) a5, .row (.pair (.int .i64) (.int .i64)) a6] => L.toTokS_l0 m (fun z14 => k (.exit 0) (⟨(vu 3 ((vl 0) :: (vu 19 []))), [], [⟨169, (.pair (.int .i64) (.int .i64)), z14, .own⟩]⟩ : St)) a4 a5 a6
  | _ => none
noncomputable def S67_3 (a4 : Int) (a5 a6 : List (Int × Int)) : St := (⟨((vl 0) :: (vu 2 ((vl 1) :: (vi a4) :: (vu 18 [])))), [], [⟨171, (.pair (.int .i64) (.int .i64)), a5, .ro⟩, ⟨169, (.pair (.int .i64) (.int .i64)), a6, .own⟩]⟩ : St)
theorem ev67_3 (m : Nat) (k : Kont ((List (Int × Int)))) (a4 : Int) (a5 a6 : List (Int × Int)) : evC Try.prog G67 loopNil c67_3 (S67_3 a4 a5 a6) (turn Try.prog (0, 0) H67_3 (E67_3 m) k) = E67_3 (m + 1) [.v (.int .i64 a4), .row (.pair (.int .i64) (.int .i64)) a5, .row (.pair (.int .i64) (.int .i64)) a6] k := by kernel_rfl
theorem ok67_3 (m : Nat) : LoopOk Try.prog (0, 0) c67_3 (enter Try.prog (0, 0) H67_3 (E67_3 m)) := by
  refine loop_ok (G := G67) (L := loopNil) (envCons_good good122 envNil_good) (by intro x hx; simp [show loopsOf c67_3 = [] from by kernel_rfl] at hx) (fun ps k => by unfold E67_3; split <;> rfl) (fun m ps k r h => ?_) m
  have h0 := h
  unfold E67_3 at h
  split at h
  · exact ⟨S67_3 _ _ _, by kernel_rfl, (ev67_3 m k _ _ _).trans h0⟩
  · cases h
noncomputable def L67 : LEnv ((List (Int × Int))) := (loopCons 3 (enter Try.prog (0, 0) H67_3 (E67_3 fu)) loopNil)
theorem lq67 : loopsOf c67 = [c67_3] := by kernel_rfl
theorem fr67_3 : firstReg c67_3 = some 3 := by kernel_rfl
theorem le67_3 : L67 3 = enter Try.prog (0, 0) H67_3 (E67_3 fu) := by kernel_rfl
theorem lm67 : ∀ x ∈ [c67_3], ∀ id, firstReg x = some id → LoopOk Try.prog (0, 0) x (L67 id) := (loops_cons fr67_3 le67_3 (ok67_3 fu) loops_nil)
theorem lp67 : ∀ x ∈ loopsOf c67, ∀ id, firstReg x = some id → LoopOk Try.prog (0, 0) x (L67 id) := loops_eq lq67 lm67
noncomputable def R67 (x : (List (Int × Int))) : Res := ⟨[.one (.sl 0)], [], [⟨169, (.pair (.int .i64) (.int .i64)), x, .own⟩]⟩
noncomputable def K67 (r : Res) : Option ((List (Int × Int))) :=
  match r with
  | ⟨[.one (.sl 0)], [], [⟨169, (.pair (.int .i64) (.int .i64)), v1, .own⟩]⟩ => some (v1)
  | _ => none
noncomputable def E67 : Fun2 := fun args bs rs =>
  match args, bs, rs with
  | [.s1 (.one (.sl 0))], [], [⟨171, (.pair (.int .i64) (.int .i64)), a1, .ro⟩] => some ⟨(List (Int × Int)), L.toTokS a1, R67⟩
  | _, _, _ => none
theorem ev67 (a1 : List (Int × Int)) : evF Try.prog G67 L67 (0, 0) Try.f67 c67 [vl 0] [] [⟨171, (.pair (.int .i64) (.int .i64)), a1, .ro⟩] K67 = L.toTokS a1 := by kernel_rfl
theorem good67 : Vm.Good Try.prog 67 E67 := by
  refine evF_good (G := G67) (c := c67) (envCons_good good122 envNil_good) Try.func67 (by kernel_rfl) (by kernel_rfl) (0, 0) (fun args bs rs out t h h2 => ?_)
  unfold E67 at h
  split at h
  · injection h with h
    subst h
    exact ⟨rfl, L67, K67, lp67, (fun r t h => by unfold K67 at h; split at h; (injection h with h; subst h; rfl); cases h), (ev67 _).trans h2⟩
  · cases h
/-! ### L.toWinDef -/
noncomputable def G68 : Env := envNil
noncomputable def c68 : Code := bodyOf Try.f68
noncomputable def L.toWinDef (a1 a2 a3 : Int) : Option (Int × Int × Int) :=
(some (a1, a2, a3))
noncomputable def R68 (x : Int × Int × Int) : Res := ⟨[.agg [ai x.1, ai x.2.1, ai x.2.2]], [], []⟩
noncomputable def K68 (r : Res) : Option (Int × Int × Int) :=
  match r with
  | ⟨[.agg [.val (.int .i64 v1), .val (.int .i64 v2), .val (.int .i64 v3)]], [], []⟩ => some (v1, v2, v3)
  | _ => none
noncomputable def E68 : Fun2 := fun args bs rs =>
  match args, bs, rs with
  | [.s1 (.agg [.val (.int .i64 a1), .val (.int .i64 a2), .val (.int .i64 a3)])], [], [] => some ⟨Int × Int × Int, L.toWinDef a1 a2 a3, R68⟩
  | _, _, _ => none
theorem ev68 (a1 a2 a3 : Int) : evF Try.prog G68 loopNil (0, 0) Try.f68 c68 [.s1 (.agg [ai a1, ai a2, ai a3])] [] [] K68 = L.toWinDef a1 a2 a3 := by kernel_rfl
theorem good68 : Vm.Good Try.prog 68 E68 := by
  refine evF_good (G := G68) (c := c68) envNil_good Try.func68 (by kernel_rfl) (by kernel_rfl) (0, 0) (fun args bs rs out t h h2 => ?_)
  unfold E68 at h
  split at h
  · injection h with h
    subst h
    exact ⟨rfl, loopNil, K68, (by intro x hx; simp [show loopsOf c68 = [] from by kernel_rfl] at hx), (fun r t h => by unfold K68 at h; split at h; (injection h with h; subst h; rfl); cases h), (ev68 _ _ _).trans h2⟩
  · cases h
/-! ### L.toQuery -/
noncomputable def G15 : Env := (envCons 67 [] E67 (envCons 68 [] E68 envNil))
noncomputable def c15 : Code := bodyOf Try.f15
noncomputable def L.toQuery (a1 a2 a3 a4 a5 : Int) (a6 a7 : List (Int × Int)) : Option (Int × Int × Int × Int × Int × (List (Int × Int)) × (List (Int × Int))) :=
(Option.bind (L.toTokS a6) fun r8 =>
(Option.bind (L.toTokS a7) fun r9 =>
(Option.bind (L.toWinDef a1 a2 a3) fun r10 =>
(some (r10.1, r10.2.1, r10.2.2, a4, a5, r8, r9)))))
noncomputable def R15 (x : Int × Int × Int × Int × Int × (List (Int × Int)) × (List (Int × Int))) : Res := ⟨[.agg [.sl 0, .sl 1, ai x.1, ai x.2.1, ai x.2.2.1, ai x.2.2.2.1, ai x.2.2.2.2.1]], [], [⟨169, (.pair (.int .i64) (.int .i64)), x.2.2.2.2.2.1, .own⟩, ⟨169, (.pair (.int .i64) (.int .i64)), x.2.2.2.2.2.2, .own⟩]⟩
noncomputable def K15 (r : Res) : Option (Int × Int × Int × Int × Int × (List (Int × Int)) × (List (Int × Int))) :=
  match r with
  | ⟨[.agg [.sl 0, .sl 1, .val (.int .i64 v1), .val (.int .i64 v2), .val (.int .i64 v3), .val (.int .i64 v4), .val (.int .i64 v5)]], [], [⟨169, (.pair (.int .i64) (.int .i64)), v6, .own⟩, ⟨169, (.pair (.int .i64) (.int .i64)), v7, .own⟩]⟩ => some (v1, v2, v3, v4, v5, v6, v7)
  | _ => none
noncomputable def E15 : Fun2 := fun args bs rs =>
  match args, bs, rs with
  | [.s1 (.agg [.sl 0, .sl 1, .val (.int .i64 a1), .val (.int .i64 a2), .val (.int .i64 a3), .val (.int .i64 a4), .val (.int .i64 a5)])], [], [⟨171, (.pair (.int .i64) (.int .i64)), a6, .ro⟩, ⟨171, (.pair (.int .i64) (.int .i64)), a7, .ro⟩] => some ⟨Int × Int × Int × Int × Int × (List (Int × Int)) × (List (Int × Int)), L.toQuery a1 a2 a3 a4 a5 a6 a7, R15⟩
  | _, _, _ => none
theorem ev15 (a1 a2 a3 a4 a5 : Int) (a6 a7 : List (Int × Int)) : evF Try.prog G15 loopNil (0, 0) Try.f15 c15 [.s1 (.agg [.sl 0, .sl 1, ai a1, ai a2, ai a3, ai a4, ai a5])] [] [⟨171, (.pair (.int .i64) (.int .i64)), a6, .ro⟩, ⟨171, (.pair (.int .i64) (.int .i64)), a7, .ro⟩] K15 = L.toQuery a1 a2 a3 a4 a5 a6 a7 := by kernel_rfl
theorem good15 : Vm.Good Try.prog 15 E15 := by
  refine evF_good (G := G15) (c := c15) (envCons_good good67 (envCons_good good68 envNil_good)) Try.func15 (by kernel_rfl) (by kernel_rfl) (0, 0) (fun args bs rs out t h h2 => ?_)
  unfold E15 at h
  split at h
  · injection h with h
    subst h
    exact ⟨rfl, loopNil, K15, (by intro x hx; simp [show loopsOf c15 = [] from by kernel_rfl] at hx), (fun r t h => by unfold K15 at h; split at h; (injection h with h; subst h; rfl); cases h), (ev15 _ _ _ _ _ _ _).trans h2⟩
  · cases h
/-! ### L.toElem -/
noncomputable def G61 : Env := envNil
noncomputable def c61 : Code := bodyOf Try.f61
noncomputable def L.toElem (a1 a2 a3 a4 : Int) : Option (Int × Int × Int × Int) :=
(some (a1, a2, a3, a4))
noncomputable def R61 (x : Int × Int × Int × Int) : Res := ⟨[.agg [ai x.1, ai x.2.1, ai x.2.2.1, ai x.2.2.2]], [], []⟩
noncomputable def K61 (r : Res) : Option (Int × Int × Int × Int) :=
  match r with
  | ⟨[.agg [.val (.int .i64 v1), .val (.int .i64 v2), .val (.int .i64 v3), .val (.int .i64 v4)]], [], []⟩ => some (v1, v2, v3, v4)
  | _ => none
noncomputable def E61 : Fun2 := fun args bs rs =>
  match args, bs, rs with
  | [.s1 (.agg [.val (.int .i64 a1), .val (.int .i64 a2), .val (.int .i64 a3), .val (.int .i64 a4)])], [], [] => some ⟨Int × Int × Int × Int, L.toElem a1 a2 a3 a4, R61⟩
  | _, _, _ => none
theorem ev61 (a1 a2 a3 a4 : Int) : evF Try.prog G61 loopNil (0, 0) Try.f61 c61 [.s1 (.agg [ai a1, ai a2, ai a3, ai a4])] [] [] K61 = L.toElem a1 a2 a3 a4 := by kernel_rfl
theorem good61 : Vm.Good Try.prog 61 E61 := by
  refine evF_good (G := G61) (c := c61) envNil_good Try.func61 (by kernel_rfl) (by kernel_rfl) (0, 0) (fun args bs rs out t h h2 => ?_)
  unfold E61 at h
  split at h
  · injection h with h
    subst h
    exact ⟨rfl, loopNil, K61, (by intro x hx; simp [show loopsOf c61 = [] from by kernel_rfl] at hx), (fun r t h => by unfold K61 at h; split at h; (injection h with h; subst h; rfl); cases h), (ev61 _ _ _ _).trans h2⟩
  · cases h
/-! ### S.l03Takes -/
noncomputable def G173 : Env := envNil
noncomputable def c173 : Code := bodyOf Try.f173
noncomputable def S.l03Takes (a1 : Int) : Option Int :=
(bif (decide (a1 ≤ 3)) then
(some 0)
else
(bif (a1 == 11) then
(some 1)
else
(some 2)))
noncomputable def R173 (x : Int) : Res := ⟨[.one (ai x)], [], []⟩
noncomputable def K173 (r : Res) : Option Int :=
  match r with
  | ⟨[.one (.val (.int .i64 v1))], [], []⟩ => some (v1)
  | _ => none
noncomputable def E173 : Fun2 := fun args bs rs =>
  match args, bs, rs with
  | [.s1 (.one (.val (.int .i64 a1)))], [], [] => some ⟨Int, S.l03Takes a1, R173⟩
  | _, _, _ => none
theorem ev173 (a1 : Int) : evF Try.prog G173 loopNil (0, 0) Try.f173 c173 [vi a1] [] [] K173 = S.l03Takes a1 := by kernel_rfl
theorem good173 : Vm.Good Try.prog 173 E173 := by
  refine evF_good (G := G173) (c := c173) envNil_good Try.func173 (by kernel_rfl) (by kernel_rfl) (0, 0) (fun args bs rs out t h h2 => ?_)
  unfold E173 at h
  split at h
  · injection h with h
    subst h
    exact ⟨rfl, loopNil, K173, (by intro x hx; simp [show loopsOf c173 = [] from by kernel_rfl] at hx), (fun r t h => by unfold K173 at h; split at h; (injection h with h; subst h; rfl); cases h), (ev173 _).trans h2⟩
  · cases h
/-! ### S.l03Depth -/
noncomputable def G121 : Env := (envCons 173 [] E173 envNil)
noncomputable def c121 : Code := bodyOf Try.f121
noncomputable def c121_6 : Code := (loopsOf c121).getD 0 .skip
noncomputable def S.l03Depth_l0 : Nat → (Int → Int → Int → Option Int) → (Int → Int → Option Int) → Int → Int → Int → (List (Int × Int)) → Option Int
  | 0, _, _, _, _, _, _ => none
  | m + 1, e6_0, e6_1, a6, a7, a8, a9 =>
    (bif (decide (a8 < (a9.length : Int))) then
    (bif decide ((0 : Int) ≤ a8 ∧ a8 < (a9.length : Int)) then
    (bif (decide ((nthI a9 a8 ((0 : Int), (0 : Int))).1 < 0)) then
    (e6_0 (-1) a6 a7)
    else
    (bif decide ((0 : Int) ≤ a8 ∧ a8 < (a9.length : Int)) then
    (bif (decide (11 < (nthI a9 a8 ((0 : Int), (0 : Int))).1)) then
    (e6_0 (-1) a6 a7)
    else
    (bif decide ((0 : Int) ≤ a8 ∧ a8 < (a9.length : Int)) then
    (bif ((nthI a9 a8 ((0 : Int), (0 : Int))).1 != 0) then
    (bif decide ((0 : Int) ≤ a8 ∧ a8 < (a9.length : Int)) then
    (bif ((nthI a9 a8 ((0 : Int), (0 : Int))).2 != 0) then
    (e6_0 (-1) a6 a7)
    else
    (bif decide ((0 : Int) ≤ a8 ∧ a8 < (a9.length : Int)) then
    (Option.bind (S.l03Takes ((nthI a9 a8 ((0 : Int), (0 : Int))).1)) fun r16 =>
    (bif (decide (a6 < r16)) then
    (e6_0 (-1) a6 a7)
    else
    (bif decide ((0 : Int) ≤ a8 ∧ a8 < (a9.length : Int)) then
    (Option.bind (S.l03Takes ((nthI a9 a8 ((0 : Int), (0 : Int))).1)) fun r18 =>
    (let v20 : Int := (IntKind.wrap .i64 ((IntKind.wrap .i64 (a6 - r18)) + 1))
    (S.l03Depth_l0 m e6_0 e6_1 v20 (if v20 > a7 then v20 else a7) (IntKind.wrap .i64 (a8 + 1)) a9)))
    else
    none)))
    else
    none))
    else
    none)
    else
    (bif decide ((0 : Int) ≤ a8 ∧ a8 < (a9.length : Int)) then
    (Option.bind (S.l03Takes ((nthI a9 a8 ((0 : Int), (0 : Int))).1)) fun r23 =>
    (bif (decide (a6 < r23)) then
    (e6_0 (-1) a6 a7)
    else
    (bif decide ((0 : Int) ≤ a8 ∧ a8 < (a9.length : Int)) then
    (Option.bind (S.l03Takes ((nthI a9 a8 ((0 : Int), (0 : Int))).1)) fun r25 =>
    (let v27 : Int := (IntKind.wrap .i64 ((IntKind.wrap .i64 (a6 - r25)) + 1))
    (S.l03Depth_l0 m e6_0 e6_1 v27 (if v27 > a7 then v27 else a7) (IntKind.wrap .i64 (a8 + 1)) a9)))
    else
    none)))
    else
    none))
    else
    none))
    else
    none))
    else
    none)
    else
    (e6_1 a6 a7))
noncomputable def S.l03Depth (a1 : List (Int × Int)) : Option Int :=
(bif (decide ((a1.length : Int) < 1)) then
(some (-1))
else
(bif (decide (20 < (a1.length : Int))) then
(some (-1))
else
(S.l03Depth_l0 fu (fun y30 y31 y32 =>
(some y30)) (fun y33 y34 =>
(bif (y33 != 1) then
(some (-1))
else
(some y34))) 0 0 0 a1)))
noncomputable def H121_6 : LoopH := ⟨⟨((.one (.sl 0)) :: (hu 2 (hh :: hh :: hh :: (hu 69 [])))), [], [(169, (.pair (.int .i64) (.int .i64)), .ro)]⟩, [1, 2, 6, 7, 8, 9, 10, 11, 12, 13, 14, 15, 16, 17, 18, 19, 20, 21, 22, 23, 24, 25, 26, 27, 28, 29, 30, 31, 32, 33, 34, 35, 36, 37, 38, 39, 40, 41, 42, 43, 44, 45, 46, 47, 48, 49, 50, 51, 52, 53, 54, 55, 56, 57, 58, 59, 60, 61, 62, 63, 64, 65, 66, 67, 68, 69, 70, 71, 72, 73, 74], [], [0, 1, 5, 6, 7, 8, 9, 10, 11, 12, 13, 14, 15, 16, 17, 18, 19, 20, 21, 22, 23, 24, 25, 26, 27, 28, 29, 30, 31, 32, 33, 34, 35, 36, 37, 38, 39, 40, 41, 42, 43, 44, 45, 46, 47, 48, 49, 50, 51, 52, 53, 54, 55, 56, 57, 58, 59, 60, 61, 62, 63, 64, 65, 66, 67, 68, 69, 70, 71, 72, 73, 74]⟩
noncomputable def E121_6 (m : Nat) (ps : List Prm) (k : Kont Int) : Option Int :=
  match ps with
  | [.v (.int .i64 a6), .v (.int .i64 a7), .v (.int .i64 a8), .row (.pair (.int .i64) (.int .i64)) a9] => S.l03Depth_l0 m (fun z40 z41 z42 => k .ret (⟨(vu 2 ((vi z40) :: (vi z41) :: (vi z42) :: (vu 70 []))), [], []⟩ : St)) (fun z43 z44 => k (.exit 0) (⟨(vu 3 ((vi z43) :: (vi z44) :: (vu 70 []))), [], []⟩ : St)) a6 a7 a8 a9
  | _ => none
noncomputable def S121_6 (a6 a7 a8 : Int) (a9 : List (Int × Int)) : St := (⟨((vl 0) :: (vu 2 ((vi a6) :: (vi a7) :: (vi a8) :: (vu 69 [])))), [], [⟨169, (.pair (.int .i64) (.int .i64)), a9, .ro⟩]⟩ : St)
theorem ev121_6 (m : Nat) (k : Kont Int) (a6 a7 a8 : Int) (a9 : List (Int × Int)) : evC Try.prog G121 loopNil c121_6 (S121_6 a6 a7 a8 a9) (turn Try.prog (0, 0) H121_6 (E121_6 m) k) = E121_6 (m + 1) [.v (.int .i64 a6), .v (.int .i64 a7), .v (.int .i64 a8), .row (.pair (.int .i64) (.int .i64)) a9] k := by kernel_rfl
theorem ok121_6 (m : Nat) : LoopOk Try.prog (0, 0) c121_6 (enter Try.prog (0, 0) H121_6 (E121_6 m)) := by
  refine loop_ok (G := G121) (L := loopNil) (envCons_good good173 envNil_good) (by intro x hx; simp [show loopsOf c121_6 = [] from by kernel_rfl] at hx) (fun ps k => by unfold E121_6; split <;> rfl) (fun m ps k r h => ?_) m
  have h0 := h
  unfold E121_6 at h
  split at h
  · exact ⟨S121_6 _ _ _ _, by kernel_rfl, (ev121_6 m k _ _ _ _).trans h0⟩
  · cases h
noncomputable def L121 : LEnv Int := (loopCons 6 (enter Try.prog (0, 0) H121_6 (E121_6 fu)) loopNil)
theorem lq121 : loopsOf c121 = [c121_6] := by kernel_rfl
theorem fr121_6 : firstReg c121_6 = some 6 := by kernel_rfl
theorem le121_6 : L121 6 = enter Try.prog (0, 0) H121_6 (E121_6 fu) := by kernel_rfl
theorem lm121 : ∀ x ∈ [c121_6], ∀ id, firstReg x = some id → LoopOk Try.prog (0, 0) x (L121 id) := (loops_cons fr121_6 le121_6 (ok121_6 fu) loops_nil)
theorem lp121 : ∀ x ∈ loopsOf c121, ∀ id, firstReg x = some id → LoopOk Try.prog (0, 0) x (L121 id) := loops_eq lq121 lm121
noncomputable def R121 (x : Int) : Res := ⟨[.one (ai x)], [], []⟩
noncomputable def K121 (r : Res) : Option Int :=
  match r with
  | ⟨[.one (.val (.int .i64 v1))], [], []⟩ => some (v1)
  | _ => none
noncomputable def E121 : Fun2 := fun args bs rs =>
  match args, bs, rs with
  | [.s1 (.one (.sl 0))], [], [⟨169, (.pair (.int .i64) (.int .i64)), a1, .ro⟩] => some ⟨Int, S.l03Depth a1, R121⟩
  | _, _, _ => none
theorem ev121 (a1 : List (Int × Int)) : evF Try.prog G121 L121 (0, 0) Try.f121 c121 [vl 0] [] [⟨169, (.pair (.int .i64) (.int .i64)), a1, .ro⟩] K121 = S.l03Depth a1 := by kernel_rfl
theorem good121 : Vm.Good Try.prog 121 E121 := by
  refine evF_good (G := G121) (c := c121) (envCons_good good173 envNil_good) Try.func121 (by kernel_rfl) (by kernel_rfl) (0, 0) (fun args bs rs out t h h2 => ?_)
  unfold E121 at h
  split at h
  · injection h with h
    subst h
    exact ⟨rfl, L121, K121, lp121, (fun r t h => by unfold K121 at h; split at h; (injection h with h; subst h; rfl); cases h), (ev121 _).trans h2⟩
  · cases h
/-! ### S.ExprOk -/
noncomputable def G64 : Env := (envCons 121 [] E121 envNil)
noncomputable def c64 : Code := bodyOf Try.f64
noncomputable def S.ExprOk (a1 : List (Int × Int)) : Option Bool :=
(Option.bind (S.l03Depth a1) fun r2 =>
(some (decide (0 ≤ r2))))
noncomputable def R64 (x : Bool) : Res := ⟨[.one (ab x)], [], []⟩
noncomputable def K64 (r : Res) : Option Bool :=
  match r with
  | ⟨[.one (.val (.bool v1))], [], []⟩ => some (v1)
  | _ => none
noncomputable def E64 : Fun2 := fun args bs rs =>
  match args, bs, rs with
  | [.s1 (.one (.sl 0))], [], [⟨169, (.pair (.int .i64) (.int .i64)), a1, .ro⟩] => some ⟨Bool, S.ExprOk a1, R64⟩
  | _, _, _ => none
theorem ev64 (a1 : List (Int × Int)) : evF Try.prog G64 loopNil (0, 0) Try.f64 c64 [vl 0] [] [⟨169, (.pair (.int .i64) (.int .i64)), a1, .ro⟩] K64 = S.ExprOk a1 := by kernel_rfl
theorem good64 : Vm.Good Try.prog 64 E64 := by
  refine evF_good (G := G64) (c := c64) (envCons_good good121 envNil_good) Try.func64 (by kernel_rfl) (by kernel_rfl) (0, 0) (fun args bs rs out t h h2 => ?_)
  unfold E64 at h
  split at h
  · injection h with h
    subst h
    exact ⟨rfl, loopNil, K64, (by intro x hx; simp [show loopsOf c64 = [] from by kernel_rfl] at hx), (fun r t h => by unfold K64 at h; split at h; (injection h with h; subst h; rfl); cases h), (ev64 _).trans h2⟩
  · cases h
/-! ### S.WinOk -/
noncomputable def G65 : Env := envNil
noncomputable def c65 : Code := bodyOf Try.f65
noncomputable def S.WinOk (a1 a2 a3 : Int) : Option Bool :=
(bif (decide (a1 < 1)) then
(some false)
else
(bif (decide (3 < a1)) then
(some false)
else
(bif (decide (a2 < 1)) then
(some false)
else
(bif (decide (100 < a2)) then
(some false)
else
(bif (a1 != 2) then
(some (a3 == 0))
else
(bif (decide (1 ≤ a3)) then
(bif (decide (a3 ≤ a2)) then
(some (decide (a2 ≤ (IntKind.wrap .i64 (8 * a3)))))
else
(some false))
else
(some false)))))))
noncomputable def R65 (x : Bool) : Res := ⟨[.one (ab x)], [], []⟩
noncomputable def K65 (r : Res) : Option Bool :=
  match r with
  | ⟨[.one (.val (.bool v1))], [], []⟩ => some (v1)
  | _ => none
noncomputable def E65 : Fun2 := fun args bs rs =>
  match args, bs, rs with
  | [.s1 (.agg [.val (.int .i64 a1), .val (.int .i64 a2), .val (.int .i64 a3)])], [], [] => some ⟨Bool, S.WinOk a1 a2 a3, R65⟩
  | _, _, _ => none
theorem ev65 (a1 a2 a3 : Int) : evF Try.prog G65 loopNil (0, 0) Try.f65 c65 [.s1 (.agg [ai a1, ai a2, ai a3])] [] [] K65 = S.WinOk a1 a2 a3 := by kernel_rfl
theorem good65 : Vm.Good Try.prog 65 E65 := by
  refine evF_good (G := G65) (c := c65) envNil_good Try.func65 (by kernel_rfl) (by kernel_rfl) (0, 0) (fun args bs rs out t h h2 => ?_)
  unfold E65 at h
  split at h
  · injection h with h
    subst h
    exact ⟨rfl, loopNil, K65, (by intro x hx; simp [show loopsOf c65 = [] from by kernel_rfl] at hx), (fun r t h => by unfold K65 at h; split at h; (injection h with h; subst h; rfl); cases h), (ev65 _ _ _).trans h2⟩
  · cases h
/-! ### S.AggKind -/
noncomputable def G66 : Env := envNil
noncomputable def c66 : Code := bodyOf Try.f66
noncomputable def S.AggKind (a1 a2 : Int) : Option Bool :=
(bif (a1 == 6) then
(bif (decide (1 ≤ a2)) then
(some (decide (a2 ≤ 4)))
else
(some false))
else
(bif (decide (1 ≤ a1)) then
(bif (decide (a1 < 6)) then
(some (a2 == 0))
else
(some false))
else
(some false)))
noncomputable def R66 (x : Bool) : Res := ⟨[.one (ab x)], [], []⟩
noncomputable def K66 (r : Res) : Option Bool :=
  match r with
  | ⟨[.one (.val (.bool v1))], [], []⟩ => some (v1)
  | _ => none
noncomputable def E66 : Fun2 := fun args bs rs =>
  match args, bs, rs with
  | [.s1 (.one (.val (.int .i64 a1))), .s1 (.one (.val (.int .i64 a2)))], [], [] => some ⟨Bool, S.AggKind a1 a2, R66⟩
  | _, _, _ => none
theorem ev66 (a1 a2 : Int) : evF Try.prog G66 loopNil (0, 0) Try.f66 c66 [vi a1, vi a2] [] [] K66 = S.AggKind a1 a2 := by kernel_rfl
theorem good66 : Vm.Good Try.prog 66 E66 := by
  refine evF_good (G := G66) (c := c66) envNil_good Try.func66 (by kernel_rfl) (by kernel_rfl) (0, 0) (fun args bs rs out t h h2 => ?_)
  unfold E66 at h
  split at h
  · injection h with h
    subst h
    exact ⟨rfl, loopNil, K66, (by intro x hx; simp [show loopsOf c66 = [] from by kernel_rfl] at hx), (fun r t h => by unfold K66 at h; split at h; (injection h with h; subst h; rfl); cases h), (ev66 _ _).trans h2⟩
  · cases h
/-! ### S.QueryOk -/
noncomputable def G14 : Env := (envCons 64 [] E64 (envCons 65 [] E65 (envCons 66 [] E66 envNil)))
noncomputable def c14 : Code := bodyOf Try.f14
noncomputable def S.QueryOk (a1 a2 a3 a4 a5 : Int) (a6 a7 : List (Int × Int)) : Option Bool :=
(Option.bind (S.ExprOk a6) fun r8 =>
(bif r8 then
(Option.bind (S.ExprOk a7) fun r9 =>
(bif r9 then
(Option.bind (S.WinOk a1 a2 a3) fun r10 =>
(bif r10 then
(Option.bind (S.AggKind a4 a5) fun r11 =>
(some r11))
else
(some false)))
else
(some false)))
else
(some false)))
noncomputable def R14 (x : Bool) : Res := ⟨[.one (ab x)], [], []⟩
noncomputable def K14 (r : Res) : Option Bool :=
  match r with
  | ⟨[.one (.val (.bool v1))], [], []⟩ => some (v1)
  | _ => none
noncomputable def E14 : Fun2 := fun args bs rs =>
  match args, bs, rs with
  | [.s1 (.agg [.sl 0, .sl 1, .val (.int .i64 a1), .val (.int .i64 a2), .val (.int .i64 a3), .val (.int .i64 a4), .val (.int .i64 a5)])], [], [⟨169, (.pair (.int .i64) (.int .i64)), a6, .ro⟩, ⟨169, (.pair (.int .i64) (.int .i64)), a7, .ro⟩] => some ⟨Bool, S.QueryOk a1 a2 a3 a4 a5 a6 a7, R14⟩
  | _, _, _ => none
theorem ev14 (a1 a2 a3 a4 a5 : Int) (a6 a7 : List (Int × Int)) : evF Try.prog G14 loopNil (0, 0) Try.f14 c14 [.s1 (.agg [.sl 0, .sl 1, ai a1, ai a2, ai a3, ai a4, ai a5])] [] [⟨169, (.pair (.int .i64) (.int .i64)), a6, .ro⟩, ⟨169, (.pair (.int .i64) (.int .i64)), a7, .ro⟩] K14 = S.QueryOk a1 a2 a3 a4 a5 a6 a7 := by kernel_rfl
theorem good14 : Vm.Good Try.prog 14 E14 := by
  refine evF_good (G := G14) (c := c14) (envCons_good good64 (envCons_good good65 (envCons_good good66 envNil_good))) Try.func14 (by kernel_rfl) (by kernel_rfl) (0, 0) (fun args bs rs out t h h2 => ?_)
  unfold E14 at h
  split at h
  · injection h with h
    subst h
    exact ⟨rfl, loopNil, K14, (by intro x hx; simp [show loopsOf c14 = [] from by kernel_rfl] at hx), (fun r t h => by unfold K14 at h; split at h; (injection h with h; subst h; rfl); cases h), (ev14 _ _ _ _ _ _ _).trans h2⟩
  · cases h
/-! ### S.l04Src -/
noncomputable def G129 : Env := envNil
noncomputable def c129 : Code := bodyOf Try.f129
noncomputable def S.l04Src (a1 : Int) : Option Bool :=
(bif (decide (0 ≤ a1)) then
(some (decide (a1 < 4)))
else
(some false))
noncomputable def R129 (x : Bool) : Res := ⟨[.one (ab x)], [], []⟩
noncomputable def K129 (r : Res) : Option Bool :=
  match r with
  | ⟨[.one (.val (.bool v1))], [], []⟩ => some (v1)
  | _ => none
noncomputable def E129 : Fun2 := fun args bs rs =>
  match args, bs, rs with
  | [.s1 (.one (.val (.int .i64 a1)))], [], [] => some ⟨Bool, S.l04Src a1, R129⟩
  | _, _, _ => none
theorem ev129 (a1 : Int) : evF Try.prog G129 loopNil (0, 0) Try.f129 c129 [vi a1] [] [] K129 = S.l04Src a1 := by kernel_rfl
theorem good129 : Vm.Good Try.prog 129 E129 := by
  refine evF_good (G := G129) (c := c129) envNil_good Try.func129 (by kernel_rfl) (by kernel_rfl) (0, 0) (fun args bs rs out t h h2 => ?_)
  unfold E129 at h
  split at h
  · injection h with h
    subst h
    exact ⟨rfl, loopNil, K129, (by intro x hx; simp [show loopsOf c129 = [] from by kernel_rfl] at hx), (fun r t h => by unfold K129 at h; split at h; (injection h with h; subst h; rfl); cases h), (ev129 _).trans h2⟩
  · cases h
/-! ### S.l04Key -/
noncomputable def G98 : Env := envNil
noncomputable def c98 : Code := bodyOf Try.f98
noncomputable def S.l04Key (a1 : Int) : Option Bool :=
(bif (decide (0 ≤ a1)) then
(some (decide (a1 ≤ 15)))
else
(some false))
noncomputable def R98 (x : Bool) : Res := ⟨[.one (ab x)], [], []⟩
noncomputable def K98 (r : Res) : Option Bool :=
  match r with
  | ⟨[.one (.val (.bool v1))], [], []⟩ => some (v1)
  | _ => none
noncomputable def E98 : Fun2 := fun args bs rs =>
  match args, bs, rs with
  | [.s1 (.one (.val (.int .i64 a1)))], [], [] => some ⟨Bool, S.l04Key a1, R98⟩
  | _, _, _ => none
theorem ev98 (a1 : Int) : evF Try.prog G98 loopNil (0, 0) Try.f98 c98 [vi a1] [] [] K98 = S.l04Key a1 := by kernel_rfl
theorem good98 : Vm.Good Try.prog 98 E98 := by
  refine evF_good (G := G98) (c := c98) envNil_good Try.func98 (by kernel_rfl) (by kernel_rfl) (0, 0) (fun args bs rs out t h h2 => ?_)
  unfold E98 at h
  split at h
  · injection h with h
    subst h
    exact ⟨rfl, loopNil, K98, (by intro x hx; simp [show loopsOf c98 = [] from by kernel_rfl] at hx), (fun r t h => by unfold K98 at h; split at h; (injection h with h; subst h; rfl); cases h), (ev98 _).trans h2⟩
  · cases h
/-! ### S.l05Time -/
noncomputable def G130 : Env := envNil
noncomputable def c130 : Code := bodyOf Try.f130
noncomputable def S.l05Time (a1 : Int) : Option Bool :=
(bif (decide (0 ≤ a1)) then
(some (decide (a1 ≤ 1000)))
else
(some false))
noncomputable def R130 (x : Bool) : Res := ⟨[.one (ab x)], [], []⟩
noncomputable def K130 (r : Res) : Option Bool :=
  match r with
  | ⟨[.one (.val (.bool v1))], [], []⟩ => some (v1)
  | _ => none
noncomputable def E130 : Fun2 := fun args bs rs =>
  match args, bs, rs with
  | [.s1 (.one (.val (.int .i64 a1)))], [], [] => some ⟨Bool, S.l05Time a1, R130⟩
  | _, _, _ => none
theorem ev130 (a1 : Int) : evF Try.prog G130 loopNil (0, 0) Try.f130 c130 [vi a1] [] [] K130 = S.l05Time a1 := by kernel_rfl
theorem good130 : Vm.Good Try.prog 130 E130 := by
  refine evF_good (G := G130) (c := c130) envNil_good Try.func130 (by kernel_rfl) (by kernel_rfl) (0, 0) (fun args bs rs out t h h2 => ?_)
  unfold E130 at h
  split at h
  · injection h with h
    subst h
    exact ⟨rfl, loopNil, K130, (by intro x hx; simp [show loopsOf c130 = [] from by kernel_rfl] at hx), (fun r t h => by unfold K130 at h; split at h; (injection h with h; subst h; rfl); cases h), (ev130 _).trans h2⟩
  · cases h
/-! ### S.ElemOk -/
noncomputable def G117 : Env := (envCons 129 [] E129 (envCons 98 [] E98 (envCons 130 [] E130 envNil)))
noncomputable def c117 : Code := bodyOf Try.f117
noncomputable def S.ElemOk (a1 a2 a3 a4 : Int) : Option Bool :=
(Option.bind (S.l04Src a1) fun r5 =>
(bif r5 then
(Option.bind (S.l04Key a2) fun r6 =>
(bif r6 then
(Option.bind (S.l05Time a4) fun r7 =>
(some r7))
else
(some false)))
else
(some false)))
noncomputable def R117 (x : Bool) : Res := ⟨[.one (ab x)], [], []⟩
noncomputable def K117 (r : Res) : Option Bool :=
  match r with
  | ⟨[.one (.val (.bool v1))], [], []⟩ => some (v1)
  | _ => none
noncomputable def E117 : Fun2 := fun args bs rs =>
  match args, bs, rs with
  | [.s1 (.agg [.val (.int .i64 a1), .val (.int .i64 a2), .val (.int .i64 a3), .val (.int .i64 a4)])], [], [] => some ⟨Bool, S.ElemOk a1 a2 a3 a4, R117⟩
  | _, _, _ => none
theorem ev117 (a1 a2 a3 a4 : Int) : evF Try.prog G117 loopNil (0, 0) Try.f117 c117 [.s1 (.agg [ai a1, ai a2, ai a3, ai a4])] [] [] K117 = S.ElemOk a1 a2 a3 a4 := by kernel_rfl
theorem good117 : Vm.Good Try.prog 117 E117 := by
  refine evF_good (G := G117) (c := c117) (envCons_good good129 (envCons_good good98 (envCons_good good130 envNil_good))) Try.func117 (by kernel_rfl) (by kernel_rfl) (0, 0) (fun args bs rs out t h h2 => ?_)
  unfold E117 at h
  split at h
  · injection h with h
    subst h
    exact ⟨rfl, loopNil, K117, (by intro x hx; simp [show loopsOf c117 = [] from by kernel_rfl] at hx), (fun r t h => by unfold K117 at h; split at h; (injection h with h; subst h; rfl); cases h), (ev117 _ _ _ _).trans h2⟩
  · cases h
/-! ### S.l03Bool -/
noncomputable def G166 : Env := envNil
noncomputable def c166 : Code := bodyOf Try.f166
noncomputable def S.l03Bool (a1 : Bool) : Option Int :=
(bif a1 then
(some 1)
else
(some 0))
noncomputable def R166 (x : Int) : Res := ⟨[.one (ai x)], [], []⟩
noncomputable def K166 (r : Res) : Option Int :=
  match r with
  | ⟨[.one (.val (.int .i64 v1))], [], []⟩ => some (v1)
  | _ => none
noncomputable def E166 : Fun2 := fun args bs rs =>
  match args, bs, rs with
  | [.s1 (.one (.val (.bool a1)))], [], [] => some ⟨Int, S.l03Bool a1, R166⟩
  | _, _, _ => none
theorem ev166 (a1 : Bool) : evF Try.prog G166 loopNil (0, 0) Try.f166 c166 [vb a1] [] [] K166 = S.l03Bool a1 := by kernel_rfl
theorem good166 : Vm.Good Try.prog 166 E166 := by
  refine evF_good (G := G166) (c := c166) envNil_good Try.func166 (by kernel_rfl) (by kernel_rfl) (0, 0) (fun args bs rs out t h h2 => ?_)
  unfold E166 at h
  split at h
  · injection h with h
    subst h
    exact ⟨rfl, loopNil, K166, (by intro x hx; simp [show loopsOf c166 = [] from by kernel_rfl] at hx), (fun r t h => by unfold K166 at h; split at h; (injection h with h; subst h; rfl); cases h), (ev166 _).trans h2⟩
  · cases h
/-! ### S.WideOf -/
noncomputable def G150 : Env := envNil
noncomputable def c150 : Code := bodyOf Try.f150
noncomputable def S.WideOf (a1 : Int) : Option (Int × Int) :=
(bif (decide (a1 < 0)) then
(some ((-1), (IntKind.wrap .u64 a1)))
else
(some (0, (IntKind.wrap .u64 a1))))
noncomputable def R150 (x : Int × Int) : Res := ⟨[.agg [ai x.1, ak .u64 x.2]], [], []⟩
noncomputable def K150 (r : Res) : Option (Int × Int) :=
  match r with
  | ⟨[.agg [.val (.int .i64 v1), .val (.int .u64 v2)]], [], []⟩ => some (v1, v2)
  | _ => none
noncomputable def E150 : Fun2 := fun args bs rs =>
  match args, bs, rs with
  | [.s1 (.one (.val (.int .i64 a1)))], [], [] => some ⟨Int × Int, S.WideOf a1, R150⟩
  | _, _, _ => none
theorem ev150 (a1 : Int) : evF Try.prog G150 loopNil (0, 0) Try.f150 c150 [vi a1] [] [] K150 = S.WideOf a1 := by kernel_rfl
theorem good150 : Vm.Good Try.prog 150 E150 := by
  refine evF_good (G := G150) (c := c150) envNil_good Try.func150 (by kernel_rfl) (by kernel_rfl) (0, 0) (fun args bs rs out t h h2 => ?_)
  unfold E150 at h
  split at h
  · injection h with h
    subst h
    exact ⟨rfl, loopNil, K150, (by intro x hx; simp [show loopsOf c150 = [] from by kernel_rfl] at hx), (fun r t h => by unfold K150 at h; split at h; (injection h with h; subst h; rfl); cases h), (ev150 _).trans h2⟩
  · cases h
/-! ### S.WideAdd -/
noncomputable def G149 : Env := envNil
noncomputable def c149 : Code := bodyOf Try.f149
noncomputable def S.WideAdd (a1 a2 a3 a4 : Int) : Option (Int × Int) :=
(let v5 : Int := (IntKind.wrap .u64 (a2 + a4))
(let v8 : Int := (IntKind.wrap .u64 ((IntKind.wrap .u64 a1) + (IntKind.wrap .u64 a3)))
(bif (decide (v5 < a2)) then
(some ((IntKind.wrap .i64 (IntKind.wrap .u64 (v8 + 1))), v5))
else
(some ((IntKind.wrap .i64 v8), v5)))))
noncomputable def R149 (x : Int × Int) : Res := ⟨[.agg [ai x.1, ak .u64 x.2]], [], []⟩
noncomputable def K149 (r : Res) : Option (Int × Int) :=
  match r with
  | ⟨[.agg [.val (.int .i64 v1), .val (.int .u64 v2)]], [], []⟩ => some (v1, v2)
  | _ => none
noncomputable def E149 : Fun2 := fun args bs rs =>
  match args, bs, rs with
  | [.s1 (.agg [.val (.int .i64 a1), .val (.int .u64 a2)]), .s1 (.agg [.val (.int .i64 a3), .val (.int .u64 a4)])], [], [] => some ⟨Int × Int, S.WideAdd a1 a2 a3 a4, R149⟩
  | _, _, _ => none
theorem ev149 (a1 a2 a3 a4 : Int) : evF Try.prog G149 loopNil (0, 0) Try.f149 c149 [.s1 (.agg [ai a1, ak .u64 a2]), .s1 (.agg [ai a3, ak .u64 a4])] [] [] K149 = S.WideAdd a1 a2 a3 a4 := by kernel_rfl
theorem good149 : Vm.Good Try.prog 149 E149 := by
  refine evF_good (G := G149) (c := c149) envNil_good Try.func149 (by kernel_rfl) (by kernel_rfl) (0, 0) (fun args bs rs out t h h2 => ?_)
  unfold E149 at h
  split at h
  · injection h with h
    subst h
    exact ⟨rfl, loopNil, K149, (by intro x hx; simp [show loopsOf c149 = [] from by kernel_rfl] at hx), (fun r t h => by unfold K149 at h; split at h; (injection h with h; subst h; rfl); cases h), (ev149 _ _ _ _).trans h2⟩
  · cases h
/-! ### S.WideNeg -/
noncomputable def G190 : Env := (envCons 149 [] E149 envNil)
noncomputable def c190 : Code := bodyOf Try.f190
noncomputable def S.WideNeg (a1 a2 : Int) : Option (Int × Int) :=
(Option.bind (S.WideAdd (IntKind.wrap .i64 ((-1) - a1)) (IntKind.wrap .u64 (18446744073709551615 - a2)) 0 1) fun r5 =>
(some (r5.1, r5.2)))
noncomputable def R190 (x : Int × Int) : Res := ⟨[.agg [ai x.1, ak .u64 x.2]], [], []⟩
noncomputable def K190 (r : Res) : Option (Int × Int) :=
  match r with
  | ⟨[.agg [.val (.int .i64 v1), .val (.int .u64 v2)]], [], []⟩ => some (v1, v2)
  | _ => none
noncomputable def E190 : Fun2 := fun args bs rs =>
  match args, bs, rs with
  | [.s1 (.agg [.val (.int .i64 a1), .val (.int .u64 a2)])], [], [] => some ⟨Int × Int, S.WideNeg a1 a2, R190⟩
  | _, _, _ => none
theorem ev190 (a1 a2 : Int) : evF Try.prog G190 loopNil (0, 0) Try.f190 c190 [.s1 (.agg [ai a1, ak .u64 a2])] [] [] K190 = S.WideNeg a1 a2 := by kernel_rfl
theorem good190 : Vm.Good Try.prog 190 E190 := by
  refine evF_good (G := G190) (c := c190) (envCons_good good149 envNil_good) Try.func190 (by kernel_rfl) (by kernel_rfl) (0, 0) (fun args bs rs out t h h2 => ?_)
  unfold E190 at h
  split at h
  · injection h with h
    subst h
    exact ⟨rfl, loopNil, K190, (by intro x hx; simp [show loopsOf c190 = [] from by kernel_rfl] at hx), (fun r t h => by unfold K190 at h; split at h; (injection h with h; subst h; rfl); cases h), (ev190 _ _).trans h2⟩
  · cases h
/-! ### S.l03Times -/
noncomputable def G180 : Env := (envCons 150 [] E150 (envCons 190 [] E190 (envCons 149 [] E149 envNil)))
noncomputable def c180 : Code := bodyOf Try.f180
noncomputable def c180_7 : Code := (loopsOf c180).getD 0 .skip
noncomputable def S.l03Times_l0 : Nat → (Int → Int → Int → Int → Option (Int × Int)) → Int → Int → Int → Int → Int → Int → Int → Option (Int × Int)
  | 0, _, _, _, _, _, _, _, _ => none
  | m + 1, e7_0, a8, a9, a10, a11, a12, a13, a14 =>
    (bif (decide (0 < a8)) then
    (bif decide (2 = 0) then
    none
    else
    (bif ((Int.tmod a8 2) == 1) then
    (Option.bind (S.WideAdd a11 a12 a13 a14) fun r17 =>
    (Option.bind (S.WideAdd a13 a14 a13 a14) fun r18 =>
    (bif decide (2 = 0) then
    none
    else
    (S.l03Times_l0 m e7_0 (IntKind.wrap .u64 (Int.tdiv a8 2)) a9 a10 r17.1 r17.2 r18.1 r18.2))))
    else
    (Option.bind (S.WideAdd a13 a14 a13 a14) fun r20 =>
    (bif decide (2 = 0) then
    none
    else
    (S.l03Times_l0 m e7_0 (IntKind.wrap .u64 (Int.tdiv a8 2)) a9 a10 a11 a12 r20.1 r20.2)))))
    else
    (e7_0 a9 a10 a11 a12))
noncomputable def S.l03Times (a1 a2 : Int) : Option (Int × Int) :=
(Option.bind (S.WideOf a1) fun r3 =>
(let v4 : Int := (IntKind.wrap .u64 a2)
(bif (decide (a2 < 0)) then
(Option.bind (S.WideNeg r3.1 r3.2) fun r6 =>
(S.l03Times_l0 fu (fun y22 y23 y24 y25 =>
(some (y24, y25))) (IntKind.wrap .u64 (0 - v4)) 0 0 0 0 r6.1 r6.2))
else
(S.l03Times_l0 fu (fun y26 y27 y28 y29 =>
(some (y28, y29))) v4 0 0 0 0 r3.1 r3.2))))
noncomputable def H180_7 : LoopH := ⟨⟨(hu 4 ((.one (.ptr 0 0)) :: (.one (.ptr 1 0)) :: (.one (.ptr 2 0)) :: hh :: (hu 25 []))), [(86, [.hole, .hole]), (86, [.hole, .hole]), (86, [.hole, .hole])], []⟩, [0, 1, 2, 3, 8, 9, 10, 11, 12, 13, 14, 15, 16, 17, 18, 19, 20, 21, 22, 23, 24, 25, 26, 27, 28, 29, 30, 31, 32], [], [0, 1, 2, 3, 6, 7, 8, 9, 10, 11, 12, 13, 14, 15, 16, 17, 18, 19, 20, 21, 22, 23, 24, 25, 26, 27, 28, 29, 30, 31, 32]⟩
noncomputable def E180_7 (m : Nat) (ps : List Prm) (k : Kont (Int × Int)) : Option (Int × Int) :=
  match ps with
  | [.v (.int .u64 a8), .v (.int .i64 a9), .v (.int .u64 a10), .v (.int .i64 a11), .v (.int .u64 a12), .v (.int .i64 a13), .v (.int .u64 a14)] => S.l03Times_l0 m (fun z34 z35 z36 z37 => k (.exit 0) (⟨(vu 4 ((vp 0 0) :: (vp 1 0) :: (vu 27 []))), [(86, [ai z34, ak .u64 z35]), (86, [ai z36, ak .u64 z37])], []⟩ : St)) a8 a9 a10 a11 a12 a13 a14
  | _ => none
noncomputable def S180_7 (a8 a9 a10 a11 a12 a13 a14 : Int) : St := (⟨(vu 4 ((vp 0 0) :: (vp 1 0) :: (vp 2 0) :: (vk .u64 a8) :: (vu 25 []))), [(86, [ai a9, ak .u64 a10]), (86, [ai a11, ak .u64 a12]), (86, [ai a13, ak .u64 a14])], []⟩ : St)
theorem ev180_7 (m : Nat) (k : Kont (Int × Int)) (a8 a9 a10 a11 a12 a13 a14 : Int) : evC Try.prog G180 loopNil c180_7 (S180_7 a8 a9 a10 a11 a12 a13 a14) (turn Try.prog (0, 0) H180_7 (E180_7 m) k) = E180_7 (m + 1) [.v (.int .u64 a8), .v (.int .i64 a9), .v (.int .u64 a10), .v (.int .i64 a11), .v (.int .u64 a12), .v (.int .i64 a13), .v (.int .u64 a14)] k := by kernel_rfl
theorem ok180_7 (m : Nat) : LoopOk Try.prog (0, 0) c180_7 (enter Try.prog (0, 0) H180_7 (E180_7 m)) := by
  refine loop_ok (G := G180) (L := loopNil) (envCons_good good150 (envCons_good good190 (envCons_good good149 envNil_good))) (by intro x hx; simp [show loopsOf c180_7 = [] from by kernel_rfl] at hx) (fun ps k => by unfold E180_7; split <;> rfl) (fun m ps k r h => ?_) m
  have h0 := h
  unfold E180_7 at h
  split at h
  · exact ⟨S180_7 _ _ _ _ _ _ _, by kernel_rfl, (ev180_7 m k _ _ _ _ _ _ _).trans h0⟩
  · cases h
noncomputable def L180 : LEnv (Int × Int) := (loopCons 7 (enter Try.prog (0, 0) H180_7 (E180_7 fu)) loopNil)
theorem lq180 : loopsOf c180 = [c180_7] := by kernel_rfl
theorem fr180_7 : firstReg c180_7 = some 7 := by kernel_rfl
theorem le180_7 : L180 7 = enter Try.prog (0, 0) H180_7 (E180_7 fu) := by kernel_rfl
theorem lm180 : ∀ x ∈ [c180_7], ∀ id, firstReg x = some id → LoopOk Try.prog (0, 0) x (L180 id) := (loops_cons fr180_7 le180_7 (ok180_7 fu) loops_nil)
theorem lp180 : ∀ x ∈ loopsOf c180, ∀ id, firstReg x = some id → LoopOk Try.prog (0, 0) x (L180 id) := loops_eq lq180 lm180
noncomputable def R180 (x : Int × Int) : Res := ⟨[.agg [ai x.1, ak .u64 x.2]], [], []⟩
noncomputable def K180 (r : Res) : Option (Int × Int) :=
  match r with
  | ⟨[.agg [.val (.int .i64 v1), .val (.int .u64 v2)]], [], []⟩ => some (v1, v2)
  | _ => none
noncomputable def E180 : Fun2 := fun args bs rs =>
  match args, bs, rs with
  | [.s1 (.one (.val (.int .i64 a1))), .s1 (.one (.val (.int .i64 a2)))], [], [] => some ⟨Int × Int, S.l03Times a1 a2, R180⟩
  | _, _, _ => none
theorem ev180 (a1 a2 : Int) : evF Try.prog G180 L180 (0, 0) Try.f180 c180 [vi a1, vi a2] [] [] K180 = S.l03Times a1 a2 := by kernel_rfl
theorem good180 : Vm.Good Try.prog 180 E180 := by
  refine evF_good (G := G180) (c := c180) (envCons_good good150 (envCons_good good190 (envCons_good good149 envNil_good))) Try.func180 (by kernel_rfl) (by kernel_rfl) (0, 0) (fun args bs rs out t h h2 => ?_)
  unfold E180 at h
  split at h
  · injection h with h
    subst h
    exact ⟨rfl, L180, K180, lp180, (fun r t h => by unfold K180 at h; split at h; (injection h with h; subst h; rfl); cases h), (ev180 _ _).trans h2⟩
  · cases h
/-! ### S.l03Two -/
noncomputable def G167 : Env := (envCons 150 [] E150 (envCons 149 [] E149 (envCons 190 [] E190 (envCons 180 [] E180 (envCons 166 [] E166 envNil)))))
noncomputable def c167 : Code := bodyOf Try.f167
noncomputable def S.l03Two (a1 a2 a3 : Int) : Option (Int × Int × Int) :=
(bif (a1 == 4) then
(Option.bind (S.WideOf a2) fun r4 =>
(Option.bind (S.WideOf a3) fun r5 =>
(Option.bind (S.WideAdd r4.1 r4.2 r5.1 r5.2) fun r6 =>
(some (r6.1, r6.2, 0)))))
else
(bif (a1 == 5) then
(Option.bind (S.WideOf a2) fun r7 =>
(Option.bind (S.WideOf a3) fun r8 =>
(Option.bind (S.WideNeg r8.1 r8.2) fun r9 =>
(Option.bind (S.WideAdd r7.1 r7.2 r9.1 r9.2) fun r10 =>
(some (r10.1, r10.2, 0))))))
else
(bif (a1 == 6) then
(Option.bind (S.l03Times a2 a3) fun r11 =>
(some (r11.1, r11.2, 0)))
else
(bif (a1 == 7) then
(bif (a3 == 0) then
(some (0, 0, 3))
else
(bif (a3 == (-1)) then
(Option.bind (S.WideOf a2) fun r12 =>
(Option.bind (S.WideNeg r12.1 r12.2) fun r13 =>
(some (r13.1, r13.2, 0))))
else
(bif decide (a3 = 0) then
none
else
(Option.bind (S.WideOf (IntKind.wrap .i64 (Int.tdiv a2 a3))) fun r15 =>
(some (r15.1, r15.2, 0))))))
else
(bif (a1 == 8) then
(Option.bind (S.l03Bool (decide (a2 < a3))) fun r17 =>
(Option.bind (S.WideOf r17) fun r18 =>
(some (r18.1, r18.2, 0))))
else
(bif (a1 == 9) then
(Option.bind (S.l03Bool (a2 == a3)) fun r19 =>
(Option.bind (S.WideOf r19) fun r20 =>
(some (r20.1, r20.2, 0))))
else
(bif (a2 != 0) then
(Option.bind (S.l03Bool (a3 != 0)) fun r21 =>
(Option.bind (S.WideOf r21) fun r22 =>
(some (r22.1, r22.2, 0))))
else
(Option.bind (S.l03Bool false) fun r23 =>
(Option.bind (S.WideOf r23) fun r24 =>
(some (r24.1, r24.2, 0)))))))))))
noncomputable def R167 (x : Int × Int × Int) : Res := ⟨[.agg [ai x.1, ak .u64 x.2.1], .one (ai x.2.2)], [], []⟩
noncomputable def K167 (r : Res) : Option (Int × Int × Int) :=
  match r with
  | ⟨[.agg [.val (.int .i64 v1), .val (.int .u64 v2)], .one (.val (.int .i64 v3))], [], []⟩ => some (v1, v2, v3)
  | _ => none
noncomputable def E167 : Fun2 := fun args bs rs =>
  match args, bs, rs with
  | [.s1 (.one (.val (.int .i64 a1))), .s1 (.one (.val (.int .i64 a2))), .s1 (.one (.val (.int .i64 a3)))], [], [] => some ⟨Int × Int × Int, S.l03Two a1 a2 a3, R167⟩
  | _, _, _ => none
theorem ev167 (a1 a2 a3 : Int) : evF Try.prog G167 loopNil (0, 0) Try.f167 c167 [vi a1, vi a2, vi a3] [] [] K167 = S.l03Two a1 a2 a3 := by kernel_rfl
theorem good167 : Vm.Good Try.prog 167 E167 := by
  refine evF_good (G := G167) (c := c167) (envCons_good good150 (envCons_good good149 (envCons_good good190 (envCons_good good180 (envCons_good good166 envNil_good))))) Try.func167 (by kernel_rfl) (by kernel_rfl) (0, 0) (fun args bs rs out t h h2 => ?_)
  unfold E167 at h
  split at h
  · injection h with h
    subst h
    exact ⟨rfl, loopNil, K167, (by intro x hx; simp [show loopsOf c167 = [] from by kernel_rfl] at hx), (fun r t h => by unfold K167 at h; split at h; (injection h with h; subst h; rfl); cases h), (ev167 _ _ _).trans h2⟩
  · cases h
/-! ### S.WideInt -/
noncomputable def G168 : Env := (envCons 150 [] E150 envNil)
noncomputable def c168 : Code := bodyOf Try.f168
noncomputable def S.WideInt (a1 a2 : Int) : Option (Int × Bool) :=
(let v3 : Int := (IntKind.wrap .i64 a2)
(Option.bind (S.WideOf v3) fun r4 =>
(bif (!((r4.1 == a1) && ((r4.2 == a2) && true))) then
(some (0, false))
else
(some (v3, true)))))
noncomputable def R168 (x : Int × Bool) : Res := ⟨[.one (ai x.1), .one (ab x.2)], [], []⟩
noncomputable def K168 (r : Res) : Option (Int × Bool) :=
  match r with
  | ⟨[.one (.val (.int .i64 v1)), .one (.val (.bool v2))], [], []⟩ => some (v1, v2)
  | _ => none
noncomputable def E168 : Fun2 := fun args bs rs =>
  match args, bs, rs with
  | [.s1 (.agg [.val (.int .i64 a1), .val (.int .u64 a2)])], [], [] => some ⟨Int × Bool, S.WideInt a1 a2, R168⟩
  | _, _, _ => none
theorem ev168 (a1 a2 : Int) : evF Try.prog G168 loopNil (0, 0) Try.f168 c168 [.s1 (.agg [ai a1, ak .u64 a2])] [] [] K168 = S.WideInt a1 a2 := by kernel_rfl
theorem good168 : Vm.Good Try.prog 168 E168 := by
  refine evF_good (G := G168) (c := c168) (envCons_good good150 envNil_good) Try.func168 (by kernel_rfl) (by kernel_rfl) (0, 0) (fun args bs rs out t h h2 => ?_)
  unfold E168 at h
  split at h
  · injection h with h
    subst h
    exact ⟨rfl, loopNil, K168, (by intro x hx; simp [show loopsOf c168 = [] from by kernel_rfl] at hx), (fun r t h => by unfold K168 at h; split at h; (injection h with h; subst h; rfl); cases h), (ev168 _ _).trans h2⟩
  · cases h
/-! ### S.ExprRun -/
noncomputable def G118 : Env := (envCons 64 [] E64 (envCons 166 [] E166 (envCons 167 [] E167 (envCons 168 [] E168 envNil))))
noncomputable def c118 : Code := bodyOf Try.f118
noncomputable def c118_5 : Code := (loopsOf c118).getD 0 .skip
noncomputable def S.ExprRun_l0 : Nat → (Int → Int → List Int → Option (Int × Int)) → (List Int → Option (Int × Int)) → Int → Int → Int → Int → Int → (List (Int × Int)) → List Int → Option (Int × Int)
  | 0, _, _, _, _, _, _, _, _, _ => none
  | m + 1, e5_0, e5_1, a7, a8, a9, a10, a11, a12, a13 =>
    (bif (decide (a7 < (a12.length : Int))) then
    (let v16 : Int := (a13.length : Int)
    (bif decide ((0 : Int) ≤ a7 ∧ a7 < (a12.length : Int)) then
    (bif ((nthI a12 a7 ((0 : Int), (0 : Int))).1 == 0) then
    (bif decide ((0 : Int) ≤ a7 ∧ a7 < (a12.length : Int)) then
    (let v18 : List Int := [(nthI a12 a7 ((0 : Int), (0 : Int))).2]
    (bif decide ((a13.length + v18.length) * 8 ≤ 140737488355328) then
    (S.ExprRun_l0 m e5_0 e5_1 (IntKind.wrap .i64 (a7 + 1)) a8 a9 a10 a11 a12 (a13 ++ v18))
    else
    none))
    else
    none)
    else
    (bif ((nthI a12 a7 ((0 : Int), (0 : Int))).1 == 1) then
    (bif decide ((a13.length + [a9].length) * 8 ≤ 140737488355328) then
    (S.ExprRun_l0 m e5_0 e5_1 (IntKind.wrap .i64 (a7 + 1)) a8 a9 a10 a11 a12 (a13 ++ [a9]))
    else
    none)
    else
    (bif ((nthI a12 a7 ((0 : Int), (0 : Int))).1 == 2) then
    (bif decide ((a13.length + [a10].length) * 8 ≤ 140737488355328) then
    (S.ExprRun_l0 m e5_0 e5_1 (IntKind.wrap .i64 (a7 + 1)) a8 a9 a10 a11 a12 (a13 ++ [a10]))
    else
    none)
    else
    (bif ((nthI a12 a7 ((0 : Int), (0 : Int))).1 == 3) then
    (bif decide ((a13.length + [a11].length) * 8 ≤ 140737488355328) then
    (S.ExprRun_l0 m e5_0 e5_1 (IntKind.wrap .i64 (a7 + 1)) a8 a9 a10 a11 a12 (a13 ++ [a11]))
    else
    none)
    else
    (bif ((nthI a12 a7 ((0 : Int), (0 : Int))).1 == 11) then
    (let v27 : Int := (IntKind.wrap .i64 (v16 - 1))
    (let v28 : Int := (IntKind.wrap .i64 (v16 - 1))
    (bif decide ((0 : Int) ≤ v28 ∧ v28 < (a13.length : Int)) then
    (Option.bind (S.l03Bool ((nthI a13 v28 (0 : Int)) == 0)) fun r30 =>
    (bif decide ((0 : Int) ≤ v27 ∧ v27 < (a13.length : Int)) then
    (S.ExprRun_l0 m e5_0 e5_1 (IntKind.wrap .i64 (a7 + 1)) a8 a9 a10 a11 a12 (a13.set (Int.toNat v27) r30))
    else
    none))
    else
    none)))
    else
    (bif decide ((0 : Int) ≤ a7 ∧ a7 < (a12.length : Int)) then
    (let v33 : Int := (IntKind.wrap .i64 (v16 - 2))
    (bif decide ((0 : Int) ≤ v33 ∧ v33 < (a13.length : Int)) then
    (let v34 : Int := (IntKind.wrap .i64 (v16 - 1))
    (bif decide ((0 : Int) ≤ v34 ∧ v34 < (a13.length : Int)) then
    (dup (Option.bind (S.l03Two ((nthI a12 a7 ((0 : Int), (0 : Int))).1) (nthI a13 v33 (0 : Int)) (nthI a13 v34 (0 : Int))) fun r35 =>
    (bif (r35.2.2 != 0) then
    (e5_0 0 r35.2.2 a13)
    else
    (Option.bind (S.WideInt r35.1 r35.2.1) fun r36 =>
    (bif (!r36.2) then
    (e5_0 0 2 a13)
    else
    (let v37 : Int := (IntKind.wrap .i64 (v16 - 2))
    (bif decide ((0 : Int) ≤ 0 ∧ 0 ≤ v37 ∧ v37 ≤ (a13.length : Int)) then
    (bif decide (((a13.take (Int.toNat v37)).length + [r36.1].length) * 8 ≤ 140737488355328) then
    (S.ExprRun_l0 m e5_0 e5_1 (IntKind.wrap .i64 (a7 + 1)) a8 a9 a10 a11 a12 ((a13.take (Int.toNat v37)) ++ [r36.1]))
    else
    none)
    else
    none)))))))
    else
    none))
    else
    none))
    else
    none))))))
    else
    none))
    else
    (e5_1 a13))
noncomputable def S.ExprRun (a1 a2 a3 a4 : Int) (a5 : List (Int × Int)) : Option (Int × Int) :=
(Option.bind (S.ExprOk a5) fun r6 =>
(bif (!r6) then
(some (0, 1))
else
(S.ExprRun_l0 fu (fun y40 y41 y42 =>
(some (y40, y41))) (fun y43 =>
(bif decide ((0 : Int) ≤ 0 ∧ 0 < (y43.length : Int)) then
(some ((nthI y43 0 (0 : Int)), 0))
else
none)) 0 a1 a2 a3 a4 a5 [])))
noncomputable def H118_5 : LoopH := ⟨⟨((.one (.sl 0)) :: (hu 2 ((.one (.ptr 0 0)) :: (hu 2 ((.one (.sl 1)) :: hh :: (hu 105 [])))))), [(38, [.hole, .hole, .hole, .hole])], [(169, (.pair (.int .i64) (.int .i64)), .ro), (3, (.int .i64), .own)]⟩, [1, 2, 4, 5, 8, 9, 10, 11, 12, 13, 14, 15, 16, 17, 18, 19, 20, 21, 22, 23, 24, 25, 26, 27, 28, 29, 30, 31, 32, 33, 34, 35, 36, 37, 38, 39, 40, 41, 42, 43, 44, 45, 46, 47, 48, 49, 50, 51, 52, 53, 54, 55, 56, 57, 58, 59, 60, 61, 62, 63, 64, 65, 66, 67, 68, 69, 70, 71, 72, 73, 74, 75, 76, 77, 78, 79, 80, 81, 82, 83, 84, 85, 86, 87, 88, 89, 90, 91, 92, 93, 94, 95, 96, 97, 98, 99, 100, 101, 102, 103, 104, 105, 106, 107, 108, 109, 110, 111, 112], [], [0, 1, 2, 3, 7, 8, 9, 10, 11, 12, 13, 14, 15, 16, 17, 18, 19, 20, 21, 22, 23, 24, 25, 26, 27, 28, 29, 30, 31, 32, 33, 34, 35, 36, 37, 38, 39, 40, 41, 42, 43, 44, 45, 46, 47, 48, 49, 50, 51, 52, 53, 54, 55, 56, 57, 58, 59, 60, 61, 62, 63, 64, 65, 66, 67, 68, 69, 70, 71, 72, 73, 74, 75, 76, 77, 78, 79, 80, 81, 82, 83, 84, 85, 86, 87, 88, 89, 90, 91, 92, 93, 94, 95, 96, 97, 98, 99, 100, 101, 102, 103, 104, 105, 106, 107, 108, 109, 110, 111, 112]⟩
noncomputable def E118_5 (m : Nat) (ps : List Prm) (k : Kont (Int × Int)) : Option (Int × Int) :=
  match ps with
  | [.v (.int .i64 a7), .v (.int .i64 a8), .v (.int .i64 a9), .v (.int .i64 a10), .v (.int .i64 a11), .row (.pair (.int .i64) (.int .i64)) a12, .row (.int .i64) a13] => S.ExprRun_l0 m (fun z49 z50 z51 => k .ret (⟨(vu 4 ((vi z49) :: (vi z50) :: (vl 0) :: (vu 106 []))), [], [⟨3, (.int .i64), z51, .own⟩]⟩ : St)) (fun z52 => k (.exit 0) (⟨(vu 6 ((vl 0) :: (vu 106 []))), [], [⟨3, (.int .i64), z52, .own⟩]⟩ : St)) a7 a8 a9 a10 a11 a12 a13
  | _ => none
noncomputable def S118_5 (a7 a8 a9 a10 a11 : Int) (a12 : List (Int × Int)) (a13 : List Int) : St := (⟨((vl 0) :: (vu 2 ((vp 0 0) :: (vu 2 ((vl 1) :: (vi a7) :: (vu 105 [])))))), [(38, [ai a8, ai a9, ai a10, ai a11])], [⟨169, (.pair (.int .i64) (.int .i64)), a12, .ro⟩, ⟨3, (.int .i64), a13, .own⟩]⟩ : St)
theorem ev118_5 (m : Nat) (k : Kont (Int × Int)) (a7 a8 a9 a10 a11 : Int) (a12 : List (Int × Int)) (a13 : List Int) : evC Try.prog G118 loopNil c118_5 (S118_5 a7 a8 a9 a10 a11 a12 a13) (turn Try.prog (0, 0) H118_5 (E118_5 m) k) = E118_5 (m + 1) [.v (.int .i64 a7), .v (.int .i64 a8), .v (.int .i64 a9), .v (.int .i64 a10), .v (.int .i64 a11), .row (.pair (.int .i64) (.int .i64)) a12, .row (.int .i64) a13] k := by kernel_rfl
theorem ok118_5 (m : Nat) : LoopOk Try.prog (0, 0) c118_5 (enter Try.prog (0, 0) H118_5 (E118_5 m)) := by
  refine loop_ok (G := G118) (L := loopNil) (envCons_good good64 (envCons_good good166 (envCons_good good167 (envCons_good good168 envNil_good)))) (by intro x hx; simp [show loopsOf c118_5 = [] from by kernel_rfl] at hx) (fun ps k => by unfold E118_5; split <;> rfl) (fun m ps k r h => ?_) m
  have h0 := h
  unfold E118_5 at h
  split at h
  · exact ⟨S118_5 _ _ _ _ _ _ _, by kernel_rfl, (ev118_5 m k _ _ _ _ _ _ _).trans h0⟩
  · cases h
noncomputable def L118 : LEnv (Int × Int) := (loopCons 5 (enter Try.prog (0, 0) H118_5 (E118_5 fu)) loopNil)
theorem lq118 : loopsOf c118 = [c118_5] := by kernel_rfl
theorem fr118_5 : firstReg c118_5 = some 5 := by kernel_rfl
theorem le118_5 : L118 5 = enter Try.prog (0, 0) H118_5 (E118_5 fu) := by kernel_rfl
theorem lm118 : ∀ x ∈ [c118_5], ∀ id, firstReg x = some id → LoopOk Try.prog (0, 0) x (L118 id) := (loops_cons fr118_5 le118_5 (ok118_5 fu) loops_nil)
theorem lp118 : ∀ x ∈ loopsOf c118, ∀ id, firstReg x = some id → LoopOk Try.prog (0, 0) x (L118 id) := loops_eq lq118 lm118
noncomputable def R118 (x : Int × Int) : Res := ⟨[.one (ai x.1), .one (ai x.2)], [], []⟩
noncomputable def K118 (r : Res) : Option (Int × Int) :=
  match r with
  | ⟨[.one (.val (.int .i64 v1)), .one (.val (.int .i64 v2))], [], []⟩ => some (v1, v2)
  | _ => none
noncomputable def E118 : Fun2 := fun args bs rs =>
  match args, bs, rs with
  | [.s1 (.one (.sl 0)), .s1 (.agg [.val (.int .i64 a1), .val (.int .i64 a2), .val (.int .i64 a3), .val (.int .i64 a4)])], [], [⟨169, (.pair (.int .i64) (.int .i64)), a5, .ro⟩] => some ⟨Int × Int, S.ExprRun a1 a2 a3 a4 a5, R118⟩
  | _, _, _ => none
theorem ev118 (a1 a2 a3 a4 : Int) (a5 : List (Int × Int)) : evF Try.prog G118 L118 (0, 0) Try.f118 c118 [vl 0, .s1 (.agg [ai a1, ai a2, ai a3, ai a4])] [] [⟨169, (.pair (.int .i64) (.int .i64)), a5, .ro⟩] K118 = S.ExprRun a1 a2 a3 a4 a5 := by kernel_rfl
theorem good118 : Vm.Good Try.prog 118 E118 := by
  refine evF_good (G := G118) (c := c118) (envCons_good good64 (envCons_good good166 (envCons_good good167 (envCons_good good168 envNil_good)))) Try.func118 (by kernel_rfl) (by kernel_rfl) (0, 0) (fun args bs rs out t h h2 => ?_)
  unfold E118 at h
  split at h
  · injection h with h
    subst h
    exact ⟨rfl, L118, K118, lp118, (fun r t h => by unfold K118 at h; split at h; (injection h with h; subst h; rfl); cases h), (ev118 _ _ _ _ _).trans h2⟩
  · cases h
/-! ### S.QueryTake -/
noncomputable def G60 : Env := (envCons 14 [] E14 (envCons 117 [] E117 (envCons 118 [] E118 envNil)))
noncomputable def c60 : Code := bodyOf Try.f60
noncomputable def S.QueryTake (a1 a2 a3 a4 a5 a6 a7 a8 a9 : Int) (a10 a11 : List (Int × Int)) : Option (Int × Int) :=
(Option.bind (S.QueryOk a1 a2 a3 a4 a5 a10 a11) fun r12 =>
(bif (!r12) then
(some (0, 2))
else
(Option.bind (S.ElemOk a6 a7 a8 a9) fun r13 =>
(bif (!r13) then
(some (0, 2))
else
(Option.bind (S.ExprRun a6 a7 a8 a9 a10) fun r14 =>
(bif (r14.2 != 0) then
(some (0, 3))
else
(bif (r14.1 == 0) then
(some (0, 1))
else
(Option.bind (S.ExprRun a6 a7 a8 a9 a11) fun r15 =>
(bif (r15.2 != 0) then
(some (0, 3))
else
(some (r15.1, 0)))))))))))
noncomputable def R60 (x : Int × Int) : Res := ⟨[.one (ai x.1), .one (ai x.2)], [], []⟩
noncomputable def K60 (r : Res) : Option (Int × Int) :=
  match r with
  | ⟨[.one (.val (.int .i64 v1)), .one (.val (.int .i64 v2))], [], []⟩ => some (v1, v2)
  | _ => none
noncomputable def E60 : Fun2 := fun args bs rs =>
  match args, bs, rs with
  | [.s1 (.agg [.sl 0, .sl 1, .val (.int .i64 a1), .val (.int .i64 a2), .val (.int .i64 a3), .val (.int .i64 a4), .val (.int .i64 a5)]), .s1 (.agg [.val (.int .i64 a6), .val (.int .i64 a7), .val (.int .i64 a8), .val (.int .i64 a9)])], [], [⟨169, (.pair (.int .i64) (.int .i64)), a10, .ro⟩, ⟨169, (.pair (.int .i64) (.int .i64)), a11, .ro⟩] => some ⟨Int × Int, S.QueryTake a1 a2 a3 a4 a5 a6 a7 a8 a9 a10 a11, R60⟩
  | _, _, _ => none
theorem ev60 (a1 a2 a3 a4 a5 a6 a7 a8 a9 : Int) (a10 a11 : List (Int × Int)) : evF Try.prog G60 loopNil (0, 0) Try.f60 c60 [.s1 (.agg [.sl 0, .sl 1, ai a1, ai a2, ai a3, ai a4, ai a5]), .s1 (.agg [ai a6, ai a7, ai a8, ai a9])] [] [⟨169, (.pair (.int .i64) (.int .i64)), a10, .ro⟩, ⟨169, (.pair (.int .i64) (.int .i64)), a11, .ro⟩] K60 = S.QueryTake a1 a2 a3 a4 a5 a6 a7 a8 a9 a10 a11 := by kernel_rfl
theorem good60 : Vm.Good Try.prog 60 E60 := by
  refine evF_good (G := G60) (c := c60) (envCons_good good14 (envCons_good good117 (envCons_good good118 envNil_good))) Try.func60 (by kernel_rfl) (by kernel_rfl) (0, 0) (fun args bs rs out t h h2 => ?_)
  unfold E60 at h
  split at h
  · injection h with h
    subst h
    exact ⟨rfl, loopNil, K60, (by intro x hx; simp [show loopsOf c60 = [] from by kernel_rfl] at hx), (fun r t h => by unfold K60 at h; split at h; (injection h with h; subst h; rfl); cases h), (ev60 _ _ _ _ _ _ _ _ _ _ _).trans h2⟩
  · cases h
/-! ### I.in -/
noncomputable def G134 : Env := envNil
noncomputable def c134 : Code := bodyOf Try.f134
noncomputable def I.in (a1 a2 a3 : Int) : Option Bool :=
(bif (decide (a2 ≤ a1)) then
(some (decide (a1 ≤ a3)))
else
(some false))
noncomputable def R134 (x : Bool) : Res := ⟨[.one (ab x)], [], []⟩
noncomputable def K134 (r : Res) : Option Bool :=
  match r with
  | ⟨[.one (.val (.bool v1))], [], []⟩ => some (v1)
  | _ => none
noncomputable def E134 : Fun2 := fun args bs rs =>
  match args, bs, rs with
  | [.s1 (.one (.val (.int .i64 a1))), .s1 (.one (.val (.int .i64 a2))), .s1 (.one (.val (.int .i64 a3)))], [], [] => some ⟨Bool, I.in a1 a2 a3, R134⟩
  | _, _, _ => none
theorem ev134 (a1 a2 a3 : Int) : evF Try.prog G134 loopNil (0, 0) Try.f134 c134 [vi a1, vi a2, vi a3] [] [] K134 = I.in a1 a2 a3 := by kernel_rfl
theorem good134 : Vm.Good Try.prog 134 E134 := by
  refine evF_good (G := G134) (c := c134) envNil_good Try.func134 (by kernel_rfl) (by kernel_rfl) (0, 0) (fun args bs rs out t h h2 => ?_)
  unfold E134 at h
  split at h
  · injection h with h
    subst h
    exact ⟨rfl, loopNil, K134, (by intro x hx; simp [show loopsOf c134 = [] from by kernel_rfl] at hx), (fun r t h => by unfold K134 at h; split at h; (injection h with h; subst h; rfl); cases h), (ev134 _ _ _).trans h2⟩
  · cases h
/-! ### I.Tok_takes -/
noncomputable def G191 : Env := envNil
noncomputable def c191 : Code := bodyOf Try.f191
noncomputable def I.Tok_takes (a1 a2 : Int) : Option Int :=
(bif (decide (a1 ≤ 3)) then
(some 0)
else
(bif (a1 == 11) then
(some 1)
else
(some 2)))
noncomputable def R191 (x : Int) : Res := ⟨[.one (ai x)], [], []⟩
noncomputable def K191 (r : Res) : Option Int :=
  match r with
  | ⟨[.one (.val (.int .i64 v1))], [], []⟩ => some (v1)
  | _ => none
noncomputable def E191 : Fun2 := fun args bs rs =>
  match args, bs, rs with
  | [.s1 (.agg [.val (.int .i64 a1), .val (.int .i64 a2)])], [], [] => some ⟨Int, I.Tok_takes a1 a2, R191⟩
  | _, _, _ => none
theorem ev191 (a1 a2 : Int) : evF Try.prog G191 loopNil (0, 0) Try.f191 c191 [.s1 (.agg [ai a1, ai a2])] [] [] K191 = I.Tok_takes a1 a2 := by kernel_rfl
theorem good191 : Vm.Good Try.prog 191 E191 := by
  refine evF_good (G := G191) (c := c191) envNil_good Try.func191 (by kernel_rfl) (by kernel_rfl) (0, 0) (fun args bs rs out t h h2 => ?_)
  unfold E191 at h
  split at h
  · injection h with h
    subst h
    exact ⟨rfl, loopNil, K191, (by intro x hx; simp [show loopsOf c191 = [] from by kernel_rfl] at hx), (fun r t h => by unfold K191 at h; split at h; (injection h with h; subst h; rfl); cases h), (ev191 _ _).trans h2⟩
  · cases h
/-! ### I.depth -/
noncomputable def G174 : Env := (envCons 134 [] E134 (envCons 191 [] E191 envNil))
noncomputable def c174 : Code := bodyOf Try.f174
noncomputable def c174_5 : Code := (loopsOf c174).getD 0 .skip
noncomputable def I.depth_l0 : Nat → (Int → Int → Int → Option Int) → (Int → Int → Option Int) → Int → Int → Int → Int → (List (Int × Int)) → Option Int
  | 0, _, _, _, _, _, _, _ => none
  | m + 1, e5_0, e5_1, a5, a6, a7, a8, a9 =>
    (bif (decide (a8 < a7)) then
    (bif decide ((0 : Int) ≤ a8 ∧ a8 < (a9.length : Int)) then
    (Option.bind (I.in ((nthI a9 a8 ((0 : Int), (0 : Int))).1) 0 11) fun r11 =>
    (bif (!r11) then
    (e5_0 (-1) a5 a6)
    else
    (bif ((nthI a9 a8 ((0 : Int), (0 : Int))).1 != 0) then
    (bif ((nthI a9 a8 ((0 : Int), (0 : Int))).2 != 0) then
    (e5_0 (-1) a5 a6)
    else
    (Option.bind (I.Tok_takes ((nthI a9 a8 ((0 : Int), (0 : Int))).1) ((nthI a9 a8 ((0 : Int), (0 : Int))).2)) fun r14 =>
    (bif (decide (a5 < r14)) then
    (e5_0 (-1) a5 a6)
    else
    (Option.bind (I.Tok_takes ((nthI a9 a8 ((0 : Int), (0 : Int))).1) ((nthI a9 a8 ((0 : Int), (0 : Int))).2)) fun r16 =>
    (let v18 : Int := (IntKind.wrap .i64 (a5 + (IntKind.wrap .i64 (1 - r16))))
    (I.depth_l0 m e5_0 e5_1 v18 (if v18 > a6 then v18 else a6) a7 (IntKind.wrap .i64 (a8 + 1)) a9))))))
    else
    (Option.bind (I.Tok_takes ((nthI a9 a8 ((0 : Int), (0 : Int))).1) ((nthI a9 a8 ((0 : Int), (0 : Int))).2)) fun r21 =>
    (bif (decide (a5 < r21)) then
    (e5_0 (-1) a5 a6)
    else
    (Option.bind (I.Tok_takes ((nthI a9 a8 ((0 : Int), (0 : Int))).1) ((nthI a9 a8 ((0 : Int), (0 : Int))).2)) fun r23 =>
    (let v25 : Int := (IntKind.wrap .i64 (a5 + (IntKind.wrap .i64 (1 - r23))))
    (I.depth_l0 m e5_0 e5_1 v25 (if v25 > a6 then v25 else a6) a7 (IntKind.wrap .i64 (a8 + 1)) a9))))))))
    else
    none)
    else
    (e5_1 a5 a6))
noncomputable def I.depth (a1 : List (Int × Int)) : Option Int :=
(Option.bind (I.in (a1.length : Int) 1 20) fun r3 =>
(bif (!r3) then
(some (-1))
else
(I.depth_l0 fu (fun y28 y29 y30 =>
(some y28)) (fun y31 y32 =>
(bif (y31 != 1) then
(some (-1))
else
(some y32))) 0 0 (a1.length : Int) 0 a1)))
noncomputable def H174_5 : LoopH := ⟨⟨(hu 3 (hh :: hh :: (hu 6 ((.one (.sl 0)) :: hh :: hh :: (hu 35 []))))), [], [(169, (.pair (.int .i64) (.int .i64)), .ro)]⟩, [0, 1, 2, 5, 6, 7, 8, 9, 10, 14, 15, 16, 17, 18, 19, 20, 21, 22, 23, 24, 25, 26, 27, 28, 29, 30, 31, 32, 33, 34, 35, 36, 37, 38, 39, 40, 41, 42, 43, 44, 45, 46, 47, 48], [], [0, 1, 5, 6, 7, 8, 9, 10, 11, 12, 13, 14, 15, 16, 17, 18, 19, 20, 21, 22, 23, 24, 25, 26, 27, 28, 29, 30, 31, 32, 33, 34, 35, 36, 37, 38, 39, 40, 41, 42, 43, 44, 45, 46, 47, 48]⟩
noncomputable def E174_5 (m : Nat) (ps : List Prm) (k : Kont Int) : Option Int :=
  match ps with
  | [.v (.int .i64 a5), .v (.int .i64 a6), .v (.int .i64 a7), .v (.int .i64 a8), .row (.pair (.int .i64) (.int .i64)) a9] => I.depth_l0 m (fun z38 z39 z40 => k .ret (⟨(vu 2 ((vi z38) :: (vi z39) :: (vi z40) :: (vu 44 []))), [], []⟩ : St)) (fun z41 z42 => k (.exit 0) (⟨(vu 3 ((vi z41) :: (vi z42) :: (vu 44 []))), [], []⟩ : St)) a5 a6 a7 a8 a9
  | _ => none
noncomputable def S174_5 (a5 a6 a7 a8 : Int) (a9 : List (Int × Int)) : St := (⟨(vu 3 ((vi a5) :: (vi a6) :: (vu 6 ((vl 0) :: (vi a7) :: (vi a8) :: (vu 35 []))))), [], [⟨169, (.pair (.int .i64) (.int .i64)), a9, .ro⟩]⟩ : St)
theorem ev174_5 (m : Nat) (k : Kont Int) (a5 a6 a7 a8 : Int) (a9 : List (Int × Int)) : evC Try.prog G174 loopNil c174_5 (S174_5 a5 a6 a7 a8 a9) (turn Try.prog (0, 0) H174_5 (E174_5 m) k) = E174_5 (m + 1) [.v (.int .i64 a5), .v (.int .i64 a6), .v (.int .i64 a7), .v (.int .i64 a8), .row (.pair (.int .i64) (.int .i64)) a9] k := by kernel_rfl
theorem ok174_5 (m : Nat) : LoopOk Try.prog (0, 0) c174_5 (enter Try.prog (0, 0) H174_5 (E174_5 m)) := by
  refine loop_ok (G := G174) (L := loopNil) (envCons_good good134 (envCons_good good191 envNil_good)) (by intro x hx; simp [show loopsOf c174_5 = [] from by kernel_rfl] at hx) (fun ps k => by unfold E174_5; split <;> rfl) (fun m ps k r h => ?_) m
  have h0 := h
  unfold E174_5 at h
  split at h
  · exact ⟨S174_5 _ _ _ _ _, by kernel_rfl, (ev174_5 m k _ _ _ _ _).trans h0⟩
  · cases h
noncomputable def L174 : LEnv Int := (loopCons 5 (enter Try.prog (0, 0) H174_5 (E174_5 fu)) loopNil)
theorem lq174 : loopsOf c174 = [c174_5] := by kernel_rfl
theorem fr174_5 : firstReg c174_5 = some 5 := by kernel_rfl
theorem le174_5 : L174 5 = enter Try.prog (0, 0) H174_5 (E174_5 fu) := by kernel_rfl
theorem lm174 : ∀ x ∈ [c174_5], ∀ id, firstReg x = some id → LoopOk Try.prog (0, 0) x (L174 id) := (loops_cons fr174_5 le174_5 (ok174_5 fu) loops_nil)
theorem lp174 : ∀ x ∈ loopsOf c174, ∀ id, firstReg x = some id → LoopOk Try.prog (0, 0) x (L174 id) := loops_eq lq174 lm174
noncomputable def R174 (x : Int) : Res := ⟨[.one (ai x)], [], []⟩
noncomputable def K174 (r : Res) : Option Int :=
  match r with
  | ⟨[.one (.val (.int .i64 v1))], [], []⟩ => some (v1)
  | _ => none
noncomputable def E174 : Fun2 := fun args bs rs =>
  match args, bs, rs with
  | [.s1 (.one (.sl 0))], [], [⟨169, (.pair (.int .i64) (.int .i64)), a1, .ro⟩] => some ⟨Int, I.depth a1, R174⟩
  | _, _, _ => none
theorem ev174 (a1 : List (Int × Int)) : evF Try.prog G174 L174 (0, 0) Try.f174 c174 [vl 0] [] [⟨169, (.pair (.int .i64) (.int .i64)), a1, .ro⟩] K174 = I.depth a1 := by kernel_rfl
theorem good174 : Vm.Good Try.prog 174 E174 := by
  refine evF_good (G := G174) (c := c174) (envCons_good good134 (envCons_good good191 envNil_good)) Try.func174 (by kernel_rfl) (by kernel_rfl) (0, 0) (fun args bs rs out t h h2 => ?_)
  unfold E174 at h
  split at h
  · injection h with h
    subst h
    exact ⟨rfl, L174, K174, lp174, (fun r t h => by unfold K174 at h; split at h; (injection h with h; subst h; rfl); cases h), (ev174 _).trans h2⟩
  · cases h
/-! ### I.isExpr -/
noncomputable def G123 : Env := (envCons 174 [] E174 envNil)
noncomputable def c123 : Code := bodyOf Try.f123
noncomputable def I.isExpr (a1 : List (Int × Int)) : Option Bool :=
(Option.bind (I.depth a1) fun r2 =>
(some (decide (0 < r2))))
noncomputable def R123 (x : Bool) : Res := ⟨[.one (ab x)], [], []⟩
noncomputable def K123 (r : Res) : Option Bool :=
  match r with
  | ⟨[.one (.val (.bool v1))], [], []⟩ => some (v1)
  | _ => none
noncomputable def E123 : Fun2 := fun args bs rs =>
  match args, bs, rs with
  | [.s1 (.one (.sl 0))], [], [⟨169, (.pair (.int .i64) (.int .i64)), a1, .ro⟩] => some ⟨Bool, I.isExpr a1, R123⟩
  | _, _, _ => none
theorem ev123 (a1 : List (Int × Int)) : evF Try.prog G123 loopNil (0, 0) Try.f123 c123 [vl 0] [] [⟨169, (.pair (.int .i64) (.int .i64)), a1, .ro⟩] K123 = I.isExpr a1 := by kernel_rfl
theorem good123 : Vm.Good Try.prog 123 E123 := by
  refine evF_good (G := G123) (c := c123) (envCons_good good174 envNil_good) Try.func123 (by kernel_rfl) (by kernel_rfl) (0, 0) (fun args bs rs out t h h2 => ?_)
  unfold E123 at h
  split at h
  · injection h with h
    subst h
    exact ⟨rfl, loopNil, K123, (by intro x hx; simp [show loopsOf c123 = [] from by kernel_rfl] at hx), (fun r t h => by unfold K123 at h; split at h; (injection h with h; subst h; rfl); cases h), (ev123 _).trans h2⟩
  · cases h
/-! ### I.isWinDef -/
noncomputable def G124 : Env := (envCons 134 [] E134 envNil)
noncomputable def c124 : Code := bodyOf Try.f124
noncomputable def I.isWinDef (a1 a2 a3 : Int) : Option Bool :=
(Option.bind (I.in a2 1 100) fun r4 =>
(bif (!r4) then
(some false)
else
(bif (a1 == 1) then
(some (a3 == 0))
else
(bif (a1 == 3) then
(some (a3 == 0))
else
(bif (a1 == 2) then
(Option.bind (I.in a3 1 a2) fun r5 =>
(bif r5 then
(some (decide (a2 ≤ (IntKind.wrap .i64 (8 * a3)))))
else
(some false)))
else
(some false))))))
noncomputable def R124 (x : Bool) : Res := ⟨[.one (ab x)], [], []⟩
noncomputable def K124 (r : Res) : Option Bool :=
  match r with
  | ⟨[.one (.val (.bool v1))], [], []⟩ => some (v1)
  | _ => none
noncomputable def E124 : Fun2 := fun args bs rs =>
  match args, bs, rs with
  | [.s1 (.agg [.val (.int .i64 a1), .val (.int .i64 a2), .val (.int .i64 a3)])], [], [] => some ⟨Bool, I.isWinDef a1 a2 a3, R124⟩
  | _, _, _ => none
theorem ev124 (a1 a2 a3 : Int) : evF Try.prog G124 loopNil (0, 0) Try.f124 c124 [.s1 (.agg [ai a1, ai a2, ai a3])] [] [] K124 = I.isWinDef a1 a2 a3 := by kernel_rfl
theorem good124 : Vm.Good Try.prog 124 E124 := by
  refine evF_good (G := G124) (c := c124) (envCons_good good134 envNil_good) Try.func124 (by kernel_rfl) (by kernel_rfl) (0, 0) (fun args bs rs out t h h2 => ?_)
  unfold E124 at h
  split at h
  · injection h with h
    subst h
    exact ⟨rfl, loopNil, K124, (by intro x hx; simp [show loopsOf c124 = [] from by kernel_rfl] at hx), (fun r t h => by unfold K124 at h; split at h; (injection h with h; subst h; rfl); cases h), (ev124 _ _ _).trans h2⟩
  · cases h
/-! ### I.isAggKind -/
noncomputable def G125 : Env := (envCons 134 [] E134 envNil)
noncomputable def c125 : Code := bodyOf Try.f125
noncomputable def I.isAggKind (a1 a2 : Int) : Option Bool :=
(bif (a1 == 6) then
(Option.bind (I.in a2 1 4) fun r3 =>
(some r3))
else
(Option.bind (I.in a1 1 5) fun r4 =>
(bif r4 then
(some (a2 == 0))
else
(some false))))
noncomputable def R125 (x : Bool) : Res := ⟨[.one (ab x)], [], []⟩
noncomputable def K125 (r : Res) : Option Bool :=
  match r with
  | ⟨[.one (.val (.bool v1))], [], []⟩ => some (v1)
  | _ => none
noncomputable def E125 : Fun2 := fun args bs rs =>
  match args, bs, rs with
  | [.s1 (.one (.val (.int .i64 a1))), .s1 (.one (.val (.int .i64 a2)))], [], [] => some ⟨Bool, I.isAggKind a1 a2, R125⟩
  | _, _, _ => none
theorem ev125 (a1 a2 : Int) : evF Try.prog G125 loopNil (0, 0) Try.f125 c125 [vi a1, vi a2] [] [] K125 = I.isAggKind a1 a2 := by kernel_rfl
theorem good125 : Vm.Good Try.prog 125 E125 := by
  refine evF_good (G := G125) (c := c125) (envCons_good good134 envNil_good) Try.func125 (by kernel_rfl) (by kernel_rfl) (0, 0) (fun args bs rs out t h h2 => ?_)
  unfold E125 at h
  split at h
  · injection h with h
    subst h
    exact ⟨rfl, loopNil, K125, (by intro x hx; simp [show loopsOf c125 = [] from by kernel_rfl] at hx), (fun r t h => by unfold K125 at h; split at h; (injection h with h; subst h; rfl); cases h), (ev125 _ _).trans h2⟩
  · cases h
/-! ### I.isQuery -/
noncomputable def G69 : Env := (envCons 123 [] E123 (envCons 124 [] E124 (envCons 125 [] E125 envNil)))
noncomputable def c69 : Code := bodyOf Try.f69
noncomputable def I.isQuery (a1 a2 a3 a4 a5 : Int) (a6 a7 : List (Int × Int)) : Option Bool :=
(Option.bind (I.isExpr a6) fun r8 =>
(bif r8 then
(Option.bind (I.isExpr a7) fun r9 =>
(bif r9 then
(Option.bind (I.isWinDef a1 a2 a3) fun r10 =>
(bif r10 then
(Option.bind (I.isAggKind a4 a5) fun r11 =>
(some r11))
else
(some false)))
else
(some false)))
else
(some false)))
noncomputable def R69 (x : Bool) : Res := ⟨[.one (ab x)], [], []⟩
noncomputable def K69 (r : Res) : Option Bool :=
  match r with
  | ⟨[.one (.val (.bool v1))], [], []⟩ => some (v1)
  | _ => none
noncomputable def E69 : Fun2 := fun args bs rs =>
  match args, bs, rs with
  | [.s1 (.agg [.sl 0, .sl 1, .val (.int .i64 a1), .val (.int .i64 a2), .val (.int .i64 a3), .val (.int .i64 a4), .val (.int .i64 a5)])], [], [⟨169, (.pair (.int .i64) (.int .i64)), a6, .ro⟩, ⟨169, (.pair (.int .i64) (.int .i64)), a7, .ro⟩] => some ⟨Bool, I.isQuery a1 a2 a3 a4 a5 a6 a7, R69⟩
  | _, _, _ => none
theorem ev69 (a1 a2 a3 a4 a5 : Int) (a6 a7 : List (Int × Int)) : evF Try.prog G69 loopNil (0, 0) Try.f69 c69 [.s1 (.agg [.sl 0, .sl 1, ai a1, ai a2, ai a3, ai a4, ai a5])] [] [⟨169, (.pair (.int .i64) (.int .i64)), a6, .ro⟩, ⟨169, (.pair (.int .i64) (.int .i64)), a7, .ro⟩] K69 = I.isQuery a1 a2 a3 a4 a5 a6 a7 := by kernel_rfl
theorem good69 : Vm.Good Try.prog 69 E69 := by
  refine evF_good (G := G69) (c := c69) (envCons_good good123 (envCons_good good124 (envCons_good good125 envNil_good))) Try.func69 (by kernel_rfl) (by kernel_rfl) (0, 0) (fun args bs rs out t h h2 => ?_)
  unfold E69 at h
  split at h
  · injection h with h
    subst h
    exact ⟨rfl, loopNil, K69, (by intro x hx; simp [show loopsOf c69 = [] from by kernel_rfl] at hx), (fun r t h => by unfold K69 at h; split at h; (injection h with h; subst h; rfl); cases h), (ev69 _ _ _ _ _ _ _).trans h2⟩
  · cases h
/-! ### I.isSource -/
noncomputable def G169 : Env := (envCons 134 [] E134 envNil)
noncomputable def c169 : Code := bodyOf Try.f169
noncomputable def I.isSource (a1 : Int) : Option Bool :=
(Option.bind (I.in a1 0 3) fun r2 =>
(some r2))
noncomputable def R169 (x : Bool) : Res := ⟨[.one (ab x)], [], []⟩
noncomputable def K169 (r : Res) : Option Bool :=
  match r with
  | ⟨[.one (.val (.bool v1))], [], []⟩ => some (v1)
  | _ => none
noncomputable def E169 : Fun2 := fun args bs rs =>
  match args, bs, rs with
  | [.s1 (.one (.val (.int .i64 a1)))], [], [] => some ⟨Bool, I.isSource a1, R169⟩
  | _, _, _ => none
theorem ev169 (a1 : Int) : evF Try.prog G169 loopNil (0, 0) Try.f169 c169 [vi a1] [] [] K169 = I.isSource a1 := by kernel_rfl
theorem good169 : Vm.Good Try.prog 169 E169 := by
  refine evF_good (G := G169) (c := c169) (envCons_good good134 envNil_good) Try.func169 (by kernel_rfl) (by kernel_rfl) (0, 0) (fun args bs rs out t h h2 => ?_)
  unfold E169 at h
  split at h
  · injection h with h
    subst h
    exact ⟨rfl, loopNil, K169, (by intro x hx; simp [show loopsOf c169 = [] from by kernel_rfl] at hx), (fun r t h => by unfold K169 at h; split at h; (injection h with h; subst h; rfl); cases h), (ev169 _).trans h2⟩
  · cases h
/-! ### I.isKey -/
noncomputable def G170 : Env := (envCons 134 [] E134 envNil)
noncomputable def c170 : Code := bodyOf Try.f170
noncomputable def I.isKey (a1 : Int) : Option Bool :=
(Option.bind (I.in a1 0 15) fun r2 =>
(some r2))
noncomputable def R170 (x : Bool) : Res := ⟨[.one (ab x)], [], []⟩
noncomputable def K170 (r : Res) : Option Bool :=
  match r with
  | ⟨[.one (.val (.bool v1))], [], []⟩ => some (v1)
  | _ => none
noncomputable def E170 : Fun2 := fun args bs rs =>
  match args, bs, rs with
  | [.s1 (.one (.val (.int .i64 a1)))], [], [] => some ⟨Bool, I.isKey a1, R170⟩
  | _, _, _ => none
theorem ev170 (a1 : Int) : evF Try.prog G170 loopNil (0, 0) Try.f170 c170 [vi a1] [] [] K170 = I.isKey a1 := by kernel_rfl
theorem good170 : Vm.Good Try.prog 170 E170 := by
  refine evF_good (G := G170) (c := c170) (envCons_good good134 envNil_good) Try.func170 (by kernel_rfl) (by kernel_rfl) (0, 0) (fun args bs rs out t h h2 => ?_)
  unfold E170 at h
  split at h
  · injection h with h
    subst h
    exact ⟨rfl, loopNil, K170, (by intro x hx; simp [show loopsOf c170 = [] from by kernel_rfl] at hx), (fun r t h => by unfold K170 at h; split at h; (injection h with h; subst h; rfl); cases h), (ev170 _).trans h2⟩
  · cases h
/-! ### I.isTime -/
noncomputable def G171 : Env := (envCons 134 [] E134 envNil)
noncomputable def c171 : Code := bodyOf Try.f171
noncomputable def I.isTime (a1 : Int) : Option Bool :=
(Option.bind (I.in a1 0 1000) fun r2 =>
(some r2))
noncomputable def R171 (x : Bool) : Res := ⟨[.one (ab x)], [], []⟩
noncomputable def K171 (r : Res) : Option Bool :=
  match r with
  | ⟨[.one (.val (.bool v1))], [], []⟩ => some (v1)
  | _ => none
noncomputable def E171 : Fun2 := fun args bs rs =>
  match args, bs, rs with
  | [.s1 (.one (.val (.int .i64 a1)))], [], [] => some ⟨Bool, I.isTime a1, R171⟩
  | _, _, _ => none
theorem ev171 (a1 : Int) : evF Try.prog G171 loopNil (0, 0) Try.f171 c171 [vi a1] [] [] K171 = I.isTime a1 := by kernel_rfl
theorem good171 : Vm.Good Try.prog 171 E171 := by
  refine evF_good (G := G171) (c := c171) (envCons_good good134 envNil_good) Try.func171 (by kernel_rfl) (by kernel_rfl) (0, 0) (fun args bs rs out t h h2 => ?_)
  unfold E171 at h
  split at h
  · injection h with h
    subst h
    exact ⟨rfl, loopNil, K171, (by intro x hx; simp [show loopsOf c171 = [] from by kernel_rfl] at hx), (fun r t h => by unfold K171 at h; split at h; (injection h with h; subst h; rfl); cases h), (ev171 _).trans h2⟩
  · cases h
/-! ### I.isElem -/
noncomputable def G119 : Env := (envCons 169 [] E169 (envCons 170 [] E170 (envCons 171 [] E171 envNil)))
noncomputable def c119 : Code := bodyOf Try.f119
noncomputable def I.isElem (a1 a2 a3 a4 : Int) : Option Bool :=
(Option.bind (I.isSource a1) fun r5 =>
(bif r5 then
(Option.bind (I.isKey a2) fun r6 =>
(bif r6 then
(Option.bind (I.isTime a4) fun r7 =>
(some r7))
else
(some false)))
else
(some false)))
noncomputable def R119 (x : Bool) : Res := ⟨[.one (ab x)], [], []⟩
noncomputable def K119 (r : Res) : Option Bool :=
  match r with
  | ⟨[.one (.val (.bool v1))], [], []⟩ => some (v1)
  | _ => none
noncomputable def E119 : Fun2 := fun args bs rs =>
  match args, bs, rs with
  | [.s1 (.agg [.val (.int .i64 a1), .val (.int .i64 a2), .val (.int .i64 a3), .val (.int .i64 a4)])], [], [] => some ⟨Bool, I.isElem a1 a2 a3 a4, R119⟩
  | _, _, _ => none
theorem ev119 (a1 a2 a3 a4 : Int) : evF Try.prog G119 loopNil (0, 0) Try.f119 c119 [.s1 (.agg [ai a1, ai a2, ai a3, ai a4])] [] [] K119 = I.isElem a1 a2 a3 a4 := by kernel_rfl
theorem good119 : Vm.Good Try.prog 119 E119 := by
  refine evF_good (G := G119) (c := c119) (envCons_good good169 (envCons_good good170 (envCons_good good171 envNil_good))) Try.func119 (by kernel_rfl) (by kernel_rfl) (0, 0) (fun args bs rs out t h h2 => ?_)
  unfold E119 at h
  split at h
  · injection h with h
    subst h
    exact ⟨rfl, loopNil, K119, (by intro x hx; simp [show loopsOf c119 = [] from by kernel_rfl] at hx), (fun r t h => by unfold K119 at h; split at h; (injection h with h; subst h; rfl); cases h), (ev119 _ _ _ _).trans h2⟩
  · cases h
/-! ### I.Tok_push -/
noncomputable def G192 : Env := envNil
noncomputable def c192 : Code := bodyOf Try.f192
noncomputable def I.Tok_push (a1 a2 a3 a4 a5 a6 : Int) : Option Int :=
(bif (a1 == 1) then
(some a4)
else
(bif (a1 == 2) then
(some a5)
else
(bif (a1 == 3) then
(some a6)
else
(some a2))))
noncomputable def R192 (x : Int) : Res := ⟨[.one (ai x)], [], []⟩
noncomputable def K192 (r : Res) : Option Int :=
  match r with
  | ⟨[.one (.val (.int .i64 v1))], [], []⟩ => some (v1)
  | _ => none
noncomputable def E192 : Fun2 := fun args bs rs =>
  match args, bs, rs with
  | [.s1 (.agg [.val (.int .i64 a1), .val (.int .i64 a2)]), .s1 (.agg [.val (.int .i64 a3), .val (.int .i64 a4), .val (.int .i64 a5), .val (.int .i64 a6)])], [], [] => some ⟨Int, I.Tok_push a1 a2 a3 a4 a5 a6, R192⟩
  | _, _, _ => none
theorem ev192 (a1 a2 a3 a4 a5 a6 : Int) : evF Try.prog G192 loopNil (0, 0) Try.f192 c192 [.s1 (.agg [ai a1, ai a2]), .s1 (.agg [ai a3, ai a4, ai a5, ai a6])] [] [] K192 = I.Tok_push a1 a2 a3 a4 a5 a6 := by kernel_rfl
theorem good192 : Vm.Good Try.prog 192 E192 := by
  refine evF_good (G := G192) (c := c192) envNil_good Try.func192 (by kernel_rfl) (by kernel_rfl) (0, 0) (fun args bs rs out t h h2 => ?_)
  unfold E192 at h
  split at h
  · injection h with h
    subst h
    exact ⟨rfl, loopNil, K192, (by intro x hx; simp [show loopsOf c192 = [] from by kernel_rfl] at hx), (fun r t h => by unfold K192 at h; split at h; (injection h with h; subst h; rfl); cases h), (ev192 _ _ _ _ _ _).trans h2⟩
  · cases h
/-! ### I.truth -/
noncomputable def G193 : Env := envNil
noncomputable def c193 : Code := bodyOf Try.f193
noncomputable def I.truth (a1 : Bool) : Option Int :=
(bif a1 then
(some 1)
else
(some 0))
noncomputable def R193 (x : Int) : Res := ⟨[.one (ai x)], [], []⟩
noncomputable def K193 (r : Res) : Option Int :=
  match r with
  | ⟨[.one (.val (.int .i64 v1))], [], []⟩ => some (v1)
  | _ => none
noncomputable def E193 : Fun2 := fun args bs rs =>
  match args, bs, rs with
  | [.s1 (.one (.val (.bool a1)))], [], [] => some ⟨Int, I.truth a1, R193⟩
  | _, _, _ => none
theorem ev193 (a1 : Bool) : evF Try.prog G193 loopNil (0, 0) Try.f193 c193 [vb a1] [] [] K193 = I.truth a1 := by kernel_rfl
theorem good193 : Vm.Good Try.prog 193 E193 := by
  refine evF_good (G := G193) (c := c193) envNil_good Try.func193 (by kernel_rfl) (by kernel_rfl) (0, 0) (fun args bs rs out t h h2 => ?_)
  unfold E193 at h
  split at h
  · injection h with h
    subst h
    exact ⟨rfl, loopNil, K193, (by intro x hx; simp [show loopsOf c193 = [] from by kernel_rfl] at hx), (fun r t h => by unfold K193 at h; split at h; (injection h with h; subst h; rfl); cases h), (ev193 _).trans h2⟩
  · cases h
/-! ### I.added -/
noncomputable def G200 : Env := envNil
noncomputable def c200 : Code := bodyOf Try.f200
noncomputable def I.added (a1 a2 : Int) : Option (Int × Bool) :=
(let v3 : Int := (IntKind.wrap .i64 (a1 + a2))
(some (v3, ((decide (a1 < v3)) == (decide (0 < a2))))))
noncomputable def R200 (x : Int × Bool) : Res := ⟨[.one (ai x.1), .one (ab x.2)], [], []⟩
noncomputable def K200 (r : Res) : Option (Int × Bool) :=
  match r with
  | ⟨[.one (.val (.int .i64 v1)), .one (.val (.bool v2))], [], []⟩ => some (v1, v2)
  | _ => none
noncomputable def E200 : Fun2 := fun args bs rs =>
  match args, bs, rs with
  | [.s1 (.one (.val (.int .i64 a1))), .s1 (.one (.val (.int .i64 a2)))], [], [] => some ⟨Int × Bool, I.added a1 a2, R200⟩
  | _, _, _ => none
theorem ev200 (a1 a2 : Int) : evF Try.prog G200 loopNil (0, 0) Try.f200 c200 [vi a1, vi a2] [] [] K200 = I.added a1 a2 := by kernel_rfl
theorem good200 : Vm.Good Try.prog 200 E200 := by
  refine evF_good (G := G200) (c := c200) envNil_good Try.func200 (by kernel_rfl) (by kernel_rfl) (0, 0) (fun args bs rs out t h h2 => ?_)
  unfold E200 at h
  split at h
  · injection h with h
    subst h
    exact ⟨rfl, loopNil, K200, (by intro x hx; simp [show loopsOf c200 = [] from by kernel_rfl] at hx), (fun r t h => by unfold K200 at h; split at h; (injection h with h; subst h; rfl); cases h), (ev200 _ _).trans h2⟩
  · cases h
/-! ### I.minus -/
noncomputable def G201 : Env := envNil
noncomputable def c201 : Code := bodyOf Try.f201
noncomputable def I.minus (a1 a2 : Int) : Option (Int × Bool) :=
(let v3 : Int := (IntKind.wrap .i64 (a1 - a2))
(some (v3, ((decide (v3 < a1)) == (decide (0 < a2))))))
noncomputable def R201 (x : Int × Bool) : Res := ⟨[.one (ai x.1), .one (ab x.2)], [], []⟩
noncomputable def K201 (r : Res) : Option (Int × Bool) :=
  match r with
  | ⟨[.one (.val (.int .i64 v1)), .one (.val (.bool v2))], [], []⟩ => some (v1, v2)
  | _ => none
noncomputable def E201 : Fun2 := fun args bs rs =>
  match args, bs, rs with
  | [.s1 (.one (.val (.int .i64 a1))), .s1 (.one (.val (.int .i64 a2)))], [], [] => some ⟨Int × Bool, I.minus a1 a2, R201⟩
  | _, _, _ => none
theorem ev201 (a1 a2 : Int) : evF Try.prog G201 loopNil (0, 0) Try.f201 c201 [vi a1, vi a2] [] [] K201 = I.minus a1 a2 := by kernel_rfl
theorem good201 : Vm.Good Try.prog 201 E201 := by
  refine evF_good (G := G201) (c := c201) envNil_good Try.func201 (by kernel_rfl) (by kernel_rfl) (0, 0) (fun args bs rs out t h h2 => ?_)
  unfold E201 at h
  split at h
  · injection h with h
    subst h
    exact ⟨rfl, loopNil, K201, (by intro x hx; simp [show loopsOf c201 = [] from by kernel_rfl] at hx), (fun r t h => by unfold K201 at h; split at h; (injection h with h; subst h; rfl); cases h), (ev201 _ _).trans h2⟩
  · cases h
/-! ### I.times -/
noncomputable def G202 : Env := envNil
noncomputable def c202 : Code := bodyOf Try.f202
noncomputable def I.times (a1 a2 : Int) : Option (Int × Bool) :=
(bif (a1 == 0) then
(some (0, true))
else
(bif (a2 == 0) then
(some (0, true))
else
(let v3 : Int := (IntKind.wrap .i64 (a1 * a2))
(bif decide (a2 = 0) then
none
else
(bif ((IntKind.wrap .i64 (Int.tdiv v3 a2)) == a1) then
(bif (a1 == (-1)) then
(bif (!(a2 == (-9223372036854775808))) then
(bif (a2 == (-1)) then
(some (v3, (!(a1 == (-9223372036854775808)))))
else
(some (v3, true)))
else
(some (v3, false)))
else
(bif (a2 == (-1)) then
(some (v3, (!(a1 == (-9223372036854775808)))))
else
(some (v3, true))))
else
(some (v3, false)))))))
noncomputable def R202 (x : Int × Bool) : Res := ⟨[.one (ai x.1), .one (ab x.2)], [], []⟩
noncomputable def K202 (r : Res) : Option (Int × Bool) :=
  match r with
  | ⟨[.one (.val (.int .i64 v1)), .one (.val (.bool v2))], [], []⟩ => some (v1, v2)
  | _ => none
noncomputable def E202 : Fun2 := fun args bs rs =>
  match args, bs, rs with
  | [.s1 (.one (.val (.int .i64 a1))), .s1 (.one (.val (.int .i64 a2)))], [], [] => some ⟨Int × Bool, I.times a1 a2, R202⟩
  | _, _, _ => none
theorem ev202 (a1 a2 : Int) : evF Try.prog G202 loopNil (0, 0) Try.f202 c202 [vi a1, vi a2] [] [] K202 = I.times a1 a2 := by kernel_rfl
theorem good202 : Vm.Good Try.prog 202 E202 := by
  refine evF_good (G := G202) (c := c202) envNil_good Try.func202 (by kernel_rfl) (by kernel_rfl) (0, 0) (fun args bs rs out t h h2 => ?_)
  unfold E202 at h
  split at h
  · injection h with h
    subst h
    exact ⟨rfl, loopNil, K202, (by intro x hx; simp [show loopsOf c202 = [] from by kernel_rfl] at hx), (fun r t h => by unfold K202 at h; split at h; (injection h with h; subst h; rfl); cases h), (ev202 _ _).trans h2⟩
  · cases h
/-! ### I.apply -/
noncomputable def G194 : Env := (envCons 200 [] E200 (envCons 201 [] E201 (envCons 202 [] E202 (envCons 193 [] E193 envNil))))
noncomputable def c194 : Code := bodyOf Try.f194
noncomputable def I.apply (a1 a2 a3 : Int) : Option (Int × Int) :=
(bif (a1 == 4) then
(Option.bind (I.added a2 a3) fun r4 =>
(bif (!r4.2) then
(some (0, 2))
else
(some (r4.1, 0))))
else
(bif (a1 == 5) then
(Option.bind (I.minus a2 a3) fun r5 =>
(bif (!r5.2) then
(some (0, 2))
else
(some (r5.1, 0))))
else
(bif (a1 == 6) then
(Option.bind (I.times a2 a3) fun r6 =>
(bif (!r6.2) then
(some (0, 2))
else
(some (r6.1, 0))))
else
(bif (a1 == 7) then
(bif (a3 == 0) then
(some (0, 3))
else
(bif (a2 != (-9223372036854775808)) then
(bif decide (a3 = 0) then
none
else
(some ((IntKind.wrap .i64 (Int.tdiv a2 a3)), 0)))
else
(bif (a3 != (-1)) then
(bif decide (a3 = 0) then
none
else
(bif (!(a3 != (-1))) then
(some (0, 2))
else
(some ((IntKind.wrap .i64 (Int.tdiv a2 a3)), 0))))
else
(bif (!(a3 != (-1))) then
(some (0, 2))
else
(some (0, 0))))))
else
(bif (a1 == 8) then
(Option.bind (I.truth (decide (a2 < a3))) fun r13 =>
(some (r13, 0)))
else
(bif (a1 == 9) then
(Option.bind (I.truth (a2 == a3)) fun r14 =>
(some (r14, 0)))
else
(bif (a1 == 10) then
(bif (a2 != 0) then
(Option.bind (I.truth (a3 != 0)) fun r15 =>
(some (r15, 0)))
else
(Option.bind (I.truth false) fun r16 =>
(some (r16, 0))))
else
(some (0, 0)))))))))
noncomputable def R194 (x : Int × Int) : Res := ⟨[.one (ai x.1), .one (ai x.2)], [], []⟩
noncomputable def K194 (r : Res) : Option (Int × Int) :=
  match r with
  | ⟨[.one (.val (.int .i64 v1)), .one (.val (.int .i64 v2))], [], []⟩ => some (v1, v2)
  | _ => none
noncomputable def E194 : Fun2 := fun args bs rs =>
  match args, bs, rs with
  | [.s1 (.one (.val (.int .i64 a1))), .s1 (.one (.val (.int .i64 a2))), .s1 (.one (.val (.int .i64 a3)))], [], [] => some ⟨Int × Int, I.apply a1 a2 a3, R194⟩
  | _, _, _ => none
theorem ev194 (a1 a2 a3 : Int) : evF Try.prog G194 loopNil (0, 0) Try.f194 c194 [vi a1, vi a2, vi a3] [] [] K194 = I.apply a1 a2 a3 := by kernel_rfl
theorem good194 : Vm.Good Try.prog 194 E194 := by
  refine evF_good (G := G194) (c := c194) (envCons_good good200 (envCons_good good201 (envCons_good good202 (envCons_good good193 envNil_good)))) Try.func194 (by kernel_rfl) (by kernel_rfl) (0, 0) (fun args bs rs out t h h2 => ?_)
  unfold E194 at h
  split at h
  · injection h with h
    subst h
    exact ⟨rfl, loopNil, K194, (by intro x hx; simp [show loopsOf c194 = [] from by kernel_rfl] at hx), (fun r t h => by unfold K194 at h; split at h; (injection h with h; subst h; rfl); cases h), (ev194 _ _ _).trans h2⟩
  · cases h
/-! ### I.run -/
noncomputable def G172 : Env := (envCons 191 [] E191 (envCons 192 [] E192 (envCons 193 [] E193 (envCons 194 [] E194 envNil))))
noncomputable def c172 : Code := bodyOf Try.f172
noncomputable def c172_3 : Code := (loopsOf c172).getD 0 .skip
noncomputable def I.run_l0 : Nat → (Int → Int → List Int → Option (Int × Int)) → (List Int → Option (Int × Int)) → Int → Int → Int → Int → Int → Int → List Int → (List (Int × Int)) → Option (Int × Int)
  | 0, _, _, _, _, _, _, _, _, _, _ => none
  | m + 1, e3_0, e3_1, a7, a8, a9, a10, a11, a12, a13, a14 =>
    (bif (decide (a8 < a7)) then
    (bif decide ((0 : Int) ≤ a8 ∧ a8 < (a14.length : Int)) then
    (let v16 : Int := (a13.length : Int)
    (Option.bind (I.Tok_takes ((nthI a14 a8 ((0 : Int), (0 : Int))).1) ((nthI a14 a8 ((0 : Int), (0 : Int))).2)) fun r17 =>
    (bif (r17 == 0) then
    (Option.bind (I.Tok_push ((nthI a14 a8 ((0 : Int), (0 : Int))).1) ((nthI a14 a8 ((0 : Int), (0 : Int))).2) a9 a10 a11 a12) fun r18 =>
    (bif decide ((a13.length + [r18].length) * 8 ≤ 140737488355328) then
    (I.run_l0 m e3_0 e3_1 a7 (IntKind.wrap .i64 (a8 + 1)) a9 a10 a11 a12 (a13 ++ [r18]) a14)
    else
    none))
    else
    (bif (r17 == 1) then
    (let v20 : Int := (IntKind.wrap .i64 (v16 - 1))
    (let v21 : Int := (IntKind.wrap .i64 (v16 - 1))
    (bif decide ((0 : Int) ≤ v21 ∧ v21 < (a13.length : Int)) then
    (Option.bind (I.truth ((nthI a13 v21 (0 : Int)) == 0)) fun r23 =>
    (bif decide ((0 : Int) ≤ v20 ∧ v20 < (a13.length : Int)) then
    (I.run_l0 m e3_0 e3_1 a7 (IntKind.wrap .i64 (a8 + 1)) a9 a10 a11 a12 (a13.set (Int.toNat v20) r23) a14)
    else
    none))
    else
    none)))
    else
    (let v26 : Int := (IntKind.wrap .i64 (v16 - 2))
    (bif decide ((0 : Int) ≤ v26 ∧ v26 < (a13.length : Int)) then
    (let v27 : Int := (IntKind.wrap .i64 (v16 - 1))
    (bif decide ((0 : Int) ≤ v27 ∧ v27 < (a13.length : Int)) then
    (Option.bind (I.apply ((nthI a14 a8 ((0 : Int), (0 : Int))).1) (nthI a13 v26 (0 : Int)) (nthI a13 v27 (0 : Int))) fun r28 =>
    (bif (r28.2 != 0) then
    (e3_0 0 r28.2 a13)
    else
    (let v29 : Int := (IntKind.wrap .i64 (v16 - 2))
    (bif decide ((0 : Int) ≤ 0 ∧ 0 ≤ v29 ∧ v29 ≤ (a13.length : Int)) then
    (bif decide (((a13.take (Int.toNat v29)).length + [r28.1].length) * 8 ≤ 140737488355328) then
    (I.run_l0 m e3_0 e3_1 a7 (IntKind.wrap .i64 (a8 + 1)) a9 a10 a11 a12 ((a13.take (Int.toNat v29)) ++ [r28.1]) a14)
    else
    none)
    else
    none))))
    else
    none))
    else
    none))))))
    else
    none)
    else
    (e3_1 a13))
noncomputable def I.run (a1 a2 a3 a4 : Int) (a5 : List (Int × Int)) : Option (Int × Int) :=
(I.run_l0 fu (fun y32 y33 y34 =>
(some (y32, y33))) (fun y35 =>
(bif decide ((0 : Int) ≤ 0 ∧ 0 < (y35.length : Int)) then
(some ((nthI y35 0 (0 : Int)), 0))
else
none)) (a5.length : Int) 0 a1 a2 a3 a4 [] a5)
noncomputable def H172_3 : LoopH := ⟨⟨(hu 3 ((.one (.ptr 0 0)) :: (hu 2 ((.one (.sl 0)) :: (hu 6 ((.one (.sl 1)) :: hh :: hh :: (hu 58 []))))))), [(38, [.hole, .hole, .hole, .hole])], [(3, (.int .i64), .own), (169, (.pair (.int .i64) (.int .i64)), .ro)]⟩, [0, 1, 2, 4, 5, 7, 8, 9, 10, 11, 12, 16, 17, 18, 19, 20, 21, 22, 23, 24, 25, 26, 27, 28, 29, 30, 31, 32, 33, 34, 35, 36, 37, 38, 39, 40, 41, 42, 43, 44, 45, 46, 47, 48, 49, 50, 51, 52, 53, 54, 55, 56, 57, 58, 59, 60, 61, 62, 63, 64, 65, 66, 67, 68, 69, 70, 71, 72, 73], [], [0, 1, 2, 3, 7, 8, 9, 10, 11, 12, 13, 14, 15, 16, 17, 18, 19, 20, 21, 22, 23, 24, 25, 26, 27, 28, 29, 30, 31, 32, 33, 34, 35, 36, 37, 38, 39, 40, 41, 42, 43, 44, 45, 46, 47, 48, 49, 50, 51, 52, 53, 54, 55, 56, 57, 58, 59, 60, 61, 62, 63, 64, 65, 66, 67, 68, 69, 70, 71, 72, 73]⟩
noncomputable def E172_3 (m : Nat) (ps : List Prm) (k : Kont (Int × Int)) : Option (Int × Int) :=
  match ps with
  | [.v (.int .i64 a7), .v (.int .i64 a8), .v (.int .i64 a9), .v (.int .i64 a10), .v (.int .i64 a11), .v (.int .i64 a12), .row (.int .i64) a13, .row (.pair (.int .i64) (.int .i64)) a14] => I.run_l0 m (fun z41 z42 z43 => k .ret (⟨(vu 4 ((vi z41) :: (vi z42) :: (vl 0) :: (vu 67 []))), [], [⟨3, (.int .i64), z43, .own⟩]⟩ : St)) (fun z44 => k (.exit 0) (⟨(vu 6 ((vl 0) :: (vu 67 []))), [], [⟨3, (.int .i64), z44, .own⟩]⟩ : St)) a7 a8 a9 a10 a11 a12 a13 a14
  | _ => none
noncomputable def S172_3 (a7 a8 a9 a10 a11 a12 : Int) (a13 : List Int) (a14 : List (Int × Int)) : St := (⟨(vu 3 ((vp 0 0) :: (vu 2 ((vl 0) :: (vu 6 ((vl 1) :: (vi a7) :: (vi a8) :: (vu 58 []))))))), [(38, [ai a9, ai a10, ai a11, ai a12])], [⟨3, (.int .i64), a13, .own⟩, ⟨169, (.pair (.int .i64) (.int .i64)), a14, .ro⟩]⟩ : St)
theorem ev172_3 (m : Nat) (k : Kont (Int × Int)) (a7 a8 a9 a10 a11 a12 : Int) (a13 : List Int) (a14 : List (Int × Int)) : evC Try.prog G172 loopNil c172_3 (S172_3 a7 a8 a9 a10 a11 a12 a13 a14) (turn Try.prog (0, 0) H172_3 (E172_3 m) k) = E172_3 (m + 1) [.v (.int .i64 a7), .v (.int .i64 a8), .v (.int .i64 a9), .v (.int .i64 a10), .v (.int .i64 a11), .v (.int .i64 a12), .row (.int .i64) a13, .row (.pair (.int .i64) (.int .i64)) a14] k := by kernel_rfl
theorem ok172_3 (m : Nat) : LoopOk Try.prog (0, 0) c172_3 (enter Try.prog (0, 0) H172_3 (E172_3 m)) := by
  refine loop_ok (G := G172) (L := loopNil) (envCons_good good191 (envCons_good good192 (envCons_good good193 (envCons_good good194 envNil_good)))) (by intro x hx; simp [show loopsOf c172_3 = [] from by kernel_rfl] at hx) (fun ps k => by unfold E172_3; split <;> rfl) (fun m ps k r h => ?_) m
  have h0 := h
  unfold E172_3 at h
  split at h
  · exact ⟨S172_3 _ _ _ _ _ _ _ _, by kernel_rfl, (ev172_3 m k _ _ _ _ _ _ _ _).trans h0⟩
  · cases h
noncomputable def L172 : LEnv (Int × Int) := (loopCons 3 (enter Try.prog (0, 0) H172_3 (E172_3 fu)) loopNil)
theorem lq172 : loopsOf c172 = [c172_3] := by kernel_rfl
theorem fr172_3 : firstReg c172_3 = some 3 := by kernel_rfl
theorem le172_3 : L172 3 = enter Try.prog (0, 0) H172_3 (E172_3 fu) := by kernel_rfl
theorem lm172 : ∀ x ∈ [c172_3], ∀ id, firstReg x = some id → LoopOk Try.prog (0, 0) x (L172 id) := (loops_cons fr172_3 le172_3 (ok172_3 fu) loops_nil)
theorem lp172 : ∀ x ∈ loopsOf c172, ∀ id, firstReg x = some id → LoopOk Try.prog (0, 0) x (L172 id) := loops_eq lq172 lm172
noncomputable def R172 (x : Int × Int) : Res := ⟨[.one (ai x.1), .one (ai x.2)], [], []⟩
noncomputable def K172 (r : Res) : Option (Int × Int) :=
  match r with
  | ⟨[.one (.val (.int .i64 v1)), .one (.val (.int .i64 v2))], [], []⟩ => some (v1, v2)
  | _ => none
noncomputable def E172 : Fun2 := fun args bs rs =>
  match args, bs, rs with
  | [.s1 (.one (.sl 0)), .s1 (.agg [.val (.int .i64 a1), .val (.int .i64 a2), .val (.int .i64 a3), .val (.int .i64 a4)])], [], [⟨169, (.pair (.int .i64) (.int .i64)), a5, .ro⟩] => some ⟨Int × Int, I.run a1 a2 a3 a4 a5, R172⟩
  | _, _, _ => none
theorem ev172 (a1 a2 a3 a4 : Int) (a5 : List (Int × Int)) : evF Try.prog G172 L172 (0, 0) Try.f172 c172 [vl 0, .s1 (.agg [ai a1, ai a2, ai a3, ai a4])] [] [⟨169, (.pair (.int .i64) (.int .i64)), a5, .ro⟩] K172 = I.run a1 a2 a3 a4 a5 := by kernel_rfl
theorem good172 : Vm.Good Try.prog 172 E172 := by
  refine evF_good (G := G172) (c := c172) (envCons_good good191 (envCons_good good192 (envCons_good good193 (envCons_good good194 envNil_good)))) Try.func172 (by kernel_rfl) (by kernel_rfl) (0, 0) (fun args bs rs out t h h2 => ?_)
  unfold E172 at h
  split at h
  · injection h with h
    subst h
    exact ⟨rfl, L172, K172, lp172, (fun r t h => by unfold K172 at h; split at h; (injection h with h; subst h; rfl); cases h), (ev172 _ _ _ _ _).trans h2⟩
  · cases h
/-! ### I.take -/
noncomputable def G120 : Env := (envCons 172 [] E172 envNil)
noncomputable def c120 : Code := bodyOf Try.f120
noncomputable def I.take (a1 a2 a3 a4 a5 a6 a7 a8 a9 : Int) (a10 a11 : List (Int × Int)) : Option (Int × Int) :=
(Option.bind (I.run a6 a7 a8 a9 a10) fun r12 =>
(bif (r12.2 != 0) then
(some (0, 3))
else
(bif (r12.1 == 0) then
(some (0, 1))
else
(Option.bind (I.run a6 a7 a8 a9 a11) fun r13 =>
(bif (r13.2 != 0) then
(some (0, 3))
else
(some (r13.1, 0)))))))
noncomputable def R120 (x : Int × Int) : Res := ⟨[.one (ai x.1), .one (ai x.2)], [], []⟩
noncomputable def K120 (r : Res) : Option (Int × Int) :=
  match r with
  | ⟨[.one (.val (.int .i64 v1)), .one (.val (.int .i64 v2))], [], []⟩ => some (v1, v2)
  | _ => none
noncomputable def E120 : Fun2 := fun args bs rs =>
  match args, bs, rs with
  | [.s1 (.agg [.sl 0, .sl 1, .val (.int .i64 a1), .val (.int .i64 a2), .val (.int .i64 a3), .val (.int .i64 a4), .val (.int .i64 a5)]), .s1 (.agg [.val (.int .i64 a6), .val (.int .i64 a7), .val (.int .i64 a8), .val (.int .i64 a9)])], [], [⟨169, (.pair (.int .i64) (.int .i64)), a10, .ro⟩, ⟨169, (.pair (.int .i64) (.int .i64)), a11, .ro⟩] => some ⟨Int × Int, I.take a1 a2 a3 a4 a5 a6 a7 a8 a9 a10 a11, R120⟩
  | _, _, _ => none
theorem ev120 (a1 a2 a3 a4 a5 a6 a7 a8 a9 : Int) (a10 a11 : List (Int × Int)) : evF Try.prog G120 loopNil (0, 0) Try.f120 c120 [.s1 (.agg [.sl 0, .sl 1, ai a1, ai a2, ai a3, ai a4, ai a5]), .s1 (.agg [ai a6, ai a7, ai a8, ai a9])] [] [⟨169, (.pair (.int .i64) (.int .i64)), a10, .ro⟩, ⟨169, (.pair (.int .i64) (.int .i64)), a11, .ro⟩] K120 = I.take a1 a2 a3 a4 a5 a6 a7 a8 a9 a10 a11 := by kernel_rfl
theorem good120 : Vm.Good Try.prog 120 E120 := by
  refine evF_good (G := G120) (c := c120) (envCons_good good172 envNil_good) Try.func120 (by kernel_rfl) (by kernel_rfl) (0, 0) (fun args bs rs out t h h2 => ?_)
  unfold E120 at h
  split at h
  · injection h with h
    subst h
    exact ⟨rfl, loopNil, K120, (by intro x hx; simp [show loopsOf c120 = [] from by kernel_rfl] at hx), (fun r t h => by unfold K120 at h; split at h; (injection h with h; subst h; rfl); cases h), (ev120 _ _ _ _ _ _ _ _ _ _ _).trans h2⟩
  · cases h
/-! ### I.QueryTake -/
noncomputable def G62 : Env := (envCons 69 [] E69 (envCons 119 [] E119 (envCons 120 [] E120 envNil)))
noncomputable def c62 : Code := bodyOf Try.f62
noncomputable def I.QueryTake (a1 a2 a3 a4 a5 a6 a7 a8 a9 : Int) (a10 a11 : List (Int × Int)) : Option (Int × Int) :=
(Option.bind (I.isQuery a1 a2 a3 a4 a5 a10 a11) fun r12 =>
(bif (!r12) then
(some (0, 2))
else
(Option.bind (I.isElem a6 a7 a8 a9) fun r13 =>
(bif (!r13) then
(some (0, 2))
else
(Option.bind (I.take a1 a2 a3 a4 a5 a6 a7 a8 a9 a10 a11) fun r14 =>
(some (r14.1, r14.2)))))))
noncomputable def R62 (x : Int × Int) : Res := ⟨[.one (ai x.1), .one (ai x.2)], [], []⟩
noncomputable def K62 (r : Res) : Option (Int × Int) :=
  match r with
  | ⟨[.one (.val (.int .i64 v1)), .one (.val (.int .i64 v2))], [], []⟩ => some (v1, v2)
  | _ => none
noncomputable def E62 : Fun2 := fun args bs rs =>
  match args, bs, rs with
  | [.s1 (.agg [.sl 0, .sl 1, .val (.int .i64 a1), .val (.int .i64 a2), .val (.int .i64 a3), .val (.int .i64 a4), .val (.int .i64 a5)]), .s1 (.agg [.val (.int .i64 a6), .val (.int .i64 a7), .val (.int .i64 a8), .val (.int .i64 a9)])], [], [⟨169, (.pair (.int .i64) (.int .i64)), a10, .ro⟩, ⟨169, (.pair (.int .i64) (.int .i64)), a11, .ro⟩] => some ⟨Int × Int, I.QueryTake a1 a2 a3 a4 a5 a6 a7 a8 a9 a10 a11, R62⟩
  | _, _, _ => none
theorem ev62 (a1 a2 a3 a4 a5 a6 a7 a8 a9 : Int) (a10 a11 : List (Int × Int)) : evF Try.prog G62 loopNil (0, 0) Try.f62 c62 [.s1 (.agg [.sl 0, .sl 1, ai a1, ai a2, ai a3, ai a4, ai a5]), .s1 (.agg [ai a6, ai a7, ai a8, ai a9])] [] [⟨169, (.pair (.int .i64) (.int .i64)), a10, .ro⟩, ⟨169, (.pair (.int .i64) (.int .i64)), a11, .ro⟩] K62 = I.QueryTake a1 a2 a3 a4 a5 a6 a7 a8 a9 a10 a11 := by kernel_rfl
theorem good62 : Vm.Good Try.prog 62 E62 := by
  refine evF_good (G := G62) (c := c62) (envCons_good good69 (envCons_good good119 (envCons_good good120 envNil_good))) Try.func62 (by kernel_rfl) (by kernel_rfl) (0, 0) (fun args bs rs out t h h2 => ?_)
  unfold E62 at h
  split at h
  · injection h with h
    subst h
    exact ⟨rfl, loopNil, K62, (by intro x hx; simp [show loopsOf c62 = [] from by kernel_rfl] at hx), (fun r t h => by unfold K62 at h; split at h; (injection h with h; subst h; rfl); cases h), (ev62 _ _ _ _ _ _ _ _ _ _ _).trans h2⟩
  · cases h
/-! ### L.eqTok -/
noncomputable def G126 : Env := envNil
noncomputable def c126 : Code := bodyOf Try.f126
noncomputable def L.eqTok (a1 a2 a3 a4 : Int) : Option Bool :=
(bif (a1 != a3) then
(some false)
else
(bif (a2 != a4) then
(some false)
else
(some true)))
noncomputable def R126 (x : Bool) : Res := ⟨[.one (ab x)], [], []⟩
noncomputable def K126 (r : Res) : Option Bool :=
  match r with
  | ⟨[.one (.val (.bool v1))], [], []⟩ => some (v1)
  | _ => none
noncomputable def E126 : Fun2 := fun args bs rs =>
  match args, bs, rs with
  | [.s1 (.agg [.val (.int .i64 a1), .val (.int .i64 a2)]), .s1 (.agg [.val (.int .i64 a3), .val (.int .i64 a4)])], [], [] => some ⟨Bool, L.eqTok a1 a2 a3 a4, R126⟩
  | _, _, _ => none
theorem ev126 (a1 a2 a3 a4 : Int) : evF Try.prog G126 loopNil (0, 0) Try.f126 c126 [.s1 (.agg [ai a1, ai a2]), .s1 (.agg [ai a3, ai a4])] [] [] K126 = L.eqTok a1 a2 a3 a4 := by kernel_rfl
theorem good126 : Vm.Good Try.prog 126 E126 := by
  refine evF_good (G := G126) (c := c126) envNil_good Try.func126 (by kernel_rfl) (by kernel_rfl) (0, 0) (fun args bs rs out t h h2 => ?_)
  unfold E126 at h
  split at h
  · injection h with h
    subst h
    exact ⟨rfl, loopNil, K126, (by intro x hx; simp [show loopsOf c126 = [] from by kernel_rfl] at hx), (fun r t h => by unfold K126 at h; split at h; (injection h with h; subst h; rfl); cases h), (ev126 _ _ _ _).trans h2⟩
  · cases h
/-! ### L.eqTokS -/
noncomputable def G70 : Env := (envCons 126 [] E126 envNil)
noncomputable def c70 : Code := bodyOf Try.f70
noncomputable def c70_4 : Code := (loopsOf c70).getD 0 .skip
noncomputable def L.eqTokS_l0 : Nat → (Bool → Option Bool) → (Option Bool) → Int → (List (Int × Int)) → (List (Int × Int)) → Option Bool
  | 0, _, _, _, _, _ => none
  | m + 1, e4_0, e4_1, a5, a6, a7 =>
    (bif (decide (a5 < (a6.length : Int))) then
    (bif decide ((0 : Int) ≤ a5 ∧ a5 < (a6.length : Int)) then
    (bif decide ((0 : Int) ≤ a5 ∧ a5 < (a7.length : Int)) then
    (Option.bind (L.eqTok ((nthI a6 a5 ((0 : Int), (0 : Int))).1) ((nthI a6 a5 ((0 : Int), (0 : Int))).2) ((nthI a7 a5 ((0 : Int), (0 : Int))).1) ((nthI a7 a5 ((0 : Int), (0 : Int))).2)) fun r10 =>
    (bif (!r10) then
    (e4_0 false)
    else
    (L.eqTokS_l0 m e4_0 e4_1 (IntKind.wrap .i64 (a5 + 1)) a6 a7)))
    else
    none)
    else
    none)
    else
    e4_1)
noncomputable def L.eqTokS (a1 a2 : List (Int × Int)) : Option Bool :=
(bif ((a1.length : Int) != (a2.length : Int)) then
(some false)
else
(L.eqTokS_l0 fu (fun y12 =>
(some y12)) (some true) 0 a1 a2))
noncomputable def H70_4 : LoopH := ⟨⟨((.one (.sl 0)) :: (.one (.sl 1)) :: (hu 3 (hh :: (hu 21 [])))), [], [(169, (.pair (.int .i64) (.int .i64)), .ro), (169, (.pair (.int .i64) (.int .i64)), .ro)]⟩, [2, 3, 4, 6, 7, 8, 9, 10, 11, 12, 13, 14, 15, 16, 17, 18, 19, 20, 21, 22, 23, 24, 25, 26], [], [0, 1, 2, 3, 5, 6, 7, 8, 9, 10, 11, 12, 13, 14, 15, 16, 17, 18, 19, 20, 21, 22, 23, 24, 25, 26]⟩
noncomputable def E70_4 (m : Nat) (ps : List Prm) (k : Kont Bool) : Option Bool :=
  match ps with
  | [.v (.int .i64 a5), .row (.pair (.int .i64) (.int .i64)) a6, .row (.pair (.int .i64) (.int .i64)) a7] => L.eqTokS_l0 m (fun z14 => k .ret (⟨(vu 4 ((vb z14) :: (vu 22 []))), [], []⟩ : St)) (k (.exit 0) (⟨(vu 27 []), [], []⟩ : St)) a5 a6 a7
  | _ => none
noncomputable def S70_4 (a5 : Int) (a6 a7 : List (Int × Int)) : St := (⟨((vl 0) :: (vl 1) :: (vu 3 ((vi a5) :: (vu 21 [])))), [], [⟨169, (.pair (.int .i64) (.int .i64)), a6, .ro⟩, ⟨169, (.pair (.int .i64) (.int .i64)), a7, .ro⟩]⟩ : St)
theorem ev70_4 (m : Nat) (k : Kont Bool) (a5 : Int) (a6 a7 : List (Int × Int)) : evC Try.prog G70 loopNil c70_4 (S70_4 a5 a6 a7) (turn Try.prog (0, 0) H70_4 (E70_4 m) k) = E70_4 (m + 1) [.v (.int .i64 a5), .row (.pair (.int .i64) (.int .i64)) a6, .row (.pair (.int .i64) (.int .i64)) a7] k := by kernel_rfl
theorem ok70_4 (m : Nat) : LoopOk Try.prog (0, 0) c70_4 (enter Try.prog (0, 0) H70_4 (E70_4 m)) := by
  refine loop_ok (G := G70) (L := loopNil) (envCons_good good126 envNil_good) (by intro x hx; simp [show loopsOf c70_4 = [] from by kernel_rfl] at hx) (fun ps k => by unfold E70_4; split <;> rfl) (fun m ps k r h => ?_) m
  have h0 := h
  unfold E70_4 at h
  split at h
  · exact ⟨S70_4 _ _ _, by kernel_rfl, (ev70_4 m k _ _ _).trans h0⟩
  · cases h
noncomputable def L70 : LEnv Bool := (loopCons 4 (enter Try.prog (0, 0) H70_4 (E70_4 fu)) loopNil)
theorem lq70 : loopsOf c70 = [c70_4] := by kernel_rfl
theorem fr70_4 : firstReg c70_4 = some 4 := by kernel_rfl
theorem le70_4 : L70 4 = enter Try.prog (0, 0) H70_4 (E70_4 fu) := by kernel_rfl
theorem lm70 : ∀ x ∈ [c70_4], ∀ id, firstReg x = some id → LoopOk Try.prog (0, 0) x (L70 id) := (loops_cons fr70_4 le70_4 (ok70_4 fu) loops_nil)
theorem lp70 : ∀ x ∈ loopsOf c70, ∀ id, firstReg x = some id → LoopOk Try.prog (0, 0) x (L70 id) := loops_eq lq70 lm70
noncomputable def R70 (x : Bool) : Res := ⟨[.one (ab x)], [], []⟩
noncomputable def K70 (r : Res) : Option Bool :=
  match r with
  | ⟨[.one (.val (.bool v1))], [], []⟩ => some (v1)
  | _ => none
noncomputable def E70 : Fun2 := fun args bs rs =>
  match args, bs, rs with
  | [.s1 (.one (.sl 0)), .s1 (.one (.sl 1))], [], [⟨169, (.pair (.int .i64) (.int .i64)), a1, .ro⟩, ⟨169, (.pair (.int .i64) (.int .i64)), a2, .ro⟩] => some ⟨Bool, L.eqTokS a1 a2, R70⟩
  | _, _, _ => none
theorem ev70 (a1 a2 : List (Int × Int)) : evF Try.prog G70 L70 (0, 0) Try.f70 c70 [vl 0, vl 1] [] [⟨169, (.pair (.int .i64) (.int .i64)), a1, .ro⟩, ⟨169, (.pair (.int .i64) (.int .i64)), a2, .ro⟩] K70 = L.eqTokS a1 a2 := by kernel_rfl
theorem good70 : Vm.Good Try.prog 70 E70 := by
  refine evF_good (G := G70) (c := c70) (envCons_good good126 envNil_good) Try.func70 (by kernel_rfl) (by kernel_rfl) (0, 0) (fun args bs rs out t h h2 => ?_)
  unfold E70 at h
  split at h
  · injection h with h
    subst h
    exact ⟨rfl, L70, K70, lp70, (fun r t h => by unfold K70 at h; split at h; (injection h with h; subst h; rfl); cases h), (ev70 _ _).trans h2⟩
  · cases h
/-! ### L.eqWinDef -/
noncomputable def G71 : Env := envNil
noncomputable def c71 : Code := bodyOf Try.f71
noncomputable def L.eqWinDef (a1 a2 a3 a4 a5 a6 : Int) : Option Bool :=
(bif (a1 != a4) then
(some false)
else
(bif (a2 != a5) then
(some false)
else
(bif (a3 != a6) then
(some false)
else
(some true))))
noncomputable def R71 (x : Bool) : Res := ⟨[.one (ab x)], [], []⟩
noncomputable def K71 (r : Res) : Option Bool :=
  match r with
  | ⟨[.one (.val (.bool v1))], [], []⟩ => some (v1)
  | _ => none
noncomputable def E71 : Fun2 := fun args bs rs =>
  match args, bs, rs with
  | [.s1 (.agg [.val (.int .i64 a1), .val (.int .i64 a2), .val (.int .i64 a3)]), .s1 (.agg [.val (.int .i64 a4), .val (.int .i64 a5), .val (.int .i64 a6)])], [], [] => some ⟨Bool, L.eqWinDef a1 a2 a3 a4 a5 a6, R71⟩
  | _, _, _ => none
theorem ev71 (a1 a2 a3 a4 a5 a6 : Int) : evF Try.prog G71 loopNil (0, 0) Try.f71 c71 [.s1 (.agg [ai a1, ai a2, ai a3]), .s1 (.agg [ai a4, ai a5, ai a6])] [] [] K71 = L.eqWinDef a1 a2 a3 a4 a5 a6 := by kernel_rfl
theorem good71 : Vm.Good Try.prog 71 E71 := by
  refine evF_good (G := G71) (c := c71) envNil_good Try.func71 (by kernel_rfl) (by kernel_rfl) (0, 0) (fun args bs rs out t h h2 => ?_)
  unfold E71 at h
  split at h
  · injection h with h
    subst h
    exact ⟨rfl, loopNil, K71, (by intro x hx; simp [show loopsOf c71 = [] from by kernel_rfl] at hx), (fun r t h => by unfold K71 at h; split at h; (injection h with h; subst h; rfl); cases h), (ev71 _ _ _ _ _ _).trans h2⟩
  · cases h
/-! ### L.eqQuery -/
noncomputable def G17 : Env := (envCons 70 [] E70 (envCons 71 [] E71 envNil))
noncomputable def c17 : Code := bodyOf Try.f17
noncomputable def L.eqQuery (a1 a2 a3 a4 a5 a6 a7 a8 a9 a10 : Int) (a11 a12 a13 a14 : List (Int × Int)) : Option Bool :=
(Option.bind (L.eqTokS a11 a13) fun r15 =>
(bif (!r15) then
(some false)
else
(Option.bind (L.eqTokS a12 a14) fun r16 =>
(bif (!r16) then
(some false)
else
(Option.bind (L.eqWinDef a1 a2 a3 a6 a7 a8) fun r17 =>
(bif (!r17) then
(some false)
else
(bif (a4 != a9) then
(some false)
else
(bif (a5 != a10) then
(some false)
else
(some true)))))))))
noncomputable def R17 (x : Bool) : Res := ⟨[.one (ab x)], [], []⟩
noncomputable def K17 (r : Res) : Option Bool :=
  match r with
  | ⟨[.one (.val (.bool v1))], [], []⟩ => some (v1)
  | _ => none
noncomputable def E17 : Fun2 := fun args bs rs =>
  match args, bs, rs with
  | [.s1 (.agg [.sl 0, .sl 1, .val (.int .i64 a1), .val (.int .i64 a2), .val (.int .i64 a3), .val (.int .i64 a4), .val (.int .i64 a5)]), .s1 (.agg [.sl 2, .sl 3, .val (.int .i64 a6), .val (.int .i64 a7), .val (.int .i64 a8), .val (.int .i64 a9), .val (.int .i64 a10)])], [], [⟨169, (.pair (.int .i64) (.int .i64)), a11, .ro⟩, ⟨169, (.pair (.int .i64) (.int .i64)), a12, .ro⟩, ⟨169, (.pair (.int .i64) (.int .i64)), a13, .ro⟩, ⟨169, (.pair (.int .i64) (.int .i64)), a14, .ro⟩] => some ⟨Bool, L.eqQuery a1 a2 a3 a4 a5 a6 a7 a8 a9 a10 a11 a12 a13 a14, R17⟩
  | _, _, _ => none
theorem ev17 (a1 a2 a3 a4 a5 a6 a7 a8 a9 a10 : Int) (a11 a12 a13 a14 : List (Int × Int)) : evF Try.prog G17 loopNil (0, 0) Try.f17 c17 [.s1 (.agg [.sl 0, .sl 1, ai a1, ai a2, ai a3, ai a4, ai a5]), .s1 (.agg [.sl 2, .sl 3, ai a6, ai a7, ai a8, ai a9, ai a10])] [] [⟨169, (.pair (.int .i64) (.int .i64)), a11, .ro⟩, ⟨169, (.pair (.int .i64) (.int .i64)), a12, .ro⟩, ⟨169, (.pair (.int .i64) (.int .i64)), a13, .ro⟩, ⟨169, (.pair (.int .i64) (.int .i64)), a14, .ro⟩] K17 = L.eqQuery a1 a2 a3 a4 a5 a6 a7 a8 a9 a10 a11 a12 a13 a14 := by kernel_rfl
theorem good17 : Vm.Good Try.prog 17 E17 := by
  refine evF_good (G := G17) (c := c17) (envCons_good good70 (envCons_good good71 envNil_good)) Try.func17 (by kernel_rfl) (by kernel_rfl) (0, 0) (fun args bs rs out t h h2 => ?_)
  unfold E17 at h
  split at h
  · injection h with h
    subst h
    exact ⟨rfl, loopNil, K17, (by intro x hx; simp [show loopsOf c17 = [] from by kernel_rfl] at hx), (fun r t h => by unfold K17 at h; split at h; (injection h with h; subst h; rfl); cases h), (ev17 _ _ _ _ _ _ _ _ _ _ _ _ _ _).trans h2⟩
  · cases h
/-! ### L.FnExactQueryTake -/
noncomputable def G12 : Env := (envCons 13 [] E13 (envCons 15 [] E15 (envCons 61 [] E61 (envCons 60 [] E60 (envCons 62 [] E62 (envCons 17 [] E17 envNil))))))
noncomputable def c12 : Code := bodyOf Try.f12
noncomputable def L.FnExactQueryTake (a1 a2 a3 a4 a5 a6 a7 a8 a9 : Int) (a10 a11 : List (Int × Int)) : Option Bool :=
(Option.bind (L.szQuery a1 a2 a3 a4 a5 1048576 a10 a11) fun r12 =>
(bif (decide (r12 < 0)) then
(some true)
else
(Option.bind (L.toQuery a1 a2 a3 a4 a5 a10 a11) fun r14 =>
(Option.bind (L.toElem a6 a7 a8 a9) fun r15 =>
(Option.bind (S.QueryTake r14.1 r14.2.1 r14.2.2.1 r14.2.2.2.1 r14.2.2.2.2.1 r15.1 r15.2.1 r15.2.2.1 r15.2.2.2 r14.2.2.2.2.2.1 r14.2.2.2.2.2.2) fun r16 =>
(Option.bind (L.toQuery a1 a2 a3 a4 a5 a10 a11) fun r17 =>
(Option.bind (L.toElem a6 a7 a8 a9) fun r18 =>
(Option.bind (I.QueryTake r17.1 r17.2.1 r17.2.2.1 r17.2.2.2.1 r17.2.2.2.2.1 r18.1 r18.2.1 r18.2.2.1 r18.2.2.2 r17.2.2.2.2.2.1 r17.2.2.2.2.2.2) fun r19 =>
(bif (r19.1 != r16.1) then
(some false)
else
(bif (r19.2 != r16.2) then
(some false)
else
(Option.bind (L.toQuery a1 a2 a3 a4 a5 a10 a11) fun r22 =>
(Option.bind (L.eqQuery r17.1 r17.2.1 r17.2.2.1 r17.2.2.2.1 r17.2.2.2.2.1 r22.1 r22.2.1 r22.2.2.1 r22.2.2.2.1 r22.2.2.2.2.1 r17.2.2.2.2.2.1 r17.2.2.2.2.2.2 r22.2.2.2.2.2.1 r22.2.2.2.2.2.2) fun r23 =>
(bif (!r23) then
(some false)
else
(some true))))))))))))))
noncomputable def R12 (x : Bool) : Res := ⟨[.one (ab x)], [], []⟩
noncomputable def K12 (r : Res) : Option Bool :=
  match r with
  | ⟨[.one (.val (.bool v1))], [], []⟩ => some (v1)
  | _ => none
noncomputable def E12 : Fun2 := fun args bs rs =>
  match args, bs, rs with
  | [.s1 (.agg [.sl 0, .sl 1, .val (.int .i64 a1), .val (.int .i64 a2), .val (.int .i64 a3), .val (.int .i64 a4), .val (.int .i64 a5)]), .s1 (.agg [.val (.int .i64 a6), .val (.int .i64 a7), .val (.int .i64 a8), .val (.int .i64 a9)])], [], [⟨171, (.pair (.int .i64) (.int .i64)), a10, .ro⟩, ⟨171, (.pair (.int .i64) (.int .i64)), a11, .ro⟩] => some ⟨Bool, L.FnExactQueryTake a1 a2 a3 a4 a5 a6 a7 a8 a9 a10 a11, R12⟩
  | _, _, _ => none
theorem ev12 (a1 a2 a3 a4 a5 a6 a7 a8 a9 : Int) (a10 a11 : List (Int × Int)) : evF Try.prog G12 loopNil (0, 0) Try.f12 c12 [.s1 (.agg [.sl 0, .sl 1, ai a1, ai a2, ai a3, ai a4, ai a5]), .s1 (.agg [ai a6, ai a7, ai a8, ai a9])] [] [⟨171, (.pair (.int .i64) (.int .i64)), a10, .ro⟩, ⟨171, (.pair (.int .i64) (.int .i64)), a11, .ro⟩] K12 = L.FnExactQueryTake a1 a2 a3 a4 a5 a6 a7 a8 a9 a10 a11 := by kernel_rfl
theorem good12 : Vm.Good Try.prog 12 E12 := by
  refine evF_good (G := G12) (c := c12) (envCons_good good13 (envCons_good good15 (envCons_good good61 (envCons_good good60 (envCons_good good62 (envCons_good good17 envNil_good)))))) Try.func12 (by kernel_rfl) (by kernel_rfl) (0, 0) (fun args bs rs out t h h2 => ?_)
  unfold E12 at h
  split at h
  · injection h with h
    subst h
    exact ⟨rfl, loopNil, K12, (by intro x hx; simp [show loopsOf c12 = [] from by kernel_rfl] at hx), (fun r t h => by unfold K12 at h; split at h; (injection h with h; subst h; rfl); cases h), (ev12 _ _ _ _ _ _ _ _ _ _ _).trans h2⟩
  · cases h
end Go.Proofs.Ytflagchmcnfigaa.Run
