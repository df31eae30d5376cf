import Derived.Test.YthddkomphkanbaaVmU
import Derived.Test.YthddkomphkanbaaProg
namespace Go.Proofs.Ythddkomphkanbaa.Run
open Go Go.RowKit Go.Proofs.YthddkomphkanbaaW.PrintWords Go.Proofs.Ythddkomphkanbaa.Vm
set_option linter.unusedVariables false
set_option maxRecDepth 100000

/-! ### L.szUint64S -/
noncomputable def G102 : Env := envNil
noncomputable def c102 : Code := bodyOf Try.f102
noncomputable def L.szUint64S (a1 : Int) (a2 : List Int) : Option Int :=
(let v4 : Int := (IntKind.wrap .i64 (a1 - (a2.length : Int)))
(bif (decide (v4 < 0)) then
(some (-1))
else
(some v4)))
noncomputable def R102 (x : Int) : Res := ⟨[.one (ai x)], [], []⟩
noncomputable def K102 (r : Res) : Option Int :=
  match r with
  | ⟨[.one (.val (.int .i64 v1))], [], []⟩ => some (v1)
  | _ => none
noncomputable def E102 : Fun2 := fun args bs rs =>
  match args, bs, rs with
  | [.s1 (.one (.sl 0)), .s1 (.one (.val (.int .i64 a1)))], [], [⟨117, (.int .u64), a2, .ro⟩] => some ⟨Int, L.szUint64S a1 a2, R102⟩
  | _, _, _ => none
theorem ev102 (a1 : Int) (a2 : List Int) : evF Try.prog G102 loopNil (0, 0) Try.f102 c102 [vl 0, vi a1] [] [⟨117, (.int .u64), a2, .ro⟩] K102 = L.szUint64S a1 a2 := by kernel_rfl
theorem good102 : Vm.Good Try.prog 102 E102 := by
  refine evF_good (G := G102) (c := c102) envNil_good Try.func102 (by kernel_rfl) (by kernel_rfl) (0, 0) (fun args bs rs out t h h2 => ?_)
  unfold E102 at h
  split at h
  · injection h with h
    subst h
    exact ⟨rfl, loopNil, K102, (by intro x hx; simp [show loopsOf c102 = [] from by kernel_rfl] at hx), (fun r t h => by unfold K102 at h; split at h; (injection h with h; subst h; rfl); cases h), (ev102 _ _).trans h2⟩
  · cases h
/-! ### L.szLat -/
noncomputable def G29 : Env := (envCons 102 [] E102 envNil)
noncomputable def c29 : Code := bodyOf Try.f29
noncomputable def L.szLat (a1 a2 : Int) (a3 : List Int) : Option Int :=
(Option.bind (L.szUint64S a2 a3) fun r4 =>
(bif (decide (r4 < 0)) then
(some (-1))
else
(some r4)))
noncomputable def R29 (x : Int) : Res := ⟨[.one (ai x)], [], []⟩
noncomputable def K29 (r : Res) : Option Int :=
  match r with
  | ⟨[.one (.val (.int .i64 v1))], [], []⟩ => some (v1)
  | _ => none
noncomputable def E29 : Fun2 := fun args bs rs =>
  match args, bs, rs with
  | [.s1 (.agg [.val (.int .i64 a1), .sl 0]), .s1 (.one (.val (.int .i64 a2)))], [], [⟨117, (.int .u64), a3, .ro⟩] => some ⟨Int, L.szLat a1 a2 a3, R29⟩
  | _, _, _ => none
theorem ev29 (a1 a2 : Int) (a3 : List Int) : evF Try.prog G29 loopNil (0, 0) Try.f29 c29 [.s1 (.agg [ai a1, .sl 0]), vi a2] [] [⟨117, (.int .u64), a3, .ro⟩] K29 = L.szLat a1 a2 a3 := by kernel_rfl
theorem good29 : Vm.Good Try.prog 29 E29 := by
  refine evF_good (G := G29) (c := c29) (envCons_good good102 envNil_good) Try.func29 (by kernel_rfl) (by kernel_rfl) (0, 0) (fun args bs rs out t h h2 => ?_)
  unfold E29 at h
  split at h
  · injection h with h
    subst h
    exact ⟨rfl, loopNil, K29, (by intro x hx; simp [show loopsOf c29 = [] from by kernel_rfl] at hx), (fun r t h => by unfold K29 at h; split at h; (injection h with h; subst h; rfl); cases h), (ev29 _ _ _).trans h2⟩
  · cases h
/-! ### L.szTokS -/
noncomputable def G158 : Env := envNil
noncomputable def c158 : Code := bodyOf Try.f158
noncomputable def L.szTokS (a1 : Int) (a2 : List (Int × Int)) : Option Int :=
(let v4 : Int := (IntKind.wrap .i64 (a1 - (a2.length : Int)))
(bif (decide (v4 < 0)) then
(some (-1))
else
(some v4)))
noncomputable def R158 (x : Int) : Res := ⟨[.one (ai x)], [], []⟩
noncomputable def K158 (r : Res) : Option Int :=
  match r with
  | ⟨[.one (.val (.int .i64 v1))], [], []⟩ => some (v1)
  | _ => none
noncomputable def E158 : Fun2 := fun args bs rs =>
  match args, bs, rs with
  | [.s1 (.one (.sl 0)), .s1 (.one (.val (.int .i64 a1)))], [], [⟨277, (.pair (.int .i64) (.int .i64)), a2, .ro⟩] => some ⟨Int, L.szTokS a1 a2, R158⟩
  | _, _, _ => none
theorem ev158 (a1 : Int) (a2 : List (Int × Int)) : evF Try.prog G158 loopNil (0, 0) Try.f158 c158 [vl 0, vi a1] [] [⟨277, (.pair (.int .i64) (.int .i64)), a2, .ro⟩] K158 = L.szTokS a1 a2 := by kernel_rfl
theorem good158 : Vm.Good Try.prog 158 E158 := by
  refine evF_good (G := G158) (c := c158) envNil_good Try.func158 (by kernel_rfl) (by kernel_rfl) (0, 0) (fun args bs rs out t h h2 => ?_)
  unfold E158 at h
  split at h
  · injection h with h
    subst h
    exact ⟨rfl, loopNil, K158, (by intro x hx; simp [show loopsOf c158 = [] from by kernel_rfl] at hx), (fun r t h => by unfold K158 at h; split at h; (injection h with h; subst h; rfl); cases h), (ev158 _ _).trans h2⟩
  · cases h
/-! ### L.szQuery -/
noncomputable def G75 : Env := (envCons 158 [] E158 envNil)
noncomputable def c75 : Code := bodyOf Try.f75
noncomputable def L.szQuery (a1 a2 a3 a4 a5 a6 : Int) (a7 a8 : List (Int × Int)) : Option Int :=
(Option.bind (L.szTokS a6 a7) fun r9 =>
(bif (decide (r9 < 0)) then
(some (-1))
else
(Option.bind (L.szTokS r9 a8) fun r11 =>
(bif (decide (r11 < 0)) then
(some (-1))
else
(some r11)))))
noncomputable def R75 (x : Int) : Res := ⟨[.one (ai x)], [], []⟩
noncomputable def K75 (r : Res) : Option Int :=
  match r with
  | ⟨[.one (.val (.int .i64 v1))], [], []⟩ => some (v1)
  | _ => none
noncomputable def E75 : Fun2 := fun args bs rs =>
  match args, bs, rs with
  | [.s1 (.agg [.sl 0, .sl 1, .val (.int .i64 a1), .val (.int .i64 a2), .val (.int .i64 a3), .val (.int .i64 a4), .val (.int .i64 a5)]), .s1 (.one (.val (.int .i64 a6)))], [], [⟨277, (.pair (.int .i64) (.int .i64)), a7, .ro⟩, ⟨277, (.pair (.int .i64) (.int .i64)), a8, .ro⟩] => some ⟨Int, L.szQuery a1 a2 a3 a4 a5 a6 a7 a8, R75⟩
  | _, _, _ => none
theorem ev75 (a1 a2 a3 a4 a5 a6 : Int) (a7 a8 : List (Int × Int)) : evF Try.prog G75 loopNil (0, 0) Try.f75 c75 [.s1 (.agg [.sl 0, .sl 1, ai a1, ai a2, ai a3, ai a4, ai a5]), vi a6] [] [⟨277, (.pair (.int .i64) (.int .i64)), a7, .ro⟩, ⟨277, (.pair (.int .i64) (.int .i64)), a8, .ro⟩] K75 = L.szQuery a1 a2 a3 a4 a5 a6 a7 a8 := by kernel_rfl
theorem good75 : Vm.Good Try.prog 75 E75 := by
  refine evF_good (G := G75) (c := c75) (envCons_good good158 envNil_good) Try.func75 (by kernel_rfl) (by kernel_rfl) (0, 0) (fun args bs rs out t h h2 => ?_)
  unfold E75 at h
  split at h
  · injection h with h
    subst h
    exact ⟨rfl, loopNil, K75, (by intro x hx; simp [show loopsOf c75 = [] from by kernel_rfl] at hx), (fun r t h => by unfold K75 at h; split at h; (injection h with h; subst h; rfl); cases h), (ev75 _ _ _ _ _ _ _ _).trans h2⟩
  · cases h
/-! ### L.szQueryS -/
noncomputable def G134 : Env := (envCons 75 [] E75 envNil)
noncomputable def c134 : Code := bodyOf Try.f134
noncomputable def c134_5 : Code := (loopsOf c134).getD 0 .skip
noncomputable def L.szQueryS_l0 : Nat → (Int → Int → Option Int) → (Int → Option Int) → Int → Int → (List (List (Int × Int) × List (Int × Int) × (Int × Int × Int) × Int × Int)) → Option Int
  | 0, _, _, _, _, _ => none
  | m + 1, e5_0, e5_1, a6, a7, a8 =>
    (bif (decide (a7 < (a8.length : Int))) then
    (bif decide ((0 : Int) ≤ a7 ∧ a7 < (a8.length : Int)) then
    (Option.bind (L.szQuery ((nthI a8 a7 ([], ([], (((0 : Int), ((0 : Int), (0 : Int))), ((0 : Int), (0 : Int)))))).2.2.1.1) ((nthI a8 a7 ([], ([], (((0 : Int), ((0 : Int), (0 : Int))), ((0 : Int), (0 : Int)))))).2.2.1.2.1) ((nthI a8 a7 ([], ([], (((0 : Int), ((0 : Int), (0 : Int))), ((0 : Int), (0 : Int)))))).2.2.1.2.2) ((nthI a8 a7 ([], ([], (((0 : Int), ((0 : Int), (0 : Int))), ((0 : Int), (0 : Int)))))).2.2.2.1) ((nthI a8 a7 ([], ([], (((0 : Int), ((0 : Int), (0 : Int))), ((0 : Int), (0 : Int)))))).2.2.2.2) a6 ((nthI a8 a7 ([], ([], (((0 : Int), ((0 : Int), (0 : Int))), ((0 : Int), (0 : Int)))))).1) ((nthI a8 a7 ([], ([], (((0 : Int), ((0 : Int), (0 : Int))), ((0 : Int), (0 : Int)))))).2.1)) fun r11 =>
    (bif (decide (r11 < 0)) then
    (e5_0 r11 (-1))
    else
    (L.szQueryS_l0 m e5_0 e5_1 r11 (IntKind.wrap .i64 (a7 + 1)) a8)))
    else
    none)
    else
    (e5_1 a6))
noncomputable def L.szQueryS (a1 : Int) (a2 : List (List (Int × Int) × List (Int × Int) × (Int × Int × Int) × Int × Int)) : Option Int :=
(let v4 : Int := (IntKind.wrap .i64 (a1 - (a2.length : Int)))
(bif (decide (v4 < 0)) then
(some (-1))
else
(L.szQueryS_l0 fu (fun y14 y15 =>
(some y15)) (fun y16 =>
(some y16)) v4 0 a2)))
noncomputable def H134_5 : LoopH := ⟨⟨((.one (.sl 0)) :: hh :: (hu 3 (hh :: (hu 21 [])))), [], [(114, (.pair (.sl 277 (.pair (.int .i64) (.int .i64))) (.pair (.sl 277 (.pair (.int .i64) (.int .i64))) (.pair (.pair (.int .i64) (.pair (.int .i64) (.int .i64))) (.pair (.int .i64) (.int .i64))))), .ro)]⟩, [2, 3, 4, 6, 7, 8, 9, 10, 11, 12, 13, 14, 15, 16, 17, 18, 19, 20, 21, 22, 23, 24, 25, 26], [], [0, 2, 3, 5, 6, 7, 8, 9, 10, 11, 12, 13, 14, 15, 16, 17, 18, 19, 20, 21, 22, 23, 24, 25, 26]⟩
noncomputable def E134_5 (m : Nat) (ps : List Prm) (k : Kont Int) : Option Int :=
  match ps with
  | [.v (.int .i64 a6), .v (.int .i64 a7), .row (.pair (.sl 277 (.pair (.int .i64) (.int .i64))) (.pair (.sl 277 (.pair (.int .i64) (.int .i64))) (.pair (.pair (.int .i64) (.pair (.int .i64) (.int .i64))) (.pair (.int .i64) (.int .i64))))) a8] => L.szQueryS_l0 m (fun z20 z21 => k .ret (⟨((.s1 (.one (.unk))) :: (vi z20) :: (vu 2 ((vi z21) :: (vu 22 [])))), [], []⟩ : St)) (fun z22 => k (.exit 0) (⟨((.s1 (.one (.unk))) :: (vi z22) :: (vu 25 [])), [], []⟩ : St)) a6 a7 a8
  | _ => none
noncomputable def S134_5 (a6 a7 : Int) (a8 : List (List (Int × Int) × List (Int × Int) × (Int × Int × Int) × Int × Int)) : St := (⟨((vl 0) :: (vi a6) :: (vu 3 ((vi a7) :: (vu 21 [])))), [], [⟨114, (.pair (.sl 277 (.pair (.int .i64) (.int .i64))) (.pair (.sl 277 (.pair (.int .i64) (.int .i64))) (.pair (.pair (.int .i64) (.pair (.int .i64) (.int .i64))) (.pair (.int .i64) (.int .i64))))), a8, .ro⟩]⟩ : St)
theorem ev134_5 (m : Nat) (k : Kont Int) (a6 a7 : Int) (a8 : List (List (Int × Int) × List (Int × Int) × (Int × Int × Int) × Int × Int)) : evC Try.prog G134 loopNil c134_5 (S134_5 a6 a7 a8) (turn Try.prog (0, 0) H134_5 (E134_5 m) k) = E134_5 (m + 1) [.v (.int .i64 a6), .v (.int .i64 a7), .row (.pair (.sl 277 (.pair (.int .i64) (.int .i64))) (.pair (.sl 277 (.pair (.int .i64) (.int .i64))) (.pair (.pair (.int .i64) (.pair (.int .i64) (.int .i64))) (.pair (.int .i64) (.int .i64))))) a8] k := by kernel_rfl
theorem ok134_5 (m : Nat) : LoopOk Try.prog (0, 0) c134_5 (enter Try.prog (0, 0) H134_5 (E134_5 m)) := by
  refine loop_ok (G := G134) (L := loopNil) (envCons_good good75 envNil_good) (by intro x hx; simp [show loopsOf c134_5 = [] from by kernel_rfl] at hx) (fun ps k => by unfold E134_5; split <;> rfl) (fun m ps k r h => ?_) m
  have h0 := h
  unfold E134_5 at h
  split at h
  · exact ⟨S134_5 _ _ _, by kernel_rfl, (ev134_5 m k _ _ _).trans h0⟩
  · cases h
noncomputable def L134 : LEnv Int := (loopCons 5 (enter Try.prog (0, 0) H134_5 (E134_5 fu)) loopNil)
theorem lq134 : loopsOf c134 = [c134_5] := by kernel_rfl
theorem fr134_5 : firstReg c134_5 = some 5 := by kernel_rfl
theorem le134_5 : L134 5 = enter Try.prog (0, 0) H134_5 (E134_5 fu) := by kernel_rfl
theorem lm134 : ∀ x ∈ [c134_5], ∀ id, firstReg x = some id → LoopOk Try.prog (0, 0) x (L134 id) := (loops_cons fr134_5 le134_5 (ok134_5 fu) loops_nil)
theorem lp134 : ∀ x ∈ loopsOf c134, ∀ id, firstReg x = some id → LoopOk Try.prog (0, 0) x (L134 id) := loops_eq lq134 lm134
noncomputable def R134 (x : Int) : Res := ⟨[.one (ai x)], [], []⟩
noncomputable def K134 (r : Res) : Option Int :=
  match r with
  | ⟨[.one (.val (.int .i64 v1))], [], []⟩ => some (v1)
  | _ => none
noncomputable def E134 : Fun2 := fun args bs rs =>
  match args, bs, rs with
  | [.s1 (.one (.sl 0)), .s1 (.one (.val (.int .i64 a1)))], [], [⟨114, (.pair (.sl 277 (.pair (.int .i64) (.int .i64))) (.pair (.sl 277 (.pair (.int .i64) (.int .i64))) (.pair (.pair (.int .i64) (.pair (.int .i64) (.int .i64))) (.pair (.int .i64) (.int .i64))))), a2, .ro⟩] => some ⟨Int, L.szQueryS a1 a2, R134⟩
  | _, _, _ => none
theorem ev134 (a1 : Int) (a2 : List (List (Int × Int) × List (Int × Int) × (Int × Int × Int) × Int × Int)) : evF Try.prog G134 L134 (0, 0) Try.f134 c134 [vl 0, vi a1] [] [⟨114, (.pair (.sl 277 (.pair (.int .i64) (.int .i64))) (.pair (.sl 277 (.pair (.int .i64) (.int .i64))) (.pair (.pair (.int .i64) (.pair (.int .i64) (.int .i64))) (.pair (.int .i64) (.int .i64))))), a2, .ro⟩] K134 = L.szQueryS a1 a2 := by kernel_rfl
theorem good134 : Vm.Good Try.prog 134 E134 := by
  refine evF_good (G := G134) (c := c134) (envCons_good good75 envNil_good) Try.func134 (by kernel_rfl) (by kernel_rfl) (0, 0) (fun args bs rs out t h h2 => ?_)
  unfold E134 at h
  split at h
  · injection h with h
    subst h
    exact ⟨rfl, L134, K134, lp134, (fun r t h => by unfold K134 at h; split at h; (injection h with h; subst h; rfl); cases h), (ev134 _ _).trans h2⟩
  · cases h
/-! ### L.szSubS -/
noncomputable def G135 : Env := envNil
noncomputable def c135 : Code := bodyOf Try.f135
noncomputable def L.szSubS (a1 : Int) (a2 : List (Int × Int × Int)) : Option Int :=
(let v4 : Int := (IntKind.wrap .i64 (a1 - (a2.length : Int)))
(bif (decide (v4 < 0)) then
(some (-1))
else
(some v4)))
noncomputable def R135 (x : Int) : Res := ⟨[.one (ai x)], [], []⟩
noncomputable def K135 (r : Res) : Option Int :=
  match r with
  | ⟨[.one (.val (.int .i64 v1))], [], []⟩ => some (v1)
  | _ => none
noncomputable def E135 : Fun2 := fun args bs rs =>
  match args, bs, rs with
  | [.s1 (.one (.sl 0)), .s1 (.one (.val (.int .i64 a1)))], [], [⟨255, (.pair (.int .i64) (.pair (.int .i64) (.int .i64))), a2, .ro⟩] => some ⟨Int, L.szSubS a1 a2, R135⟩
  | _, _, _ => none
theorem ev135 (a1 : Int) (a2 : List (Int × Int × Int)) : evF Try.prog G135 loopNil (0, 0) Try.f135 c135 [vl 0, vi a1] [] [⟨255, (.pair (.int .i64) (.pair (.int .i64) (.int .i64))), a2, .ro⟩] K135 = L.szSubS a1 a2 := by kernel_rfl
theorem good135 : Vm.Good Try.prog 135 E135 := by
  refine evF_good (G := G135) (c := c135) envNil_good Try.func135 (by kernel_rfl) (by kernel_rfl) (0, 0) (fun args bs rs out t h h2 => ?_)
  unfold E135 at h
  split at h
  · injection h with h
    subst h
    exact ⟨rfl, loopNil, K135, (by intro x hx; simp [show loopsOf c135 = [] from by kernel_rfl] at hx), (fun r t h => by unfold K135 at h; split at h; (injection h with h; subst h; rfl); cases h), (ev135 _ _).trans h2⟩
  · cases h
/-! ### L.szRuleS -/
noncomputable def G136 : Env := envNil
noncomputable def c136 : Code := bodyOf Try.f136
noncomputable def L.szRuleS (a1 : Int) (a2 : List (Int × Int × Int × Int × Int)) : Option Int :=
(let v4 : Int := (IntKind.wrap .i64 (a1 - (a2.length : Int)))
(bif (decide (v4 < 0)) then
(some (-1))
else
(some v4)))
noncomputable def R136 (x : Int) : Res := ⟨[.one (ai x)], [], []⟩
noncomputable def K136 (r : Res) : Option Int :=
  match r with
  | ⟨[.one (.val (.int .i64 v1))], [], []⟩ => some (v1)
  | _ => none
noncomputable def E136 : Fun2 := fun args bs rs =>
  match args, bs, rs with
  | [.s1 (.one (.sl 0)), .s1 (.one (.val (.int .i64 a1)))], [], [⟨257, (.pair (.int .i64) (.pair (.int .i64) (.pair (.int .i64) (.pair (.int .i64) (.int .i64))))), a2, .ro⟩] => some ⟨Int, L.szRuleS a1 a2, R136⟩
  | _, _, _ => none
theorem ev136 (a1 : Int) (a2 : List (Int × Int × Int × Int × Int)) : evF Try.prog G136 loopNil (0, 0) Try.f136 c136 [vl 0, vi a1] [] [⟨257, (.pair (.int .i64) (.pair (.int .i64) (.pair (.int .i64) (.pair (.int .i64) (.int .i64))))), a2, .ro⟩] K136 = L.szRuleS a1 a2 := by kernel_rfl
theorem good136 : Vm.Good Try.prog 136 E136 := by
  refine evF_good (G := G136) (c := c136) envNil_good Try.func136 (by kernel_rfl) (by kernel_rfl) (0, 0) (fun args bs rs out t h h2 => ?_)
  unfold E136 at h
  split at h
  · injection h with h
    subst h
    exact ⟨rfl, loopNil, K136, (by intro x hx; simp [show loopsOf c136 = [] from by kernel_rfl] at hx), (fun r t h => by unfold K136 at h; split at h; (injection h with h; subst h; rfl); cases h), (ev136 _ _).trans h2⟩
  · cases h
/-! ### L.szConf -/
noncomputable def G61 : Env := (envCons 29 [] E29 (envCons 134 [] E134 (envCons 135 [] E135 (envCons 136 [] E136 envNil))))
noncomputable def c61 : Code := bodyOf Try.f61
noncomputable def L.szConf (a1 a2 a3 a4 : Int) (a5 : List Int) (a6 : List (List (Int × Int) × List (Int × Int) × (Int × Int × Int) × Int × Int)) (a7 : List (Int × Int × Int)) (a8 : List (Int × Int × Int × Int × Int)) : Option Int :=
(Option.bind (L.szLat a1 a4 a5) fun r9 =>
(bif (decide (r9 < 0)) then
(some (-1))
else
(Option.bind (L.szQueryS r9 a6) fun r11 =>
(bif (decide (r11 < 0)) then
(some (-1))
else
(Option.bind (L.szSubS r11 a7) fun r13 =>
(bif (decide (r13 < 0)) then
(some (-1))
else
(Option.bind (L.szRuleS r13 a8) fun r15 =>
(bif (decide (r15 < 0)) then
(some (-1))
else
(some r15)))))))))
noncomputable def R61 (x : Int) : Res := ⟨[.one (ai x)], [], []⟩
noncomputable def K61 (r : Res) : Option Int :=
  match r with
  | ⟨[.one (.val (.int .i64 v1))], [], []⟩ => some (v1)
  | _ => none
noncomputable def E61 : Fun2 := fun args bs rs =>
  match args, bs, rs with
  | [.s1 (.agg [.val (.int .i64 a1), .sl 0, .val (.int .i64 a2), .val (.int .i64 a3), .sl 1, .sl 2, .sl 3]), .s1 (.one (.val (.int .i64 a4)))], [], [⟨117, (.int .u64), a5, .ro⟩, ⟨114, (.pair (.sl 277 (.pair (.int .i64) (.int .i64))) (.pair (.sl 277 (.pair (.int .i64) (.int .i64))) (.pair (.pair (.int .i64) (.pair (.int .i64) (.int .i64))) (.pair (.int .i64) (.int .i64))))), a6, .ro⟩, ⟨255, (.pair (.int .i64) (.pair (.int .i64) (.int .i64))), a7, .ro⟩, ⟨257, (.pair (.int .i64) (.pair (.int .i64) (.pair (.int .i64) (.pair (.int .i64) (.int .i64))))), a8, .ro⟩] => some ⟨Int, L.szConf a1 a2 a3 a4 a5 a6 a7 a8, R61⟩
  | _, _, _ => none
theorem ev61 (a1 a2 a3 a4 : Int) (a5 : List Int) (a6 : List (List (Int × Int) × List (Int × Int) × (Int × Int × Int) × Int × Int)) (a7 : List (Int × Int × Int)) (a8 : List (Int × Int × Int × Int × Int)) : evF Try.prog G61 loopNil (0, 0) Try.f61 c61 [.s1 (.agg [ai a1, .sl 0, ai a2, ai a3, .sl 1, .sl 2, .sl 3]), vi a4] [] [⟨117, (.int .u64), a5, .ro⟩, ⟨114, (.pair (.sl 277 (.pair (.int .i64) (.int .i64))) (.pair (.sl 277 (.pair (.int .i64) (.int .i64))) (.pair (.pair (.int .i64) (.pair (.int .i64) (.int .i64))) (.pair (.int .i64) (.int .i64))))), a6, .ro⟩, ⟨255, (.pair (.int .i64) (.pair (.int .i64) (.int .i64))), a7, .ro⟩, ⟨257, (.pair (.int .i64) (.pair (.int .i64) (.pair (.int .i64) (.pair (.int .i64) (.int .i64))))), a8, .ro⟩] K61 = L.szConf a1 a2 a3 a4 a5 a6 a7 a8 := by kernel_rfl
theorem good61 : Vm.Good Try.prog 61 E61 := by
  refine evF_good (G := G61) (c := c61) (envCons_good good29 (envCons_good good134 (envCons_good good135 (envCons_good good136 envNil_good)))) Try.func61 (by kernel_rfl) (by kernel_rfl) (0, 0) (fun args bs rs out t h h2 => ?_)
  unfold E61 at h
  split at h
  · injection h with h
    subst h
    exact ⟨rfl, loopNil, K61, (by intro x hx; simp [show loopsOf c61 = [] from by kernel_rfl] at hx), (fun r t h => by unfold K61 at h; split at h; (injection h with h; subst h; rfl); cases h), (ev61 _ _ _ _ _ _ _ _).trans h2⟩
  · cases h
/-! ### L.szTakenS -/
noncomputable def G62 : Env := envNil
noncomputable def c62 : Code := bodyOf Try.f62
noncomputable def L.szTakenS (a1 : Int) (a2 : List (Int × (Int × Int × Int × Int) × Int)) : Option Int :=
(let v4 : Int := (IntKind.wrap .i64 (a1 - (a2.length : Int)))
(bif (decide (v4 < 0)) then
(some (-1))
else
(some v4)))
noncomputable def R62 (x : Int) : Res := ⟨[.one (ai x)], [], []⟩
noncomputable def K62 (r : Res) : Option Int :=
  match r with
  | ⟨[.one (.val (.int .i64 v1))], [], []⟩ => some (v1)
  | _ => none
noncomputable def E62 : Fun2 := fun args bs rs =>
  match args, bs, rs with
  | [.s1 (.one (.sl 0)), .s1 (.one (.val (.int .i64 a1)))], [], [⟨204, (.pair (.int .i64) (.pair (.pair (.int .i64) (.pair (.int .i64) (.pair (.int .i64) (.int .i64)))) (.int .i64))), a2, .ro⟩] => some ⟨Int, L.szTakenS a1 a2, R62⟩
  | _, _, _ => none
theorem ev62 (a1 : Int) (a2 : List (Int × (Int × Int × Int × Int) × Int)) : evF Try.prog G62 loopNil (0, 0) Try.f62 c62 [vl 0, vi a1] [] [⟨204, (.pair (.int .i64) (.pair (.pair (.int .i64) (.pair (.int .i64) (.pair (.int .i64) (.int .i64)))) (.int .i64))), a2, .ro⟩] K62 = L.szTakenS a1 a2 := by kernel_rfl
theorem good62 : Vm.Good Try.prog 62 E62 := by
  refine evF_good (G := G62) (c := c62) envNil_good Try.func62 (by kernel_rfl) (by kernel_rfl) (0, 0) (fun args bs rs out t h h2 => ?_)
  unfold E62 at h
  split at h
  · injection h with h
    subst h
    exact ⟨rfl, loopNil, K62, (by intro x hx; simp [show loopsOf c62 = [] from by kernel_rfl] at hx), (fun r t h => by unfold K62 at h; split at h; (injection h with h; subst h; rfl); cases h), (ev62 _ _).trans h2⟩
  · cases h
/-! ### L.toUint64S -/
noncomputable def G106 : Env := envNil
noncomputable def c106 : Code := bodyOf Try.f106
noncomputable def c106_3 : Code := (loopsOf c106).getD 0 .skip
noncomputable def L.toUint64S_l0 : Nat → (List Int → Option (List Int)) → Int → List Int → List Int → Option (List Int)
  | 0, _, _, _, _ => none
  | m + 1, e3_0, a4, a5, a6 =>
    (bif (decide (a4 < (a5.length : Int))) then
    (bif decide ((0 : Int) ≤ a4 ∧ a4 < (a5.length : Int)) then
    (bif decide ((0 : Int) ≤ a4 ∧ a4 < (a6.length : Int)) then
    (L.toUint64S_l0 m e3_0 (IntKind.wrap .i64 (a4 + 1)) a5 (a6.set (Int.toNat a4) (nthI a5 a4 (0 : Int))))
    else
    none)
    else
    none)
    else
    (e3_0 a6))
noncomputable def L.toUint64S (a1 : List Int) : Option (List Int) :=
(let v2 : Int := (a1.length : Int)
(bif decide ((0 : Int) ≤ v2 ∧ v2 ≤ v2 ∧ (8 : Int) * v2 ≤ 281474976710656 ∧ v2 ≤ 9223372036854775807) then
(L.toUint64S_l0 fu (fun y11 =>
(some y11)) 0 a1 (List.replicate (Int.toNat v2) (0 : Int)))
else
none))
noncomputable def H106_3 : LoopH := ⟨⟨((.one (.sl 0)) :: (hu 2 ((.one (.sl 1)) :: hh :: (hu 17 [])))), [], [(117, (.int .u64), .ro), (117, (.int .u64), .own)]⟩, [1, 2, 5, 6, 7, 8, 9, 10, 11, 12, 13, 14, 15, 16, 17, 18, 19, 20, 21], [], [0, 1, 4, 5, 6, 7, 8, 9, 10, 11, 12, 13, 14, 15, 16, 17, 18, 19, 20, 21]⟩
noncomputable def E106_3 (m : Nat) (ps : List Prm) (k : Kont (List Int)) : Option (List Int) :=
  match ps with
  | [.v (.int .i64 a4), .row (.int .u64) a5, .row (.int .u64) a6] => L.toUint64S_l0 m (fun z13 => k (.exit 0) (⟨(vu 3 ((vl 0) :: (vu 18 []))), [], [⟨117, (.int .u64), z13, .own⟩]⟩ : St)) a4 a5 a6
  | _ => none
noncomputable def S106_3 (a4 : Int) (a5 a6 : List Int) : St := (⟨((vl 0) :: (vu 2 ((vl 1) :: (vi a4) :: (vu 17 [])))), [], [⟨117, (.int .u64), a5, .ro⟩, ⟨117, (.int .u64), a6, .own⟩]⟩ : St)
theorem ev106_3 (m : Nat) (k : Kont (List Int)) (a4 : Int) (a5 a6 : List Int) : evC Try.prog G106 loopNil c106_3 (S106_3 a4 a5 a6) (turn Try.prog (0, 0) H106_3 (E106_3 m) k) = E106_3 (m + 1) [.v (.int .i64 a4), .row (.int .u64) a5, .row (.int .u64) a6] k := by kernel_rfl
theorem ok106_3 (m : Nat) : LoopOk Try.prog (0, 0) c106_3 (enter Try.prog (0, 0) H106_3 (E106_3 m)) := by
  refine loop_ok (G := G106) (L := loopNil) envNil_good (by intro x hx; simp [show loopsOf c106_3 = [] from by kernel_rfl] at hx) (fun ps k => by unfold E106_3; split <;> rfl) (fun m ps k r h => ?_) m
  have h0 := h
  unfold E106_3 at h
  split at h
  · exact ⟨S106_3 _ _ _, by kernel_rfl, (ev106_3 m k _ _ _).trans h0⟩
  · cases h
noncomputable def L106 : LEnv (List Int) := (loopCons 3 (enter Try.prog (0, 0) H106_3 (E106_3 fu)) loopNil)
theorem lq106 : loopsOf c106 = [c106_3] := by kernel_rfl
theorem fr106_3 : firstReg c106_3 = some 3 := by kernel_rfl
theorem le106_3 : L106 3 = enter Try.prog (0, 0) H106_3 (E106_3 fu) := by kernel_rfl
theorem lm106 : ∀ x ∈ [c106_3], ∀ id, firstReg x = some id → LoopOk Try.prog (0, 0) x (L106 id) := (loops_cons fr106_3 le106_3 (ok106_3 fu) loops_nil)
theorem lp106 : ∀ x ∈ loopsOf c106, ∀ id, firstReg x = some id → LoopOk Try.prog (0, 0) x (L106 id) := loops_eq lq106 lm106
noncomputable def R106 (x : List Int) : Res := ⟨[.one (.sl 0)], [], [⟨117, (.int .u64), x, .own⟩]⟩
noncomputable def K106 (r : Res) : Option (List Int) :=
  match r with
  | ⟨[.one (.sl 0)], [], [⟨117, (.int .u64), v1, .own⟩]⟩ => some (v1)
  | _ => none
noncomputable def E106 : Fun2 := fun args bs rs =>
  match args, bs, rs with
  | [.s1 (.one (.sl 0))], [], [⟨117, (.int .u64), a1, .ro⟩] => some ⟨List Int, L.toUint64S a1, R106⟩
  | _, _, _ => none
theorem ev106 (a1 : List Int) : evF Try.prog G106 L106 (0, 0) Try.f106 c106 [vl 0] [] [⟨117, (.int .u64), a1, .ro⟩] K106 = L.toUint64S a1 := by kernel_rfl
theorem good106 : Vm.Good Try.prog 106 E106 := by
  refine evF_good (G := G106) (c := c106) envNil_good Try.func106 (by kernel_rfl) (by kernel_rfl) (0, 0) (fun args bs rs out t h h2 => ?_)
  unfold E106 at h
  split at h
  · injection h with h
    subst h
    exact ⟨rfl, L106, K106, lp106, (fun r t h => by unfold K106 at h; split at h; (injection h with h; subst h; rfl); cases h), (ev106 _).trans h2⟩
  · cases h
/-! ### L.toLat -/
noncomputable def G32 : Env := (envCons 106 [] E106 envNil)
noncomputable def c32 : Code := bodyOf Try.f32
noncomputable def L.toLat (a1 : Int) (a2 : List Int) : Option (Int × List Int) :=
(Option.bind (L.toUint64S a2) fun r3 =>
(some (a1, r3)))
noncomputable def R32 (x : Int × List Int) : Res := ⟨[.agg [ai x.1, .sl 0]], [], [⟨117, (.int .u64), x.2, .own⟩]⟩
noncomputable def K32 (r : Res) : Option (Int × List Int) :=
  match r with
  | ⟨[.agg [.val (.int .i64 v1), .sl 0]], [], [⟨117, (.int .u64), v2, .own⟩]⟩ => some (v1, v2)
  | _ => none
noncomputable def E32 : Fun2 := fun args bs rs =>
  match args, bs, rs with
  | [.s1 (.agg [.val (.int .i64 a1), .sl 0])], [], [⟨117, (.int .u64), a2, .ro⟩] => some ⟨Int × List Int, L.toLat a1 a2, R32⟩
  | _, _, _ => none
theorem ev32 (a1 : Int) (a2 : List Int) : evF Try.prog G32 loopNil (0, 0) Try.f32 c32 [.s1 (.agg [ai a1, .sl 0])] [] [⟨117, (.int .u64), a2, .ro⟩] K32 = L.toLat a1 a2 := by kernel_rfl
theorem good32 : Vm.Good Try.prog 32 E32 := by
  refine evF_good (G := G32) (c := c32) (envCons_good good106 envNil_good) Try.func32 (by kernel_rfl) (by kernel_rfl) (0, 0) (fun args bs rs out t h h2 => ?_)
  unfold E32 at h
  split at h
  · injection h with h
    subst h
    exact ⟨rfl, loopNil, K32, (by intro x hx; simp [show loopsOf c32 = [] from by kernel_rfl] at hx), (fun r t h => by unfold K32 at h; split at h; (injection h with h; subst h; rfl); cases h), (ev32 _ _).trans h2⟩
  · cases h
/-! ### L.toTok -/
noncomputable def G222 : Env := envNil
noncomputable def c222 : Code := bodyOf Try.f222
noncomputable def L.toTok (a1 a2 : Int) : Option (Int × Int) :=
(some (a1, a2))
noncomputable def R222 (x : Int × Int) : Res := ⟨[.agg [ai x.1, ai x.2]], [], []⟩
noncomputable def K222 (r : Res) : Option (Int × Int) :=
  match r with
  | ⟨[.agg [.val (.int .i64 v1), .val (.int .i64 v2)]], [], []⟩ => some (v1, v2)
  | _ => none
noncomputable def E222 : Fun2 := fun args bs rs =>
  match args, bs, rs with
  | [.s1 (.agg [.val (.int .i64 a1), .val (.int .i64 a2)])], [], [] => some ⟨Int × Int, L.toTok a1 a2, R222⟩
  | _, _, _ => none
theorem ev222 (a1 a2 : Int) : evF Try.prog G222 loopNil (0, 0) Try.f222 c222 [.s1 (.agg [ai a1, ai a2])] [] [] K222 = L.toTok a1 a2 := by kernel_rfl
theorem good222 : Vm.Good Try.prog 222 E222 := by
  refine evF_good (G := G222) (c := c222) envNil_good Try.func222 (by kernel_rfl) (by kernel_rfl) (0, 0) (fun args bs rs out t h h2 => ?_)
  unfold E222 at h
  split at h
  · injection h with h
    subst h
    exact ⟨rfl, loopNil, K222, (by intro x hx; simp [show loopsOf c222 = [] from by kernel_rfl] at hx), (fun r t h => by unfold K222 at h; split at h; (injection h with h; subst h; rfl); cases h), (ev222 _ _).trans h2⟩
  · cases h
/-! ### L.toTokS -/
noncomputable def G162 : Env := (envCons 222 [] E222 envNil)
noncomputable def c162 : Code := bodyOf Try.f162
noncomputable def c162_3 : Code := (loopsOf c162).getD 0 .skip
noncomputable def L.toTokS_l0 : Nat → ((List (Int × Int)) → Option ((List (Int × Int)))) → Int → (List (Int × Int)) → (List (Int × Int)) → Option ((List (Int × Int)))
  | 0, _, _, _, _ => none
  | m + 1, e3_0, a4, a5, a6 =>
    (bif (decide (a4 < (a5.length : Int))) then
    (bif decide ((0 : Int) ≤ a4 ∧ a4 < (a5.length : Int)) then
    (Option.bind (L.toTok ((nthI a5 a4 ((0 : Int), (0 : Int))).1) ((nthI a5 a4 ((0 : Int), (0 : Int))).2)) fun r9 =>
    (bif decide ((0 : Int) ≤ a4 ∧ a4 < (a6.length : Int)) then
    (L.toTokS_l0 m e3_0 (IntKind.wrap .i64 (a4 + 1)) a5 (a6.set (Int.toNat a4) (r9.1, r9.2)))
    else
    none))
    else
    none)
    else
    (e3_0 a6))
noncomputable def L.toTokS (a1 : List (Int × Int)) : Option ((List (Int × Int))) :=
(let v2 : Int := (a1.length : Int)
(bif decide ((0 : Int) ≤ v2 ∧ v2 ≤ v2 ∧ (16 : Int) * v2 ≤ 281474976710656 ∧ v2 ≤ 9223372036854775807) then
(L.toTokS_l0 fu (fun y12 =>
(some y12)) 0 a1 (List.replicate (Int.toNat v2) (0, 0)))
else
none))
noncomputable def H162_3 : LoopH := ⟨⟨((.one (.sl 0)) :: (hu 2 ((.one (.sl 1)) :: hh :: (hu 18 [])))), [], [(277, (.pair (.int .i64) (.int .i64)), .ro), (275, (.pair (.int .i64) (.int .i64)), .own)]⟩, [1, 2, 5, 6, 7, 8, 9, 10, 11, 12, 13, 14, 15, 16, 17, 18, 19, 20, 21, 22], [], [0, 1, 4, 5, 6, 7, 8, 9, 10, 11, 12, 13, 14, 15, 16, 17, 18, 19, 20, 21, 22]⟩
noncomputable def E162_3 (m : Nat) (ps : List Prm) (k : Kont ((List (Int × Int)))) : Option ((List (Int × Int))) :=
  match ps with
  | [.v (.int .i64 a4), .row (.pair (.int .i64) (.int .i64)) a5, .row (.pair (.int .i64) (.int .i64)) a6] => L.toTokS_l0 m (fun z14 => k (.exit 0) (⟨(vu 3 ((vl 0) :: (vu 19 []))), [], [⟨275, (.pair (.int .i64) (.int .i64)), z14, .own⟩]⟩ : St)) a4 a5 a6
  | _ => none
noncomputable def S162_3 (a4 : Int) (a5 a6 : List (Int × Int)) : St := (⟨((vl 0) :: (vu 2 ((vl 1) :: (vi a4) :: (vu 18 [])))), [], [⟨277, (.pair (.int .i64) (.int .i64)), a5, .ro⟩, ⟨275, (.pair (.int .i64) (.int .i64)), a6, .own⟩]⟩ : St)
theorem ev162_3 (m : Nat) (k : Kont ((List (Int × Int)))) (a4 : Int) (a5 a6 : List (Int × Int)) : evC Try.prog G162 loopNil c162_3 (S162_3 a4 a5 a6) (turn Try.prog (0, 0) H162_3 (E162_3 m) k) = E162_3 (m + 1) [.v (.int .i64 a4), .row (.pair (.int .i64) (.int .i64)) a5, .row (.pair (.int .i64) (.int .i64)) a6] k := by kernel_rfl
theorem ok162_3 (m : Nat) : LoopOk Try.prog (0, 0) c162_3 (enter Try.prog (0, 0) H162_3 (E162_3 m)) := by
  refine loop_ok (G := G162) (L := loopNil) (envCons_good good222 envNil_good) (by intro x hx; simp [show loopsOf c162_3 = [] from by kernel_rfl] at hx) (fun ps k => by unfold E162_3; split <;> rfl) (fun m ps k r h => ?_) m
  have h0 := h
  unfold E162_3 at h
  split at h
  · exact ⟨S162_3 _ _ _, by kernel_rfl, (ev162_3 m k _ _ _).trans h0⟩
  · cases h
noncomputable def L162 : LEnv ((List (Int × Int))) := (loopCons 3 (enter Try.prog (0, 0) H162_3 (E162_3 fu)) loopNil)
theorem lq162 : loopsOf c162 = [c162_3] := by kernel_rfl
theorem fr162_3 : firstReg c162_3 = some 3 := by kernel_rfl
theorem le162_3 : L162 3 = enter Try.prog (0, 0) H162_3 (E162_3 fu) := by kernel_rfl
theorem lm162 : ∀ x ∈ [c162_3], ∀ id, firstReg x = some id → LoopOk Try.prog (0, 0) x (L162 id) := (loops_cons fr162_3 le162_3 (ok162_3 fu) loops_nil)
theorem lp162 : ∀ x ∈ loopsOf c162, ∀ id, firstReg x = some id → LoopOk Try.prog (0, 0) x (L162 id) := loops_eq lq162 lm162
noncomputable def R162 (x : (List (Int × Int))) : Res := ⟨[.one (.sl 0)], [], [⟨275, (.pair (.int .i64) (.int .i64)), x, .own⟩]⟩
noncomputable def K162 (r : Res) : Option ((List (Int × Int))) :=
  match r with
  | ⟨[.one (.sl 0)], [], [⟨275, (.pair (.int .i64) (.int .i64)), v1, .own⟩]⟩ => some (v1)
  | _ => none
noncomputable def E162 : Fun2 := fun args bs rs =>
  match args, bs, rs with
  | [.s1 (.one (.sl 0))], [], [⟨277, (.pair (.int .i64) (.int .i64)), a1, .ro⟩] => some ⟨(List (Int × Int)), L.toTokS a1, R162⟩
  | _, _, _ => none
theorem ev162 (a1 : List (Int × Int)) : evF Try.prog G162 L162 (0, 0) Try.f162 c162 [vl 0] [] [⟨277, (.pair (.int .i64) (.int .i64)), a1, .ro⟩] K162 = L.toTokS a1 := by kernel_rfl
theorem good162 : Vm.Good Try.prog 162 E162 := by
  refine evF_good (G := G162) (c := c162) (envCons_good good222 envNil_good) Try.func162 (by kernel_rfl) (by kernel_rfl) (0, 0) (fun args bs rs out t h h2 => ?_)
  unfold E162 at h
  split at h
  · injection h with h
    subst h
    exact ⟨rfl, L162, K162, lp162, (fun r t h => by unfold K162 at h; split at h; (injection h with h; subst h; rfl); cases h), (ev162 _).trans h2⟩
  · cases h
/-! ### L.toWinDef -/
noncomputable def G163 : Env := envNil
noncomputable def c163 : Code := bodyOf Try.f163
noncomputable def L.toWinDef (a1 a2 a3 : Int) : Option (Int × Int × Int) :=
(some (a1, a2, a3))
noncomputable def R163 (x : Int × Int × Int) : Res := ⟨[.agg [ai x.1, ai x.2.1, ai x.2.2]], [], []⟩
noncomputable def K163 (r : Res) : Option (Int × Int × Int) :=
  match r with
  | ⟨[.agg [.val (.int .i64 v1), .val (.int .i64 v2), .val (.int .i64 v3)]], [], []⟩ => some (v1, v2, v3)
  | _ => none
noncomputable def E163 : Fun2 := fun args bs rs =>
  match args, bs, rs with
  | [.s1 (.agg [.val (.int .i64 a1), .val (.int .i64 a2), .val (.int .i64 a3)])], [], [] => some ⟨Int × Int × Int, L.toWinDef a1 a2 a3, R163⟩
  | _, _, _ => none
theorem ev163 (a1 a2 a3 : Int) : evF Try.prog G163 loopNil (0, 0) Try.f163 c163 [.s1 (.agg [ai a1, ai a2, ai a3])] [] [] K163 = L.toWinDef a1 a2 a3 := by kernel_rfl
theorem good163 : Vm.Good Try.prog 163 E163 := by
  refine evF_good (G := G163) (c := c163) envNil_good Try.func163 (by kernel_rfl) (by kernel_rfl) (0, 0) (fun args bs rs out t h h2 => ?_)
  unfold E163 at h
  split at h
  · injection h with h
    subst h
    exact ⟨rfl, loopNil, K163, (by intro x hx; simp [show loopsOf c163 = [] from by kernel_rfl] at hx), (fun r t h => by unfold K163 at h; split at h; (injection h with h; subst h; rfl); cases h), (ev163 _ _ _).trans h2⟩
  · cases h
/-! ### L.toQuery -/
noncomputable def G78 : Env := (envCons 162 [] E162 (envCons 163 [] E163 envNil))
noncomputable def c78 : Code := bodyOf Try.f78
noncomputable def L.toQuery (a1 a2 a3 a4 a5 : Int) (a6 a7 : List (Int × Int)) : Option (Int × Int × Int × Int × Int × (List (Int × Int)) × (List (Int × Int))) :=
(Option.bind (L.toTokS a6) fun r8 =>
(Option.bind (L.toTokS a7) fun r9 =>
(Option.bind (L.toWinDef a1 a2 a3) fun r10 =>
(some (r10.1, r10.2.1, r10.2.2, a4, a5, r8, r9)))))
noncomputable def R78 (x : Int × Int × Int × Int × Int × (List (Int × Int)) × (List (Int × Int))) : Res := ⟨[.agg [.sl 0, .sl 1, ai x.1, ai x.2.1, ai x.2.2.1, ai x.2.2.2.1, ai x.2.2.2.2.1]], [], [⟨275, (.pair (.int .i64) (.int .i64)), x.2.2.2.2.2.1, .own⟩, ⟨275, (.pair (.int .i64) (.int .i64)), x.2.2.2.2.2.2, .own⟩]⟩
noncomputable def K78 (r : Res) : Option (Int × Int × Int × Int × Int × (List (Int × Int)) × (List (Int × Int))) :=
  match r with
  | ⟨[.agg [.sl 0, .sl 1, .val (.int .i64 v1), .val (.int .i64 v2), .val (.int .i64 v3), .val (.int .i64 v4), .val (.int .i64 v5)]], [], [⟨275, (.pair (.int .i64) (.int .i64)), v6, .own⟩, ⟨275, (.pair (.int .i64) (.int .i64)), v7, .own⟩]⟩ => some (v1, v2, v3, v4, v5, v6, v7)
  | _ => none
noncomputable def E78 : Fun2 := fun args bs rs =>
  match args, bs, rs with
  | [.s1 (.agg [.sl 0, .sl 1, .val (.int .i64 a1), .val (.int .i64 a2), .val (.int .i64 a3), .val (.int .i64 a4), .val (.int .i64 a5)])], [], [⟨277, (.pair (.int .i64) (.int .i64)), a6, .ro⟩, ⟨277, (.pair (.int .i64) (.int .i64)), a7, .ro⟩] => some ⟨Int × Int × Int × Int × Int × (List (Int × Int)) × (List (Int × Int)), L.toQuery a1 a2 a3 a4 a5 a6 a7, R78⟩
  | _, _, _ => none
theorem ev78 (a1 a2 a3 a4 a5 : Int) (a6 a7 : List (Int × Int)) : evF Try.prog G78 loopNil (0, 0) Try.f78 c78 [.s1 (.agg [.sl 0, .sl 1, ai a1, ai a2, ai a3, ai a4, ai a5])] [] [⟨277, (.pair (.int .i64) (.int .i64)), a6, .ro⟩, ⟨277, (.pair (.int .i64) (.int .i64)), a7, .ro⟩] K78 = L.toQuery a1 a2 a3 a4 a5 a6 a7 := by kernel_rfl
theorem good78 : Vm.Good Try.prog 78 E78 := by
  refine evF_good (G := G78) (c := c78) (envCons_good good162 (envCons_good good163 envNil_good)) Try.func78 (by kernel_rfl) (by kernel_rfl) (0, 0) (fun args bs rs out t h h2 => ?_)
  unfold E78 at h
  split at h
  · injection h with h
    subst h
    exact ⟨rfl, loopNil, K78, (by intro x hx; simp [show loopsOf c78 = [] from by kernel_rfl] at hx), (fun r t h => by unfold K78 at h; split at h; (injection h with h; subst h; rfl); cases h), (ev78 _ _ _ _ _ _ _).trans h2⟩
  · cases h
/-! ### L.toQueryS -/
noncomputable def G140 : Env := (envCons 78 [] E78 envNil)
noncomputable def c140 : Code := bodyOf Try.f140
noncomputable def c140_3 : Code := (loopsOf c140).getD 0 .skip
noncomputable def L.toQueryS_l0 : Nat → ((List (List (Int × Int) × List (Int × Int) × (Int × Int × Int) × Int × Int)) → Option ((List (List (Int × Int) × List (Int × Int) × (Int × Int × Int) × Int × Int)))) → Int → (List (List (Int × Int) × List (Int × Int) × (Int × Int × Int) × Int × Int)) → (List (List (Int × Int) × List (Int × Int) × (Int × Int × Int) × Int × Int)) → Option ((List (List (Int × Int) × List (Int × Int) × (Int × Int × Int) × Int × Int)))
  | 0, _, _, _, _ => none
  | m + 1, e3_0, a4, a5, a6 =>
    (bif (decide (a4 < (a5.length : Int))) then
    (bif decide ((0 : Int) ≤ a4 ∧ a4 < (a5.length : Int)) then
    (Option.bind (L.toQuery ((nthI a5 a4 ([], ([], (((0 : Int), ((0 : Int), (0 : Int))), ((0 : Int), (0 : Int)))))).2.2.1.1) ((nthI a5 a4 ([], ([], (((0 : Int), ((0 : Int), (0 : Int))), ((0 : Int), (0 : Int)))))).2.2.1.2.1) ((nthI a5 a4 ([], ([], (((0 : Int), ((0 : Int), (0 : Int))), ((0 : Int), (0 : Int)))))).2.2.1.2.2) ((nthI a5 a4 ([], ([], (((0 : Int), ((0 : Int), (0 : Int))), ((0 : Int), (0 : Int)))))).2.2.2.1) ((nthI a5 a4 ([], ([], (((0 : Int), ((0 : Int), (0 : Int))), ((0 : Int), (0 : Int)))))).2.2.2.2) ((nthI a5 a4 ([], ([], (((0 : Int), ((0 : Int), (0 : Int))), ((0 : Int), (0 : Int)))))).1) ((nthI a5 a4 ([], ([], (((0 : Int), ((0 : Int), (0 : Int))), ((0 : Int), (0 : Int)))))).2.1)) fun r9 =>
    (bif decide ((0 : Int) ≤ a4 ∧ a4 < (a6.length : Int)) then
    (let v10 : List (List (Int × Int) × List (Int × Int) × (Int × Int × Int) × Int × Int) := (a6.set (Int.toNat a4) (r9.2.2.2.2.2.1, (r9.2.2.2.2.2.2, ((r9.1, (r9.2.1, r9.2.2.1)), (r9.2.2.2.1, r9.2.2.2.2.1)))))
    (L.toQueryS_l0 m e3_0 (IntKind.wrap .i64 (a4 + 1)) a5 v10))
    else
    none))
    else
    none)
    else
    (e3_0 a6))
noncomputable def L.toQueryS (a1 : List (List (Int × Int) × List (Int × Int) × (Int × Int × Int) × Int × Int)) : Option ((List (List (Int × Int) × List (Int × Int) × (Int × Int × Int) × Int × Int))) :=
(let v2 : Int := (a1.length : Int)
(bif decide ((0 : Int) ≤ v2 ∧ v2 ≤ v2 ∧ (88 : Int) * v2 ≤ 281474976710656 ∧ v2 ≤ 9223372036854775807) then
(let v3 : List (List (Int × Int) × List (Int × Int) × (Int × Int × Int) × Int × Int) := (List.replicate (Int.toNat v2) ([], ([], ((0, (0, 0)), (0, 0)))))
(L.toQueryS_l0 fu (fun y12 =>
(some y12)) 0 a1 v3))
else
none))
noncomputable def H140_3 : LoopH := ⟨⟨((.one (.sl 0)) :: (hu 2 ((.one (.sl 1)) :: hh :: (hu 18 [])))), [], [(114, (.pair (.sl 277 (.pair (.int .i64) (.int .i64))) (.pair (.sl 277 (.pair (.int .i64) (.int .i64))) (.pair (.pair (.int .i64) (.pair (.int .i64) (.int .i64))) (.pair (.int .i64) (.int .i64))))), .ro), (129, (.pair (.sl 275 (.pair (.int .i64) (.int .i64))) (.pair (.sl 275 (.pair (.int .i64) (.int .i64))) (.pair (.pair (.int .i64) (.pair (.int .i64) (.int .i64))) (.pair (.int .i64) (.int .i64))))), .own)]⟩, [1, 2, 5, 6, 7, 8, 9, 10, 11, 12, 13, 14, 15, 16, 17, 18, 19, 20, 21, 22], [], [0, 1, 4, 5, 6, 7, 8, 9, 10, 11, 12, 13, 14, 15, 16, 17, 18, 19, 20, 21, 22]⟩
noncomputable def E140_3 (m : Nat) (ps : List Prm) (k : Kont ((List (List (Int × Int) × List (Int × Int) × (Int × Int × Int) × Int × Int)))) : Option ((List (List (Int × Int) × List (Int × Int) × (Int × Int × Int) × Int × Int))) :=
  match ps with
  | [.v (.int .i64 a4), .row (.pair (.sl 277 (.pair (.int .i64) (.int .i64))) (.pair (.sl 277 (.pair (.int .i64) (.int .i64))) (.pair (.pair (.int .i64) (.pair (.int .i64) (.int .i64))) (.pair (.int .i64) (.int .i64))))) a5, .row (.pair (.sl 275 (.pair (.int .i64) (.int .i64))) (.pair (.sl 275 (.pair (.int .i64) (.int .i64))) (.pair (.pair (.int .i64) (.pair (.int .i64) (.int .i64))) (.pair (.int .i64) (.int .i64))))) a6] => L.toQueryS_l0 m (fun z14 => k (.exit 0) (⟨(vu 3 ((vl 0) :: (vu 19 []))), [], [⟨129, (.pair (.sl 275 (.pair (.int .i64) (.int .i64))) (.pair (.sl 275 (.pair (.int .i64) (.int .i64))) (.pair (.pair (.int .i64) (.pair (.int .i64) (.int .i64))) (.pair (.int .i64) (.int .i64))))), z14, .own⟩]⟩ : St)) a4 a5 a6
  | _ => none
noncomputable def S140_3 (a4 : Int) (a5 a6 : List (List (Int × Int) × List (Int × Int) × (Int × Int × Int) × Int × Int)) : St := (⟨((vl 0) :: (vu 2 ((vl 1) :: (vi a4) :: (vu 18 [])))), [], [⟨114, (.pair (.sl 277 (.pair (.int .i64) (.int .i64))) (.pair (.sl 277 (.pair (.int .i64) (.int .i64))) (.pair (.pair (.int .i64) (.pair (.int .i64) (.int .i64))) (.pair (.int .i64) (.int .i64))))), a5, .ro⟩, ⟨129, (.pair (.sl 275 (.pair (.int .i64) (.int .i64))) (.pair (.sl 275 (.pair (.int .i64) (.int .i64))) (.pair (.pair (.int .i64) (.pair (.int .i64) (.int .i64))) (.pair (.int .i64) (.int .i64))))), a6, .own⟩]⟩ : St)
theorem ev140_3 (m : Nat) (k : Kont ((List (List (Int × Int) × List (Int × Int) × (Int × Int × Int) × Int × Int)))) (a4 : Int) (a5 a6 : List (List (Int × Int) × List (Int × Int) × (Int × Int × Int) × Int × Int)) : evC Try.prog G140 loopNil c140_3 (S140_3 a4 a5 a6) (turn Try.prog (0, 0) H140_3 (E140_3 m) k) = E140_3 (m + 1) [.v (.int .i64 a4), .row (.pair (.sl 277 (.pair (.int .i64) (.int .i64))) (.pair (.sl 277 (.pair (.int .i64) (.int .i64))) (.pair (.pair (.int .i64) (.pair (.int .i64) (.int .i64))) (.pair (.int .i64) (.int .i64))))) a5, .row (.pair (.sl 275 (.pair (.int .i64) (.int .i64))) (.pair (.sl 275 (.pair (.int .i64) (.int .i64))) (.pair (.pair (.int .i64) (.pair (.int .i64) (.int .i64))) (.pair (.int .i64) (.int .i64))))) a6] k := by kernel_rfl
theorem ok140_3 (m : Nat) : LoopOk Try.prog (0, 0) c140_3 (enter Try.prog (0, 0) H140_3 (E140_3 m)) := by
  refine loop_ok (G := G140) (L := loopNil) (envCons_good good78 envNil_good) (by intro x hx; simp [show loopsOf c140_3 = [] from by kernel_rfl] at hx) (fun ps k => by unfold E140_3; split <;> rfl) (fun m ps k r h => ?_) m
  have h0 := h
  unfold E140_3 at h
  split at h
  · exact ⟨S140_3 _ _ _, by kernel_rfl, (ev140_3 m k _ _ _).trans h0⟩
  · cases h
noncomputable def L140 : LEnv ((List (List (Int × Int) × List (Int × Int) × (Int × Int × Int) × Int × Int))) := (loopCons 3 (enter Try.prog (0, 0) H140_3 (E140_3 fu)) loopNil)
theorem lq140 : loopsOf c140 = [c140_3] := by kernel_rfl
theorem fr140_3 : firstReg c140_3 = some 3 := by kernel_rfl
theorem le140_3 : L140 3 = enter Try.prog (0, 0) H140_3 (E140_3 fu) := by kernel_rfl
theorem lm140 : ∀ x ∈ [c140_3], ∀ id, firstReg x = some id → LoopOk Try.prog (0, 0) x (L140 id) := (loops_cons fr140_3 le140_3 (ok140_3 fu) loops_nil)
theorem lp140 : ∀ x ∈ loopsOf c140, ∀ id, firstReg x = some id → LoopOk Try.prog (0, 0) x (L140 id) := loops_eq lq140 lm140
noncomputable def R140 (x : (List (List (Int × Int) × List (Int × Int) × (Int × Int × Int) × Int × Int))) : Res := ⟨[.one (.sl 0)], [], [⟨129, (.pair (.sl 275 (.pair (.int .i64) (.int .i64))) (.pair (.sl 275 (.pair (.int .i64) (.int .i64))) (.pair (.pair (.int .i64) (.pair (.int .i64) (.int .i64))) (.pair (.int .i64) (.int .i64))))), x, .own⟩]⟩
noncomputable def K140 (r : Res) : Option ((List (List (Int × Int) × List (Int × Int) × (Int × Int × Int) × Int × Int))) :=
  match r with
  | ⟨[.one (.sl 0)], [], [⟨129, (.pair (.sl 275 (.pair (.int .i64) (.int .i64))) (.pair (.sl 275 (.pair (.int .i64) (.int .i64))) (.pair (.pair (.int .i64) (.pair (.int .i64) (.int .i64))) (.pair (.int .i64) (.int .i64))))), v1, .own⟩]⟩ => some (v1)
  | _ => none
noncomputable def E140 : Fun2 := fun args bs rs =>
  match args, bs, rs with
  | [.s1 (.one (.sl 0))], [], [⟨114, (.pair (.sl 277 (.pair (.int .i64) (.int .i64))) (.pair (.sl 277 (.pair (.int .i64) (.int .i64))) (.pair (.pair (.int .i64) (.pair (.int .i64) (.int .i64))) (.pair (.int .i64) (.int .i64))))), a1, .ro⟩] => some ⟨(List (List (Int × Int) × List (Int × Int) × (Int × Int × Int) × Int × Int)), L.toQueryS a1, R140⟩
  | _, _, _ => none
theorem ev140 (a1 : List (List (Int × Int) × List (Int × Int) × (Int × Int × Int) × Int × Int)) : evF Try.prog G140 L140 (0, 0) Try.f140 c140 [vl 0] [] [⟨114, (.pair (.sl 277 (.pair (.int .i64) (.int .i64))) (.pair (.sl 277 (.pair (.int .i64) (.int .i64))) (.pair (.pair (.int .i64) (.pair (.int .i64) (.int .i64))) (.pair (.int .i64) (.int .i64))))), a1, .ro⟩] K140 = L.toQueryS a1 := by kernel_rfl
theorem good140 : Vm.Good Try.prog 140 E140 := by
  refine evF_good (G := G140) (c := c140) (envCons_good good78 envNil_good) Try.func140 (by kernel_rfl) (by kernel_rfl) (0, 0) (fun args bs rs out t h h2 => ?_)
  unfold E140 at h
  split at h
  · injection h with h
    subst h
    exact ⟨rfl, L140, K140, lp140, (fun r t h => by unfold K140 at h; split at h; (injection h with h; subst h; rfl); cases h), (ev140 _).trans h2⟩
  · cases h
/-! ### L.toSub -/
noncomputable def G202 : Env := envNil
noncomputable def c202 : Code := bodyOf Try.f202
noncomputable def L.toSub (a1 a2 a3 : Int) : Option (Int × Int × Int) :=
(some (a1, a2, a3))
noncomputable def R202 (x : Int × Int × Int) : Res := ⟨[.agg [ai x.1, ai x.2.1, ai x.2.2]], [], []⟩
noncomputable def K202 (r : Res) : Option (Int × Int × Int) :=
  match r with
  | ⟨[.agg [.val (.int .i64 v1), .val (.int .i64 v2), .val (.int .i64 v3)]], [], []⟩ => some (v1, v2, v3)
  | _ => none
noncomputable def E202 : Fun2 := fun args bs rs =>
  match args, bs, rs with
  | [.s1 (.agg [.val (.int .i64 a1), .val (.int .i64 a2), .val (.int .i64 a3)])], [], [] => some ⟨Int × Int × Int, L.toSub a1 a2 a3, R202⟩
  | _, _, _ => none
theorem ev202 (a1 a2 a3 : Int) : evF Try.prog G202 loopNil (0, 0) Try.f202 c202 [.s1 (.agg [ai a1, ai a2, ai a3])] [] [] K202 = L.toSub a1 a2 a3 := by kernel_rfl
theorem good202 : Vm.Good Try.prog 202 E202 := by
  refine evF_good (G := G202) (c := c202) envNil_good Try.func202 (by kernel_rfl) (by kernel_rfl) (0, 0) (fun args bs rs out t h h2 => ?_)
  unfold E202 at h
  split at h
  · injection h with h
    subst h
    exact ⟨rfl, loopNil, K202, (by intro x hx; simp [show loopsOf c202 = [] from by kernel_rfl] at hx), (fun r t h => by unfold K202 at h; split at h; (injection h with h; subst h; rfl); cases h), (ev202 _ _ _).trans h2⟩
  · cases h
/-! ### L.toSubS -/
noncomputable def G141 : Env := (envCons 202 [] E202 envNil)
noncomputable def c141 : Code := bodyOf Try.f141
noncomputable def c141_3 : Code := (loopsOf c141).getD 0 .skip
noncomputable def L.toSubS_l0 : Nat → ((List (Int × Int × Int)) → Option ((List (Int × Int × Int)))) → Int → (List (Int × Int × Int)) → (List (Int × Int × Int)) → Option ((List (Int × Int × Int)))
  | 0, _, _, _, _ => none
  | m + 1, e3_0, a4, a5, a6 =>
    (bif (decide (a4 < (a5.length : Int))) then
    (bif decide ((0 : Int) ≤ a4 ∧ a4 < (a5.length : Int)) then
    (Option.bind (L.toSub ((nthI a5 a4 ((0 : Int), ((0 : Int), (0 : Int)))).1) ((nthI a5 a4 ((0 : Int), ((0 : Int), (0 : Int)))).2.1) ((nthI a5 a4 ((0 : Int), ((0 : Int), (0 : Int)))).2.2)) fun r9 =>
    (bif decide ((0 : Int) ≤ a4 ∧ a4 < (a6.length : Int)) then
    (L.toSubS_l0 m e3_0 (IntKind.wrap .i64 (a4 + 1)) a5 (a6.set (Int.toNat a4) (r9.1, (r9.2.1, r9.2.2))))
    else
    none))
    else
    none)
    else
    (e3_0 a6))
noncomputable def L.toSubS (a1 : List (Int × Int × Int)) : Option ((List (Int × Int × Int))) :=
(let v2 : Int := (a1.length : Int)
(bif decide ((0 : Int) ≤ v2 ∧ v2 ≤ v2 ∧ (24 : Int) * v2 ≤ 281474976710656 ∧ v2 ≤ 9223372036854775807) then
(L.toSubS_l0 fu (fun y12 =>
(some y12)) 0 a1 (List.replicate (Int.toNat v2) (0, (0, 0))))
else
none))
noncomputable def H141_3 : LoopH := ⟨⟨((.one (.sl 0)) :: (hu 2 ((.one (.sl 1)) :: hh :: (hu 18 [])))), [], [(255, (.pair (.int .i64) (.pair (.int .i64) (.int .i64))), .ro), (250, (.pair (.int .i64) (.pair (.int .i64) (.int .i64))), .own)]⟩, [1, 2, 5, 6, 7, 8, 9, 10, 11, 12, 13, 14, 15, 16, 17, 18, 19, 20, 21, 22], [], [0, 1, 4, 5, 6, 7, 8, 9, 10, 11, 12, 13, 14, 15, 16, 17, 18, 19, 20, 21, 22]⟩
noncomputable def E141_3 (m : Nat) (ps : List Prm) (k : Kont ((List (Int × Int × Int)))) : Option ((List (Int × Int × Int))) :=
  match ps with
  | [.v (.int .i64 a4), .row (.pair (.int .i64) (.pair (.int .i64) (.int .i64))) a5, .row (.pair (.int .i64) (.pair (.int .i64) (.int .i64))) a6] => L.toSubS_l0 m (fun z14 => k (.exit 0) (⟨(vu 3 ((vl 0) :: (vu 19 []))), [], [⟨250, (.pair (.int .i64) (.pair (.int .i64) (.int .i64))), z14, .own⟩]⟩ : St)) a4 a5 a6
  | _ => none
noncomputable def S141_3 (a4 : Int) (a5 a6 : List (Int × Int × Int)) : St := (⟨((vl 0) :: (vu 2 ((vl 1) :: (vi a4) :: (vu 18 [])))), [], [⟨255, (.pair (.int .i64) (.pair (.int .i64) (.int .i64))), a5, .ro⟩, ⟨250, (.pair (.int .i64) (.pair (.int .i64) (.int .i64))), a6, .own⟩]⟩ : St)
theorem ev141_3 (m : Nat) (k : Kont ((List (Int × Int × Int)))) (a4 : Int) (a5 a6 : List (Int × Int × Int)) : evC Try.prog G141 loopNil c141_3 (S141_3 a4 a5 a6) (turn Try.prog (0, 0) H141_3 (E141_3 m) k) = E141_3 (m + 1) [.v (.int .i64 a4), .row (.pair (.int .i64) (.pair (.int .i64) (.int .i64))) a5, .row (.pair (.int .i64) (.pair (.int .i64) (.int .i64))) a6] k := by kernel_rfl
theorem ok141_3 (m : Nat) : LoopOk Try.prog (0, 0) c141_3 (enter Try.prog (0, 0) H141_3 (E141_3 m)) := by
  refine loop_ok (G := G141) (L := loopNil) (envCons_good good202 envNil_good) (by intro x hx; simp [show loopsOf c141_3 = [] from by kernel_rfl] at hx) (fun ps k => by unfold E141_3; split <;> rfl) (fun m ps k r h => ?_) m
  have h0 := h
  unfold E141_3 at h
  split at h
  · exact ⟨S141_3 _ _ _, by kernel_rfl, (ev141_3 m k _ _ _).trans h0⟩
  · cases h
noncomputable def L141 : LEnv ((List (Int × Int × Int))) := (loopCons 3 (enter Try.prog (0, 0) H141_3 (E141_3 fu)) loopNil)
theorem lq141 : loopsOf c141 = [c141_3] := by kernel_rfl
theorem fr141_3 : firstReg c141_3 = some 3 := by kernel_rfl
theorem le141_3 : L141 3 = enter Try.prog (0, 0) H141_3 (E141_3 fu) := by kernel_rfl
theorem lm141 : ∀ x ∈ [c141_3], ∀ id, firstReg x = some id → LoopOk Try.prog (0, 0) x (L141 id) := (loops_cons fr141_3 le141_3 (ok141_3 fu) loops_nil)
theorem lp141 : ∀ x ∈ loopsOf c141, ∀ id, firstReg x = some id → LoopOk Try.prog (0, 0) x (L141 id) := loops_eq lq141 lm141
noncomputable def R141 (x : (List (Int × Int × Int))) : Res := ⟨[.one (.sl 0)], [], [⟨250, (.pair (.int .i64) (.pair (.int .i64) (.int .i64))), x, .own⟩]⟩
noncomputable def K141 (r : Res) : Option ((List (Int × Int × Int))) :=
  match r with
  | ⟨[.one (.sl 0)], [], [⟨250, (.pair (.int .i64) (.pair (.int .i64) (.int .i64))), v1, .own⟩]⟩ => some (v1)
  | _ => none
noncomputable def E141 : Fun2 := fun args bs rs =>
  match args, bs, rs with
  | [.s1 (.one (.sl 0))], [], [⟨255, (.pair (.int .i64) (.pair (.int .i64) (.int .i64))), a1, .ro⟩] => some ⟨(List (Int × Int × Int)), L.toSubS a1, R141⟩
  | _, _, _ => none
theorem ev141 (a1 : List (Int × Int × Int)) : evF Try.prog G141 L141 (0, 0) Try.f141 c141 [vl 0] [] [⟨255, (.pair (.int .i64) (.pair (.int .i64) (.int .i64))), a1, .ro⟩] K141 = L.toSubS a1 := by kernel_rfl
theorem good141 : Vm.Good Try.prog 141 E141 := by
  refine evF_good (G := G141) (c := c141) (envCons_good good202 envNil_good) Try.func141 (by kernel_rfl) (by kernel_rfl) (0, 0) (fun args bs rs out t h h2 => ?_)
  unfold E141 at h
  split at h
  · injection h with h
    subst h
    exact ⟨rfl, L141, K141, lp141, (fun r t h => by unfold K141 at h; split at h; (injection h with h; subst h; rfl); cases h), (ev141 _).trans h2⟩
  · cases h
/-! ### L.toRule -/
noncomputable def G203 : Env := envNil
noncomputable def c203 : Code := bodyOf Try.f203
noncomputable def L.toRule (a1 a2 a3 a4 a5 : Int) : Option (Int × Int × Int × Int × Int) :=
(some (a1, a2, a3, a4, a5))
noncomputable def R203 (x : Int × Int × Int × Int × Int) : Res := ⟨[.agg [ai x.1, ai x.2.1, ai x.2.2.1, ai x.2.2.2.1, ai x.2.2.2.2]], [], []⟩
noncomputable def K203 (r : Res) : Option (Int × Int × Int × Int × Int) :=
  match r with
  | ⟨[.agg [.val (.int .i64 v1), .val (.int .i64 v2), .val (.int .i64 v3), .val (.int .i64 v4), .val (.int .i64 v5)]], [], []⟩ => some (v1, v2, v3, v4, v5)
  | _ => none
noncomputable def E203 : Fun2 := fun args bs rs =>
  match args, bs, rs with
  | [.s1 (.agg [.val (.int .i64 a1), .val (.int .i64 a2), .val (.int .i64 a3), .val (.int .i64 a4), .val (.int .i64 a5)])], [], [] => some ⟨Int × Int × Int × Int × Int, L.toRule a1 a2 a3 a4 a5, R203⟩
  | _, _, _ => none
theorem ev203 (a1 a2 a3 a4 a5 : Int) : evF Try.prog G203 loopNil (0, 0) Try.f203 c203 [.s1 (.agg [ai a1, ai a2, ai a3, ai a4, ai a5])] [] [] K203 = L.toRule a1 a2 a3 a4 a5 := by kernel_rfl
theorem good203 : Vm.Good Try.prog 203 E203 := by
  refine evF_good (G := G203) (c := c203) envNil_good Try.func203 (by kernel_rfl) (by kernel_rfl) (0, 0) (fun args bs rs out t h h2 => ?_)
  unfold E203 at h
  split at h
  · injection h with h
    subst h
    exact ⟨rfl, loopNil, K203, (by intro x hx; simp [show loopsOf c203 = [] from by kernel_rfl] at hx), (fun r t h => by unfold K203 at h; split at h; (injection h with h; subst h; rfl); cases h), (ev203 _ _ _ _ _).trans h2⟩
  · cases h
/-! ### L.toRuleS -/
noncomputable def G142 : Env := (envCons 203 [] E203 envNil)
noncomputable def c142 : Code := bodyOf Try.f142
noncomputable def c142_3 : Code := (loopsOf c142).getD 0 .skip
noncomputable def L.toRuleS_l0 : Nat → ((List (Int × Int × Int × Int × Int)) → Option ((List (Int × Int × Int × Int × Int)))) → Int → (List (Int × Int × Int × Int × Int)) → (List (Int × Int × Int × Int × Int)) → Option ((List (Int × Int × Int × Int × Int)))
  | 0, _, _, _, _ => none
  | m + 1, e3_0, a4, a5, a6 =>
    (bif (decide (a4 < (a5.length : Int))) then
    (bif decide ((0 : Int) ≤ a4 ∧ a4 < (a5.length : Int)) then
    (Option.bind (L.toRule ((nthI a5 a4 ((0 : Int), ((0 : Int), ((0 : Int), ((0 : Int), (0 : Int)))))).1) ((nthI a5 a4 ((0 : Int), ((0 : Int), ((0 : Int), ((0 : Int), (0 : Int)))))).2.1) ((nthI a5 a4 ((0 : Int), ((0 : Int), ((0 : Int), ((0 : Int), (0 : Int)))))).2.2.1) ((nthI a5 a4 ((0 : Int), ((0 : Int), ((0 : Int), ((0 : Int), (0 : Int)))))).2.2.2.1) ((nthI a5 a4 ((0 : Int), ((0 : Int), ((0 : Int), ((0 : Int), (0 : Int)))))).2.2.2.2)) fun r9 =>
    (bif decide ((0 : Int) ≤ a4 ∧ a4 < (a6.length : Int)) then
    (let v10 : List (Int × Int × Int × Int × Int) := (a6.set (Int.toNat a4) (r9.1, (r9.2.1, (r9.2.2.1, (r9.2.2.2.1, r9.2.2.2.2)))))
    (L.toRuleS_l0 m e3_0 (IntKind.wrap .i64 (a4 + 1)) a5 v10))
    else
    none))
    else
    none)
    else
    (e3_0 a6))
noncomputable def L.toRuleS (a1 : List (Int × Int × Int × Int × Int)) : Option ((List (Int × Int × Int × Int × Int))) :=
(let v2 : Int := (a1.length : Int)
(bif decide ((0 : Int) ≤ v2 ∧ v2 ≤ v2 ∧ (40 : Int) * v2 ≤ 281474976710656 ∧ v2 ≤ 9223372036854775807) then
(L.toRuleS_l0 fu (fun y12 =>
(some y12)) 0 a1 (List.replicate (Int.toNat v2) (0, (0, (0, (0, 0))))))
else
none))
noncomputable def H142_3 : LoopH := ⟨⟨((.one (.sl 0)) :: (hu 2 ((.one (.sl 1)) :: hh :: (hu 18 [])))), [], [(257, (.pair (.int .i64) (.pair (.int .i64) (.pair (.int .i64) (.pair (.int .i64) (.int .i64))))), .ro), (252, (.pair (.int .i64) (.pair (.int .i64) (.pair (.int .i64) (.pair (.int .i64) (.int .i64))))), .own)]⟩, [1, 2, 5, 6, 7, 8, 9, 10, 11, 12, 13, 14, 15, 16, 17, 18, 19, 20, 21, 22], [], [0, 1, 4, 5, 6, 7, 8, 9, 10, 11, 12, 13, 14, 15, 16, 17, 18, 19, 20, 21, 22]⟩
noncomputable def E142_3 (m : Nat) (ps : List Prm) (k : Kont ((List (Int × Int × Int × Int × Int)))) : Option ((List (Int × Int × Int × Int × Int))) :=
  match ps with
  | [.v (.int .i64 a4), .row (.pair (.int .i64) (.pair (.int .i64) (.pair (.int .i64) (.pair (.int .i64) (.int .i64))))) a5, .row (.pair (.int .i64) (.pair (.int .i64) (.pair (.int .i64) (.pair (.int .i64) (.int .i64))))) a6] => L.toRuleS_l0 m (fun z14 => k (.exit 0) (⟨(vu 3 ((vl 0) :: (vu 19 []))), [], [⟨252, (.pair (.int .i64) (.pair (.int .i64) (.pair (.int .i64) (.pair (.int .i64) (.int .i64))))), z14, .own⟩]⟩ : St)) a4 a5 a6
  | _ => none
noncomputable def S142_3 (a4 : Int) (a5 a6 : List (Int × Int × Int × Int × Int)) : St := (⟨((vl 0) :: (vu 2 ((vl 1) :: (vi a4) :: (vu 18 [])))), [], [⟨257, (.pair (.int .i64) (.pair (.int .i64) (.pair (.int .i64) (.pair (.int .i64) (.int .i64))))), a5, .ro⟩, ⟨252, (.pair (.int .i64) (.pair (.int .i64) (.pair (.int .i64) (.pair (.int .i64) (.int .i64))))), a6, .own⟩]⟩ : St)
theorem ev142_3 (m : Nat) (k : Kont ((List (Int × Int × Int × Int × Int)))) (a4 : Int) (a5 a6 : List (Int × Int × Int × Int × Int)) : evC Try.prog G142 loopNil c142_3 (S142_3 a4 a5 a6) (turn Try.prog (0, 0) H142_3 (E142_3 m) k) = E142_3 (m + 1) [.v (.int .i64 a4), .row (.pair (.int .i64) (.pair (.int .i64) (.pair (.int .i64) (.pair (.int .i64) (.int .i64))))) a5, .row (.pair (.int .i64) (.pair (.int .i64) (.pair (.int .i64) (.pair (.int .i64) (.int .i64))))) a6] k := by kernel_rfl
theorem ok142_3 (m : Nat) : LoopOk Try.prog (0, 0) c142_3 (enter Try.prog (0, 0) H142_3 (E142_3 m)) := by
  refine loop_ok (G := G142) (L := loopNil) (envCons_good good203 envNil_good) (by intro x hx; simp [show loopsOf c142_3 = [] from by kernel_rfl] at hx) (fun ps k => by unfold E142_3; split <;> rfl) (fun m ps k r h => ?_) m
  have h0 := h
  unfold E142_3 at h
  split at h
  · exact ⟨S142_3 _ _ _, by kernel_rfl, (ev142_3 m k _ _ _).trans h0⟩
  · cases h
noncomputable def L142 : LEnv ((List (Int × Int × Int × Int × Int))) := (loopCons 3 (enter Try.prog (0, 0) H142_3 (E142_3 fu)) loopNil)
theorem lq142 : loopsOf c142 = [c142_3] := by kernel_rfl
theorem fr142_3 : firstReg c142_3 = some 3 := by kernel_rfl
theorem le142_3 : L142 3 = enter Try.prog (0, 0) H142_3 (E142_3 fu) := by kernel_rfl
theorem lm142 : ∀ x ∈ [c142_3], ∀ id, firstReg x = some id → LoopOk Try.prog (0, 0) x (L142 id) := (loops_cons fr142_3 le142_3 (ok142_3 fu) loops_nil)
theorem lp142 : ∀ x ∈ loopsOf c142, ∀ id, firstReg x = some id → LoopOk Try.prog (0, 0) x (L142 id) := loops_eq lq142 lm142
noncomputable def R142 (x : (List (Int × Int × Int × Int × Int))) : Res := ⟨[.one (.sl 0)], [], [⟨252, (.pair (.int .i64) (.pair (.int .i64) (.pair (.int .i64) (.pair (.int .i64) (.int .i64))))), x, .own⟩]⟩
noncomputable def K142 (r : Res) : Option ((List (Int × Int × Int × Int × Int))) :=
  match r with
  | ⟨[.one (.sl 0)], [], [⟨252, (.pair (.int .i64) (.pair (.int .i64) (.pair (.int .i64) (.pair (.int .i64) (.int .i64))))), v1, .own⟩]⟩ => some (v1)
  | _ => none
noncomputable def E142 : Fun2 := fun args bs rs =>
  match args, bs, rs with
  | [.s1 (.one (.sl 0))], [], [⟨257, (.pair (.int .i64) (.pair (.int .i64) (.pair (.int .i64) (.pair (.int .i64) (.int .i64))))), a1, .ro⟩] => some ⟨(List (Int × Int × Int × Int × Int)), L.toRuleS a1, R142⟩
  | _, _, _ => none
theorem ev142 (a1 : List (Int × Int × Int × Int × Int)) : evF Try.prog G142 L142 (0, 0) Try.f142 c142 [vl 0] [] [⟨257, (.pair (.int .i64) (.pair (.int .i64) (.pair (.int .i64) (.pair (.int .i64) (.int .i64))))), a1, .ro⟩] K142 = L.toRuleS a1 := by kernel_rfl
theorem good142 : Vm.Good Try.prog 142 E142 := by
  refine evF_good (G := G142) (c := c142) (envCons_good good203 envNil_good) Try.func142 (by kernel_rfl) (by kernel_rfl) (0, 0) (fun args bs rs out t h h2 => ?_)
  unfold E142 at h
  split at h
  · injection h with h
    subst h
    exact ⟨rfl, L142, K142, lp142, (fun r t h => by unfold K142 at h; split at h; (injection h with h; subst h; rfl); cases h), (ev142 _).trans h2⟩
  · cases h
/-! ### L.toConf -/
noncomputable def G64 : Env := (envCons 32 [] E32 (envCons 140 [] E140 (envCons 141 [] E141 (envCons 142 [] E142 envNil))))
noncomputable def c64 : Code := bodyOf Try.f64
noncomputable def L.toConf (a1 a2 a3 : Int) (a4 : List Int) (a5 : List (List (Int × Int) × List (Int × Int) × (Int × Int × Int) × Int × Int)) (a6 : List (Int × Int × Int)) (a7 : List (Int × Int × Int × Int × Int)) : Option (Int × Int × Int × List Int × (List (List (Int × Int) × List (Int × Int) × (Int × Int × Int) × Int × Int)) × (List (Int × Int × Int)) × (List (Int × Int × Int × Int × Int))) :=
(Option.bind (L.toLat a1 a4) fun r8 =>
(Option.bind (L.toQueryS a5) fun r9 =>
(Option.bind (L.toSubS a6) fun r10 =>
(Option.bind (L.toRuleS a7) fun r11 =>
(some (r8.1, a2, a3, r8.2, r9, r10, r11))))))
noncomputable def R64 (x : Int × Int × Int × List Int × (List (List (Int × Int) × List (Int × Int) × (Int × Int × Int) × Int × Int)) × (List (Int × Int × Int)) × (List (Int × Int × Int × Int × Int))) : Res := ⟨[.agg [ai x.1, .sl 0, ai x.2.1, ai x.2.2.1, .sl 1, .sl 2, .sl 3]], [], [⟨117, (.int .u64), x.2.2.2.1, .own⟩, ⟨129, (.pair (.sl 275 (.pair (.int .i64) (.int .i64))) (.pair (.sl 275 (.pair (.int .i64) (.int .i64))) (.pair (.pair (.int .i64) (.pair (.int .i64) (.int .i64))) (.pair (.int .i64) (.int .i64))))), x.2.2.2.2.1, .own⟩, ⟨250, (.pair (.int .i64) (.pair (.int .i64) (.int .i64))), x.2.2.2.2.2.1, .own⟩, ⟨252, (.pair (.int .i64) (.pair (.int .i64) (.pair (.int .i64) (.pair (.int .i64) (.int .i64))))), x.2.2.2.2.2.2, .own⟩]⟩
noncomputable def K64 (r : Res) : Option (Int × Int × Int × List Int × (List (List (Int × Int) × List (Int × Int) × (Int × Int × Int) × Int × Int)) × (List (Int × Int × Int)) × (List (Int × Int × Int × Int × Int))) :=
  match r with
  | ⟨[.agg [.val (.int .i64 v1), .sl 0, .val (.int .i64 v2), .val (.int .i64 v3), .sl 1, .sl 2, .sl 3]], [], [⟨117, (.int .u64), v4, .own⟩, ⟨129, (.pair (.sl 275 (.pair (.int .i64) (.int .i64))) (.pair (.sl 275 (.pair (.int .i64) (.int .i64))) (.pair (.pair (.int .i64) (.pair (.int .i64) (.int .i64))) (.pair (.int .i64) (.int .i64))))), v5, .own⟩, ⟨250, (.pair (.int .i64) (.pair (.int .i64) (.int .i64))), v6, .own⟩, ⟨252, (.pair (.int .i64) (.pair (.int .i64) (.pair (.int .i64) (.pair (.int .i64) (.int .i64))))), v7, .own⟩]⟩ => some (v1, v2, v3, v4, v5, v6, v7)
  | _ => none
noncomputable def E64 : Fun2 := fun args bs rs =>
  match args, bs, rs with
  | [.s1 (.agg [.val (.int .i64 a1), .sl 0, .val (.int .i64 a2), .val (.int .i64 a3), .sl 1, .sl 2, .sl 3])], [], [⟨117, (.int .u64), a4, .ro⟩, ⟨114, (.pair (.sl 277 (.pair (.int .i64) (.int .i64))) (.pair (.sl 277 (.pair (.int .i64) (.int .i64))) (.pair (.pair (.int .i64) (.pair (.int .i64) (.int .i64))) (.pair (.int .i64) (.int .i64))))), a5, .ro⟩, ⟨255, (.pair (.int .i64) (.pair (.int .i64) (.int .i64))), a6, .ro⟩, ⟨257, (.pair (.int .i64) (.pair (.int .i64) (.pair (.int .i64) (.pair (.int .i64) (.int .i64))))), a7, .ro⟩] => some ⟨Int × Int × Int × List Int × (List (List (Int × Int) × List (Int × Int) × (Int × Int × Int) × Int × Int)) × (List (Int × Int × Int)) × (List (Int × Int × Int × Int × Int)), L.toConf a1 a2 a3 a4 a5 a6 a7, R64⟩
  | _, _, _ => none
theorem ev64 (a1 a2 a3 : Int) (a4 : List Int) (a5 : List (List (Int × Int) × List (Int × Int) × (Int × Int × Int) × Int × Int)) (a6 : List (Int × Int × Int)) (a7 : List (Int × Int × Int × Int × Int)) : evF Try.prog G64 loopNil (0, 0) Try.f64 c64 [.s1 (.agg [ai a1, .sl 0, ai a2, ai a3, .sl 1, .sl 2, .sl 3])] [] [⟨117, (.int .u64), a4, .ro⟩, ⟨114, (.pair (.sl 277 (.pair (.int .i64) (.int .i64))) (.pair (.sl 277 (.pair (.int .i64) (.int .i64))) (.pair (.pair (.int .i64) (.pair (.int .i64) (.int .i64))) (.pair (.int .i64) (.int .i64))))), a5, .ro⟩, ⟨255, (.pair (.int .i64) (.pair (.int .i64) (.int .i64))), a6, .ro⟩, ⟨257, (.pair (.int .i64) (.pair (.int .i64) (.pair (.int .i64) (.pair (.int .i64) (.int .i64))))), a7, .ro⟩] K64 = L.toConf a1 a2 a3 a4 a5 a6 a7 := by kernel_rfl
theorem good64 : Vm.Good Try.prog 64 E64 := by
  refine evF_good (G := G64) (c := c64) (envCons_good good32 (envCons_good good140 (envCons_good good141 (envCons_good good142 envNil_good)))) Try.func64 (by kernel_rfl) (by kernel_rfl) (0, 0) (fun args bs rs out t h h2 => ?_)
  unfold E64 at h
  split at h
  · injection h with h
    subst h
    exact ⟨rfl, loopNil, K64, (by intro x hx; simp [show loopsOf c64 = [] from by kernel_rfl] at hx), (fun r t h => by unfold K64 at h; split at h; (injection h with h; subst h; rfl); cases h), (ev64 _ _ _ _ _ _ _).trans h2⟩
  · cases h
/-! ### L.toElem -/
noncomputable def G204 : Env := envNil
noncomputable def c204 : Code := bodyOf Try.f204
noncomputable def L.toElem (a1 a2 a3 a4 : Int) : Option (Int × Int × Int × Int) :=
(some (a1, a2, a3, a4))
noncomputable def R204 (x : Int × Int × Int × Int) : Res := ⟨[.agg [ai x.1, ai x.2.1, ai x.2.2.1, ai x.2.2.2]], [], []⟩
noncomputable def K204 (r : Res) : Option (Int × Int × Int × Int) :=
  match r with
  | ⟨[.agg [.val (.int .i64 v1), .val (.int .i64 v2), .val (.int .i64 v3), .val (.int .i64 v4)]], [], []⟩ => some (v1, v2, v3, v4)
  | _ => none
noncomputable def E204 : Fun2 := fun args bs rs =>
  match args, bs, rs with
  | [.s1 (.agg [.val (.int .i64 a1), .val (.int .i64 a2), .val (.int .i64 a3), .val (.int .i64 a4)])], [], [] => some ⟨Int × Int × Int × Int, L.toElem a1 a2 a3 a4, R204⟩
  | _, _, _ => none
theorem ev204 (a1 a2 a3 a4 : Int) : evF Try.prog G204 loopNil (0, 0) Try.f204 c204 [.s1 (.agg [ai a1, ai a2, ai a3, ai a4])] [] [] K204 = L.toElem a1 a2 a3 a4 := by kernel_rfl
theorem good204 : Vm.Good Try.prog 204 E204 := by
  refine evF_good (G := G204) (c := c204) envNil_good Try.func204 (by kernel_rfl) (by kernel_rfl) (0, 0) (fun args bs rs out t h h2 => ?_)
  unfold E204 at h
  split at h
  · injection h with h
    subst h
    exact ⟨rfl, loopNil, K204, (by intro x hx; simp [show loopsOf c204 = [] from by kernel_rfl] at hx), (fun r t h => by unfold K204 at h; split at h; (injection h with h; subst h; rfl); cases h), (ev204 _ _ _ _).trans h2⟩
  · cases h
/-! ### L.toTaken -/
noncomputable def G143 : Env := (envCons 204 [] E204 envNil)
noncomputable def c143 : Code := bodyOf Try.f143
noncomputable def L.toTaken (a1 a2 a3 a4 a5 a6 : Int) : Option (Int × Int × Int × Int × Int × Int) :=
(Option.bind (L.toElem a2 a3 a4 a5) fun r7 =>
(some (a1, r7.1, r7.2.1, r7.2.2.1, r7.2.2.2, a6)))
noncomputable def R143 (x : Int × Int × Int × Int × Int × Int) : Res := ⟨[.agg [ai x.1, ai x.2.1, ai x.2.2.1, ai x.2.2.2.1, ai x.2.2.2.2.1, ai x.2.2.2.2.2]], [], []⟩
noncomputable def K143 (r : Res) : Option (Int × Int × Int × Int × Int × Int) :=
  match r with
  | ⟨[.agg [.val (.int .i64 v1), .val (.int .i64 v2), .val (.int .i64 v3), .val (.int .i64 v4), .val (.int .i64 v5), .val (.int .i64 v6)]], [], []⟩ => some (v1, v2, v3, v4, v5, v6)
  | _ => none
noncomputable def E143 : Fun2 := fun args bs rs =>
  match args, bs, rs with
  | [.s1 (.agg [.val (.int .i64 a1), .val (.int .i64 a2), .val (.int .i64 a3), .val (.int .i64 a4), .val (.int .i64 a5), .val (.int .i64 a6)])], [], [] => some ⟨Int × Int × Int × Int × Int × Int, L.toTaken a1 a2 a3 a4 a5 a6, R143⟩
  | _, _, _ => none
theorem ev143 (a1 a2 a3 a4 a5 a6 : Int) : evF Try.prog G143 loopNil (0, 0) Try.f143 c143 [.s1 (.agg [ai a1, ai a2, ai a3, ai a4, ai a5, ai a6])] [] [] K143 = L.toTaken a1 a2 a3 a4 a5 a6 := by kernel_rfl
theorem good143 : Vm.Good Try.prog 143 E143 := by
  refine evF_good (G := G143) (c := c143) (envCons_good good204 envNil_good) Try.func143 (by kernel_rfl) (by kernel_rfl) (0, 0) (fun args bs rs out t h h2 => ?_)
  unfold E143 at h
  split at h
  · injection h with h
    subst h
    exact ⟨rfl, loopNil, K143, (by intro x hx; simp [show loopsOf c143 = [] from by kernel_rfl] at hx), (fun r t h => by unfold K143 at h; split at h; (injection h with h; subst h; rfl); cases h), (ev143 _ _ _ _ _ _).trans h2⟩
  · cases h
/-! ### L.toTakenS -/
noncomputable def G65 : Env := (envCons 143 [] E143 envNil)
noncomputable def c65 : Code := bodyOf Try.f65
noncomputable def c65_3 : Code := (loopsOf c65).getD 0 .skip
noncomputable def L.toTakenS_l0 : Nat → ((List (Int × (Int × Int × Int × Int) × Int)) → Option ((List (Int × (Int × Int × Int × Int) × Int)))) → Int → (List (Int × (Int × Int × Int × Int) × Int)) → (List (Int × (Int × Int × Int × Int) × Int)) → Option ((List (Int × (Int × Int × Int × Int) × Int)))
  | 0, _, _, _, _ => none
  | m + 1, e3_0, a4, a5, a6 =>
    (bif (decide (a4 < (a5.length : Int))) then
    (bif decide ((0 : Int) ≤ a4 ∧ a4 < (a5.length : Int)) then
    (Option.bind (L.toTaken ((nthI a5 a4 ((0 : Int), (((0 : Int), ((0 : Int), ((0 : Int), (0 : Int)))), (0 : Int)))).1) ((nthI a5 a4 ((0 : Int), (((0 : Int), ((0 : Int), ((0 : Int), (0 : Int)))), (0 : Int)))).2.1.1) ((nthI a5 a4 ((0 : Int), (((0 : Int), ((0 : Int), ((0 : Int), (0 : Int)))), (0 : Int)))).2.1.2.1) ((nthI a5 a4 ((0 : Int), (((0 : Int), ((0 : Int), ((0 : Int), (0 : Int)))), (0 : Int)))).2.1.2.2.1) ((nthI a5 a4 ((0 : Int), (((0 : Int), ((0 : Int), ((0 : Int), (0 : Int)))), (0 : Int)))).2.1.2.2.2) ((nthI a5 a4 ((0 : Int), (((0 : Int), ((0 : Int), ((0 : Int), (0 : Int)))), (0 : Int)))).2.2)) fun r9 =>
    (bif decide ((0 : Int) ≤ a4 ∧ a4 < (a6.length : Int)) then
    (let v10 : List (Int × (Int × Int × Int × Int) × Int) := (a6.set (Int.toNat a4) (r9.1, ((r9.2.1, (r9.2.2.1, (r9.2.2.2.1, r9.2.2.2.2.1))), r9.2.2.2.2.2)))
    (L.toTakenS_l0 m e3_0 (IntKind.wrap .i64 (a4 + 1)) a5 v10))
    else
    none))
    else
    none)
    else
    (e3_0 a6))
noncomputable def L.toTakenS (a1 : List (Int × (Int × Int × Int × Int) × Int)) : Option ((List (Int × (Int × Int × Int × Int) × Int))) :=
(let v2 : Int := (a1.length : Int)
(bif decide ((0 : Int) ≤ v2 ∧ v2 ≤ v2 ∧ (48 : Int) * v2 ≤ 281474976710656 ∧ v2 ≤ 9223372036854775807) then
(L.toTakenS_l0 fu (fun y12 =>
(some y12)) 0 a1 (List.replicate (Int.toNat v2) (0, ((0, (0, (0, 0))), 0))))
else
none))
noncomputable def H65_3 : LoopH := ⟨⟨((.one (.sl 0)) :: (hu 2 ((.one (.sl 1)) :: hh :: (hu 18 [])))), [], [(204, (.pair (.int .i64) (.pair (.pair (.int .i64) (.pair (.int .i64) (.pair (.int .i64) (.int .i64)))) (.int .i64))), .ro), (196, (.pair (.int .i64) (.pair (.pair (.int .i64) (.pair (.int .i64) (.pair (.int .i64) (.int .i64)))) (.int .i64))), .own)]⟩, [1, 2, 5, 6, 7, 8, 9, 10, 11, 12, 13, 14, 15, 16, 17, 18, 19, 20, 21, 22], [], [0, 1, 4, 5, 6, 7, 8, 9, 10, 11, 12, 13, 14, 15, 16, 17, 18, 19, 20, 21, 22]⟩
noncomputable def E65_3 (m : Nat) (ps : List Prm) (k : Kont ((List (Int × (Int × Int × Int × Int) × Int)))) : Option ((List (Int × (Int × Int × Int × Int) × Int))) :=
  match ps with
  | [.v (.int .i64 a4), .row (.pair (.int .i64) (.pair (.pair (.int .i64) (.pair (.int .i64) (.pair (.int .i64) (.int .i64)))) (.int .i64))) a5, .row (.pair (.int .i64) (.pair (.pair (.int .i64) (.pair (.int .i64) (.pair (.int .i64) (.int .i64)))) (.int .i64))) a6] => L.toTakenS_l0 m (fun z14 => k (.exit 0) (⟨(vu 3 ((vl 0) :: (vu 19 []))), [], [⟨196, (.pair (.int .i64) (.pair (.pair (.int .i64) (.pair (.int .i64) (.pair (.int .i64) (.int .i64)))) (.int .i64))), z14, .own⟩]⟩ : St)) a4 a5 a6
  | _ => none
noncomputable def S65_3 (a4 : Int) (a5 a6 : List (Int × (Int × Int × Int × Int) × Int)) : St := (⟨((vl 0) :: (vu 2 ((vl 1) :: (vi a4) :: (vu 18 [])))), [], [⟨204, (.pair (.int .i64) (.pair (.pair (.int .i64) (.pair (.int .i64) (.pair (.int .i64) (.int .i64)))) (.int .i64))), a5, .ro⟩, ⟨196, (.pair (.int .i64) (.pair (.pair (.int .i64) (.pair (.int .i64) (.pair (.int .i64) (.int .i64)))) (.int .i64))), a6, .own⟩]⟩ : St)
theorem ev65_3 (m : Nat) (k : Kont ((List (Int × (Int × Int × Int × Int) × Int)))) (a4 : Int) (a5 a6 : List (Int × (Int × Int × Int × Int) × Int)) : evC Try.prog G65 loopNil c65_3 (S65_3 a4 a5 a6) (turn Try.prog (0, 0) H65_3 (E65_3 m) k) = E65_3 (m + 1) [.v (.int .i64 a4), .row (.pair (.int .i64) (.pair (.pair (.int .i64) (.pair (.int .i64) (.pair (.int .i64) (.int .i64)))) (.int .i64))) a5, .row (.pair (.int .i64) (.pair (.pair (.int .i64) (.pair (.int .i64) (.pair (.int .i64) (.int .i64)))) (.int .i64))) a6] k := by kernel_rfl
theorem ok65_3 (m : Nat) : LoopOk Try.prog (0, 0) c65_3 (enter Try.prog (0, 0) H65_3 (E65_3 m)) := by
  refine loop_ok (G := G65) (L := loopNil) (envCons_good good143 envNil_good) (by intro x hx; simp [show loopsOf c65_3 = [] from by kernel_rfl] at hx) (fun ps k => by unfold E65_3; split <;> rfl) (fun m ps k r h => ?_) m
  have h0 := h
  unfold E65_3 at h
  split at h
  · exact ⟨S65_3 _ _ _, by kernel_rfl, (ev65_3 m k _ _ _).trans h0⟩
  · cases h
noncomputable def L65 : LEnv ((List (Int × (Int × Int × Int × Int) × Int))) := (loopCons 3 (enter Try.prog (0, 0) H65_3 (E65_3 fu)) loopNil)
theorem lq65 : loopsOf c65 = [c65_3] := by kernel_rfl
theorem fr65_3 : firstReg c65_3 = some 3 := by kernel_rfl
theorem le65_3 : L65 3 = enter Try.prog (0, 0) H65_3 (E65_3 fu) := by kernel_rfl
theorem lm65 : ∀ x ∈ [c65_3], ∀ id, firstReg x = some id → LoopOk Try.prog (0, 0) x (L65 id) := (loops_cons fr65_3 le65_3 (ok65_3 fu) loops_nil)
theorem lp65 : ∀ x ∈ loopsOf c65, ∀ id, firstReg x = some id → LoopOk Try.prog (0, 0) x (L65 id) := loops_eq lq65 lm65
noncomputable def R65 (x : (List (Int × (Int × Int × Int × Int) × Int))) : Res := ⟨[.one (.sl 0)], [], [⟨196, (.pair (.int .i64) (.pair (.pair (.int .i64) (.pair (.int .i64) (.pair (.int .i64) (.int .i64)))) (.int .i64))), x, .own⟩]⟩
noncomputable def K65 (r : Res) : Option ((List (Int × (Int × Int × Int × Int) × Int))) :=
  match r with
  | ⟨[.one (.sl 0)], [], [⟨196, (.pair (.int .i64) (.pair (.pair (.int .i64) (.pair (.int .i64) (.pair (.int .i64) (.int .i64)))) (.int .i64))), v1, .own⟩]⟩ => some (v1)
  | _ => none
noncomputable def E65 : Fun2 := fun args bs rs =>
  match args, bs, rs with
  | [.s1 (.one (.sl 0))], [], [⟨204, (.pair (.int .i64) (.pair (.pair (.int .i64) (.pair (.int .i64) (.pair (.int .i64) (.int .i64)))) (.int .i64))), a1, .ro⟩] => some ⟨(List (Int × (Int × Int × Int × Int) × Int)), L.toTakenS a1, R65⟩
  | _, _, _ => none
theorem ev65 (a1 : List (Int × (Int × Int × Int × Int) × Int)) : evF Try.prog G65 L65 (0, 0) Try.f65 c65 [vl 0] [] [⟨204, (.pair (.int .i64) (.pair (.pair (.int .i64) (.pair (.int .i64) (.pair (.int .i64) (.int .i64)))) (.int .i64))), a1, .ro⟩] K65 = L.toTakenS a1 := by kernel_rfl
theorem good65 : Vm.Good Try.prog 65 E65 := by
  refine evF_good (G := G65) (c := c65) (envCons_good good143 envNil_good) Try.func65 (by kernel_rfl) (by kernel_rfl) (0, 0) (fun args bs rs out t h h2 => ?_)
  unfold E65 at h
  split at h
  · injection h with h
    subst h
    exact ⟨rfl, L65, K65, lp65, (fun r t h => by unfold K65 at h; split at h; (injection h with h; subst h; rfl); cases h), (ev65 _).trans h2⟩
  · cases h
/-! ### S.l01Bit -/
noncomputable def G181 : Env := envNil
noncomputable def c181 : Code := bodyOf Try.f181
noncomputable def S.l01Bit (a1 a2 : Int) : Option Bool :=
(let v3 : Int := (IntKind.wrap .u64 a2)
(bif decide ((0 : Int) ≤ v3) then
(some ((Go.bits .and .u64 (Int.fdiv a1 (2 ^ min (Int.toNat v3) (IntKind.bits .u64))) 1) == 1))
else
none))
noncomputable def R181 (x : Bool) : Res := ⟨[.one (ab x)], [], []⟩
noncomputable def K181 (r : Res) : Option Bool :=
  match r with
  | ⟨[.one (.val (.bool v1))], [], []⟩ => some (v1)
  | _ => none
noncomputable def E181 : Fun2 := fun args bs rs =>
  match args, bs, rs with
  | [.s1 (.one (.val (.int .u64 a1))), .s1 (.one (.val (.int .i64 a2)))], [], [] => some ⟨Bool, S.l01Bit a1 a2, R181⟩
  | _, _, _ => none
theorem ev181 (a1 a2 : Int) : evF Try.prog G181 loopNil (0, 0) Try.f181 c181 [vk .u64 a1, vi a2] [] [] K181 = S.l01Bit a1 a2 := by kernel_rfl
theorem good181 : Vm.Good Try.prog 181 E181 := by
  refine evF_good (G := G181) (c := c181) envNil_good Try.func181 (by kernel_rfl) (by kernel_rfl) (0, 0) (fun args bs rs out t h h2 => ?_)
  unfold E181 at h
  split at h
  · injection h with h
    subst h
    exact ⟨rfl, loopNil, K181, (by intro x hx; simp [show loopsOf c181 = [] from by kernel_rfl] at hx), (fun r t h => by unfold K181 at h; split at h; (injection h with h; subst h; rfl); cases h), (ev181 _ _).trans h2⟩
  · cases h
/-! ### S.l01Power -/
noncomputable def G182 : Env := envNil
noncomputable def c182 : Code := bodyOf Try.f182
noncomputable def c182_2 : Code := (loopsOf c182).getD 0 .skip
noncomputable def S.l01Power_l0 : Nat → (Int → Option Int) → Int → Int → Option Int
  | 0, _, _, _ => none
  | m + 1, e2_0, a2, a3 =>
    (bif (decide (0 < a2)) then
    (S.l01Power_l0 m e2_0 (IntKind.wrap .i64 (a2 - 1)) (IntKind.wrap .u64 (2 * a3)))
    else
    (e2_0 a3))
noncomputable def S.l01Power (a1 : Int) : Option Int :=
(S.l01Power_l0 fu (fun y7 =>
(some y7)) a1 1)
noncomputable def H182_2 : LoopH := ⟨⟨(hh :: (hu 2 (hh :: (hu 7 [])))), [], []⟩, [1, 2, 4, 5, 6, 7, 8, 9, 10], [], [0, 1, 4, 5, 6, 7, 8, 9, 10]⟩
noncomputable def E182_2 (m : Nat) (ps : List Prm) (k : Kont Int) : Option Int :=
  match ps with
  | [.v (.int .i64 a2), .v (.int .u64 a3)] => S.l01Power_l0 m (fun z9 => k (.exit 0) (⟨(vu 3 ((vk .u64 z9) :: (vu 7 []))), [], []⟩ : St)) a2 a3
  | _ => none
noncomputable def S182_2 (a2 a3 : Int) : St := (⟨((vi a2) :: (vu 2 ((vk .u64 a3) :: (vu 7 [])))), [], []⟩ : St)
theorem ev182_2 (m : Nat) (k : Kont Int) (a2 a3 : Int) : evC Try.prog G182 loopNil c182_2 (S182_2 a2 a3) (turn Try.prog (0, 0) H182_2 (E182_2 m) k) = E182_2 (m + 1) [.v (.int .i64 a2), .v (.int .u64 a3)] k := by kernel_rfl
theorem ok182_2 (m : Nat) : LoopOk Try.prog (0, 0) c182_2 (enter Try.prog (0, 0) H182_2 (E182_2 m)) := by
  refine loop_ok (G := G182) (L := loopNil) envNil_good (by intro x hx; simp [show loopsOf c182_2 = [] from by kernel_rfl] at hx) (fun ps k => by unfold E182_2; split <;> rfl) (fun m ps k r h => ?_) m
  have h0 := h
  unfold E182_2 at h
  split at h
  · exact ⟨S182_2 _ _, by kernel_rfl, (ev182_2 m k _ _).trans h0⟩
  · cases h
noncomputable def L182 : LEnv Int := (loopCons 2 (enter Try.prog (0, 0) H182_2 (E182_2 fu)) loopNil)
theorem lq182 : loopsOf c182 = [c182_2] := by kernel_rfl
theorem fr182_2 : firstReg c182_2 = some 2 := by kernel_rfl
theorem le182_2 : L182 2 = enter Try.prog (0, 0) H182_2 (E182_2 fu) := by kernel_rfl
theorem lm182 : ∀ x ∈ [c182_2], ∀ id, firstReg x = some id → LoopOk Try.prog (0, 0) x (L182 id) := (loops_cons fr182_2 le182_2 (ok182_2 fu) loops_nil)
theorem lp182 : ∀ x ∈ loopsOf c182, ∀ id, firstReg x = some id → LoopOk Try.prog (0, 0) x (L182 id) := loops_eq lq182 lm182
noncomputable def R182 (x : Int) : Res := ⟨[.one (ak .u64 x)], [], []⟩
noncomputable def K182 (r : Res) : Option Int :=
  match r with
  | ⟨[.one (.val (.int .u64 v1))], [], []⟩ => some (v1)
  | _ => none
noncomputable def E182 : Fun2 := fun args bs rs =>
  match args, bs, rs with
  | [.s1 (.one (.val (.int .i64 a1)))], [], [] => some ⟨Int, S.l01Power a1, R182⟩
  | _, _, _ => none
theorem ev182 (a1 : Int) : evF Try.prog G182 L182 (0, 0) Try.f182 c182 [vi a1] [] [] K182 = S.l01Power a1 := by kernel_rfl
theorem good182 : Vm.Good Try.prog 182 E182 := by
  refine evF_good (G := G182) (c := c182) envNil_good Try.func182 (by kernel_rfl) (by kernel_rfl) (0, 0) (fun args bs rs out t h h2 => ?_)
  unfold E182 at h
  split at h
  · injection h with h
    subst h
    exact ⟨rfl, L182, K182, lp182, (fun r t h => by unfold K182 at h; split at h; (injection h with h; subst h; rfl); cases h), (ev182 _).trans h2⟩
  · cases h
/-! ### S.l01Side -/
noncomputable def G183 : Env := (envCons 181 [] E181 envNil)
noncomputable def c183 : Code := bodyOf Try.f183
noncomputable def S.l01Side (a1 a2 a3 : Int) (a4 : Bool) (a5 : List Int) : Option Bool :=
(bif a4 then
(bif decide ((0 : Int) ≤ a2 ∧ a2 < (a5.length : Int)) then
(Option.bind (S.l01Bit (nthI a5 a2 (0 : Int)) a3) fun r6 =>
(some r6))
else
none)
else
(bif decide ((0 : Int) ≤ a3 ∧ a3 < (a5.length : Int)) then
(Option.bind (S.l01Bit (nthI a5 a3 (0 : Int)) a2) fun r7 =>
(some r7))
else
none))
noncomputable def R183 (x : Bool) : Res := ⟨[.one (ab x)], [], []⟩
noncomputable def K183 (r : Res) : Option Bool :=
  match r with
  | ⟨[.one (.val (.bool v1))], [], []⟩ => some (v1)
  | _ => none
noncomputable def E183 : Fun2 := fun args bs rs =>
  match args, bs, rs with
  | [.s1 (.agg [.val (.int .i64 a1), .sl 0]), .s1 (.one (.val (.int .i64 a2))), .s1 (.one (.val (.int .i64 a3))), .s1 (.one (.val (.bool a4)))], [], [⟨117, (.int .u64), a5, .ro⟩] => some ⟨Bool, S.l01Side a1 a2 a3 a4 a5, R183⟩
  | _, _, _ => none
theorem ev183 (a1 a2 a3 : Int) (a4 : Bool) (a5 : List Int) : evF Try.prog G183 loopNil (0, 0) Try.f183 c183 [.s1 (.agg [ai a1, .sl 0]), vi a2, vi a3, vb a4] [] [⟨117, (.int .u64), a5, .ro⟩] K183 = S.l01Side a1 a2 a3 a4 a5 := by kernel_rfl
theorem good183 : Vm.Good Try.prog 183 E183 := by
  refine evF_good (G := G183) (c := c183) (envCons_good good181 envNil_good) Try.func183 (by kernel_rfl) (by kernel_rfl) (0, 0) (fun args bs rs out t h h2 => ?_)
  unfold E183 at h
  split at h
  · injection h with h
    subst h
    exact ⟨rfl, loopNil, K183, (by intro x hx; simp [show loopsOf c183 = [] from by kernel_rfl] at hx), (fun r t h => by unfold K183 at h; split at h; (injection h with h; subst h; rfl); cases h), (ev183 _ _ _ _ _).trans h2⟩
  · cases h
/-! ### S.l01Bound -/
noncomputable def G105 : Env := (envCons 183 [] E183 envNil)
noncomputable def c105 : Code := bodyOf Try.f105
noncomputable def c105_2 : Code := (loopsOf c105).getD 0 .skip
noncomputable def c105_6 : Code := (loopsOf c105_2).getD 0 .skip
noncomputable def S.l01Bound_l1 : Nat → (Int → Int → Bool → Int → Bool → Int → List Int → Option Int) → Int → Int → Bool → Int → Bool → Int → Int → List Int → Option Int
  | 0, _, _, _, _, _, _, _, _, _ => none
  | m + 1, e6_0, a15, a16, a17, a18, a19, a20, a21, a22 =>
    (bif (decide (a20 < a21)) then
    (bif a19 then
    (Option.bind (S.l01Side a21 a15 a20 a17 a22) fun r24 =>
    (bif r24 then
    (Option.bind (S.l01Side a21 a16 a20 a17 a22) fun r25 =>
    (bif r25 then
    (Option.bind (S.l01Side a21 a18 a20 a17 a22) fun r26 =>
    (bif (!r26) then
    (S.l01Bound_l1 m e6_0 a15 a16 a17 a18 false (IntKind.wrap .i64 (a20 + 1)) a21 a22)
    else
    (S.l01Bound_l1 m e6_0 a15 a16 a17 a18 a19 (IntKind.wrap .i64 (a20 + 1)) a21 a22)))
    else
    (S.l01Bound_l1 m e6_0 a15 a16 a17 a18 a19 (IntKind.wrap .i64 (a20 + 1)) a21 a22)))
    else
    (S.l01Bound_l1 m e6_0 a15 a16 a17 a18 a19 (IntKind.wrap .i64 (a20 + 1)) a21 a22)))
    else
    (e6_0 a15 a16 a17 a18 a19 a21 a22))
    else
    (e6_0 a15 a16 a17 a18 a19 a21 a22))
noncomputable def S.l01Bound_l0 : Nat → (Int → Option Int) → (Option Int) → Int → Int → Bool → Int → Int → List Int → Option Int
  | 0, _, _, _, _, _, _, _, _ => none
  | m + 1, e2_0, e2_1, a6, a7, a8, a9, a10, a11 =>
    (bif (decide (a9 < a10)) then
    (Option.bind (S.l01Side a10 a6 a9 a8 a11) fun r13 =>
    (bif r13 then
    (Option.bind (S.l01Side a10 a7 a9 a8 a11) fun r14 =>
    (S.l01Bound_l1 fu (fun y31 y32 y33 y34 y35 y36 y37 =>
    (bif y35 then
    (e2_0 y34)
    else
    (S.l01Bound_l0 m e2_0 e2_1 y31 y32 y33 (IntKind.wrap .i64 (y34 + 1)) y36 y37))) a6 a7 a8 a9 r14 0 a10 a11))
    else
    (S.l01Bound_l1 fu (fun y39 y40 y41 y42 y43 y44 y45 =>
    (bif y43 then
    (e2_0 y42)
    else
    (S.l01Bound_l0 m e2_0 e2_1 y39 y40 y41 (IntKind.wrap .i64 (y42 + 1)) y44 y45))) a6 a7 a8 a9 false 0 a10 a11)))
    else
    e2_1)
noncomputable def S.l01Bound (a1 a2 a3 : Int) (a4 : Bool) (a5 : List Int) : Option Int :=
(S.l01Bound_l0 fu (fun y47 =>
(some y47)) (some (-1)) a2 a3 a4 0 a1 a5)
noncomputable def H105_6 : LoopH := ⟨⟨((.one (.unk)) :: hh :: hh :: hh :: (.one (.ptr 0 0)) :: (hu 4 (hh :: hh :: hh :: (hu 49 [])))), [(51, [.hole, .sl 0])], [(117, (.int .u64), .ro)]⟩, [0, 5, 6, 7, 8, 12, 13, 14, 15, 16, 17, 18, 19, 20, 21, 22, 23, 24, 25, 26, 27, 28, 29, 30, 31, 32, 33, 34, 35, 36, 37, 38, 39, 40, 41, 42, 43, 44, 45, 46, 47, 48, 49, 50, 51, 52, 53, 54, 55, 56, 57, 58, 59, 60], [], [0, 5, 6, 7, 11, 12, 13, 14, 15, 16, 17, 18, 19, 20, 21, 22, 23, 24, 25, 26, 27, 28, 29, 30, 31, 32, 33, 34, 35, 36, 37, 38, 39, 40, 41, 42, 43, 44, 45, 46, 47, 48, 49, 50, 51, 52, 53, 54, 55, 56, 57, 58, 59, 60]⟩
noncomputable def E105_6 (m : Nat) (ps : List Prm) (k : Kont Int) : Option Int :=
  match ps with
  | [.v (.int .i64 a15), .v (.int .i64 a16), .v (.bool a17), .v (.int .i64 a18), .v (.bool a19), .v (.int .i64 a20), .v (.int .i64 a21), .row (.int .u64) a22] => S.l01Bound_l1 m (fun z56 z57 z58 z59 z60 z61 z62 => k (.exit 2) (⟨((.s1 (.one (.unk))) :: (vi z56) :: (vi z57) :: (vb z58) :: (vp 0 0) :: (vu 4 ((vi z59) :: (vb z60) :: (vu 50 [])))), [(51, [ai z61, .sl 0])], [⟨117, (.int .u64), z62, .ro⟩]⟩ : St)) a15 a16 a17 a18 a19 a20 a21 a22
  | _ => none
noncomputable def S105_6 (a15 a16 : Int) (a17 : Bool) (a18 : Int) (a19 : Bool) (a20 a21 : Int) (a22 : List Int) : St := (⟨((.s1 (.one (.unk))) :: (vi a15) :: (vi a16) :: (vb a17) :: (vp 0 0) :: (vu 4 ((vi a18) :: (vb a19) :: (vi a20) :: (vu 49 [])))), [(51, [ai a21, .sl 0])], [⟨117, (.int .u64), a22, .ro⟩]⟩ : St)
theorem ev105_6 (m : Nat) (k : Kont Int) (a15 a16 : Int) (a17 : Bool) (a18 : Int) (a19 : Bool) (a20 a21 : Int) (a22 : List Int) : evC Try.prog G105 loopNil c105_6 (S105_6 a15 a16 a17 a18 a19 a20 a21 a22) (turn Try.prog (0, 0) H105_6 (E105_6 m) k) = E105_6 (m + 1) [.v (.int .i64 a15), .v (.int .i64 a16), .v (.bool a17), .v (.int .i64 a18), .v (.bool a19), .v (.int .i64 a20), .v (.int .i64 a21), .row (.int .u64) a22] k := by kernel_rfl
theorem ok105_6 (m : Nat) : LoopOk Try.prog (0, 0) c105_6 (enter Try.prog (0, 0) H105_6 (E105_6 m)) := by
  refine loop_ok (G := G105) (L := loopNil) (envCons_good good183 envNil_good) (by intro x hx; simp [show loopsOf c105_6 = [] from by kernel_rfl] at hx) (fun ps k => by unfold E105_6; split <;> rfl) (fun m ps k r h => ?_) m
  have h0 := h
  unfold E105_6 at h
  split at h
  · exact ⟨S105_6 _ _ _ _ _ _ _ _, by kernel_rfl, (ev105_6 m k _ _ _ _ _ _ _ _).trans h0⟩
  · cases h
noncomputable def L105_2 : LEnv Int := (loopCons 6 (enter Try.prog (0, 0) H105_6 (E105_6 fu)) loopNil)
theorem lq105_2 : loopsOf c105_2 = [c105_6] := by kernel_rfl
theorem fr105_6 : firstReg c105_6 = some 6 := by kernel_rfl
theorem le105_6 : L105_2 6 = enter Try.prog (0, 0) H105_6 (E105_6 fu) := by kernel_rfl
theorem lm105_2 : ∀ x ∈ [c105_6], ∀ id, firstReg x = some id → LoopOk Try.prog (0, 0) x (L105_2 id) := (loops_cons fr105_6 le105_6 (ok105_6 fu) loops_nil)
theorem lp105_2 : ∀ x ∈ loopsOf c105_2, ∀ id, firstReg x = some id → LoopOk Try.prog (0, 0) x (L105_2 id) := loops_eq lq105_2 lm105_2
noncomputable def H105_2 : LoopH := ⟨⟨((.one (.unk)) :: hh :: hh :: hh :: (.one (.ptr 0 0)) :: (hu 4 (hh :: (hu 51 [])))), [(51, [.hole, .sl 0])], [(117, (.int .u64), .ro)]⟩, [0, 5, 6, 7, 8, 10, 11, 12, 13, 14, 15, 16, 17, 18, 19, 20, 21, 22, 23, 24, 25, 26, 27, 28, 29, 30, 31, 32, 33, 34, 35, 36, 37, 38, 39, 40, 41, 42, 43, 44, 45, 46, 47, 48, 49, 50, 51, 52, 53, 54, 55, 56, 57, 58, 59, 60], [], [0, 1, 2, 3, 4, 5, 6, 7, 9, 10, 11, 12, 13, 14, 15, 16, 17, 18, 19, 20, 21, 22, 23, 24, 25, 26, 27, 28, 29, 30, 31, 32, 33, 34, 35, 36, 37, 38, 39, 40, 41, 42, 43, 44, 45, 46, 47, 48, 49, 50, 51, 52, 53, 54, 55, 56, 57, 58, 59, 60]⟩
noncomputable def E105_2 (m : Nat) (ps : List Prm) (k : Kont Int) : Option Int :=
  match ps with
  | [.v (.int .i64 a6), .v (.int .i64 a7), .v (.bool a8), .v (.int .i64 a9), .v (.int .i64 a10), .row (.int .u64) a11] => S.l01Bound_l0 m (fun z63 => k .ret (⟨(vu 8 ((vi z63) :: (vu 52 []))), [], []⟩ : St)) (k (.exit 0) (⟨(vu 61 []), [], []⟩ : St)) a6 a7 a8 a9 a10 a11
  | _ => none
noncomputable def S105_2 (a6 a7 : Int) (a8 : Bool) (a9 a10 : Int) (a11 : List Int) : St := (⟨((.s1 (.one (.unk))) :: (vi a6) :: (vi a7) :: (vb a8) :: (vp 0 0) :: (vu 4 ((vi a9) :: (vu 51 [])))), [(51, [ai a10, .sl 0])], [⟨117, (.int .u64), a11, .ro⟩]⟩ : St)
theorem ev105_2 (m : Nat) (k : Kont Int) (a6 a7 : Int) (a8 : Bool) (a9 a10 : Int) (a11 : List Int) : evC Try.prog G105 L105_2 c105_2 (S105_2 a6 a7 a8 a9 a10 a11) (turn Try.prog (0, 0) H105_2 (E105_2 m) k) = E105_2 (m + 1) [.v (.int .i64 a6), .v (.int .i64 a7), .v (.bool a8), .v (.int .i64 a9), .v (.int .i64 a10), .row (.int .u64) a11] k := by kernel_rfl
theorem ok105_2 (m : Nat) : LoopOk Try.prog (0, 0) c105_2 (enter Try.prog (0, 0) H105_2 (E105_2 m)) := by
  refine loop_ok (G := G105) (L := L105_2) (envCons_good good183 envNil_good) lp105_2 (fun ps k => by unfold E105_2; split <;> rfl) (fun m ps k r h => ?_) m
  have h0 := h
  unfold E105_2 at h
  split at h
  · exact ⟨S105_2 _ _ _ _ _ _, by kernel_rfl, (ev105_2 m k _ _ _ _ _ _).trans h0⟩
  · cases h
noncomputable def L105 : LEnv Int := (loopCons 2 (enter Try.prog (0, 0) H105_2 (E105_2 fu)) loopNil)
theorem lq105 : loopsOf c105 = [c105_2] := by kernel_rfl
theorem fr105_2 : firstReg c105_2 = some 2 := by kernel_rfl
theorem le105_2 : L105 2 = enter Try.prog (0, 0) H105_2 (E105_2 fu) := by kernel_rfl
theorem lm105 : ∀ x ∈ [c105_2], ∀ id, firstReg x = some id → LoopOk Try.prog (0, 0) x (L105 id) := (loops_cons fr105_2 le105_2 (ok105_2 fu) loops_nil)
theorem lp105 : ∀ x ∈ loopsOf c105, ∀ id, firstReg x = some id → LoopOk Try.prog (0, 0) x (L105 id) := loops_eq lq105 lm105
noncomputable def R105 (x : Int) : Res := ⟨[.one (ai x)], [], []⟩
noncomputable def K105 (r : Res) : Option Int :=
  match r with
  | ⟨[.one (.val (.int .i64 v1))], [], []⟩ => some (v1)
  | _ => none
noncomputable def E105 : Fun2 := fun args bs rs =>
  match args, bs, rs with
  | [.s1 (.agg [.val (.int .i64 a1), .sl 0]), .s1 (.one (.val (.int .i64 a2))), .s1 (.one (.val (.int .i64 a3))), .s1 (.one (.val (.bool a4)))], [], [⟨117, (.int .u64), a5, .ro⟩] => some ⟨Int, S.l01Bound a1 a2 a3 a4 a5, R105⟩
  | _, _, _ => none
theorem ev105 (a1 a2 a3 : Int) (a4 : Bool) (a5 : List Int) : evF Try.prog G105 L105 (0, 0) Try.f105 c105 [.s1 (.agg [ai a1, .sl 0]), vi a2, vi a3, vb a4] [] [⟨117, (.int .u64), a5, .ro⟩] K105 = S.l01Bound a1 a2 a3 a4 a5 := by kernel_rfl
theorem good105 : Vm.Good Try.prog 105 E105 := by
  refine evF_good (G := G105) (c := c105) (envCons_good good183 envNil_good) Try.func105 (by kernel_rfl) (by kernel_rfl) (0, 0) (fun args bs rs out t h h2 => ?_)
  unfold E105 at h
  split at h
  · injection h with h
    subst h
    exact ⟨rfl, L105, K105, lp105, (fun r t h => by unfold K105 at h; split at h; (injection h with h; subst h; rfl); cases h), (ev105 _ _ _ _ _).trans h2⟩
  · cases h
/-! ### S.LatOk -/
noncomputable def G103 : Env := (envCons 181 [] E181 (envCons 182 [] E182 (envCons 105 [] E105 envNil)))
noncomputable def c103 : Code := bodyOf Try.f103
noncomputable def c103_4 : Code := (loopsOf c103).getD 0 .skip
noncomputable def c103_9 : Code := (loopsOf c103_4).getD 0 .skip
noncomputable def c103_14 : Code := (loopsOf c103_9).getD 0 .skip
noncomputable def c103_19 : Code := (loopsOf c103).getD 1 .skip
noncomputable def c103_22 : Code := (loopsOf c103_19).getD 0 .skip
noncomputable def S.LatOk_l2 : Nat → (Bool → Int → Int → Int → List Int → Option Bool) → (Int → Int → Int → List Int → Option Bool) → Int → Int → Int → Int → List Int → Option Bool
  | 0, _, _, _, _, _, _, _ => none
  | m + 1, e14_0, e14_1, a20, a21, a22, a23, a24 =>
    (bif (decide (a22 < a23)) then
    (bif decide ((0 : Int) ≤ a20 ∧ a20 < (a24.length : Int)) then
    (Option.bind (S.l01Bit (nthI a24 a20 (0 : Int)) a21) fun r26 =>
    (bif r26 then
    (bif decide ((0 : Int) ≤ a21 ∧ a21 < (a24.length : Int)) then
    (Option.bind (S.l01Bit (nthI a24 a21 (0 : Int)) a22) fun r27 =>
    (bif r27 then
    (bif decide ((0 : Int) ≤ a20 ∧ a20 < (a24.length : Int)) then
    (Option.bind (S.l01Bit (nthI a24 a20 (0 : Int)) a22) fun r28 =>
    (bif (!r28) then
    (e14_0 false a20 a21 a23 a24)
    else
    (S.LatOk_l2 m e14_0 e14_1 a20 a21 (IntKind.wrap .i64 (a22 + 1)) a23 a24)))
    else
    none)
    else
    (S.LatOk_l2 m e14_0 e14_1 a20 a21 (IntKind.wrap .i64 (a22 + 1)) a23 a24)))
    else
    none)
    else
    (S.LatOk_l2 m e14_0 e14_1 a20 a21 (IntKind.wrap .i64 (a22 + 1)) a23 a24)))
    else
    none)
    else
    (e14_1 a20 a21 a23 a24))
noncomputable def S.LatOk_l1 : Nat → (Bool → Int → Int → List Int → Option Bool) → (Int → Int → List Int → Option Bool) → Int → Int → Int → List Int → Option Bool
  | 0, _, _, _, _, _, _ => none
  | m + 1, e9_0, e9_1, a13, a14, a15, a16 =>
    (bif (decide (a14 < a15)) then
    (bif (a13 != a14) then
    (bif decide ((0 : Int) ≤ a13 ∧ a13 < (a16.length : Int)) then
    (Option.bind (S.l01Bit (nthI a16 a13 (0 : Int)) a14) fun r18 =>
    (bif r18 then
    (bif decide ((0 : Int) ≤ a14 ∧ a14 < (a16.length : Int)) then
    (Option.bind (S.l01Bit (nthI a16 a14 (0 : Int)) a13) fun r19 =>
    (bif r19 then
    (e9_0 false a13 a15 a16)
    else
    (S.LatOk_l2 fu (fun y32 y33 y34 y35 y36 =>
    (e9_0 y32 y33 y35 y36)) (fun y37 y38 y39 y40 =>
    (S.LatOk_l1 m e9_0 e9_1 y37 (IntKind.wrap .i64 (y38 + 1)) y39 y40)) a13 a14 0 a15 a16)))
    else
    none)
    else
    (S.LatOk_l2 fu (fun y42 y43 y44 y45 y46 =>
    (e9_0 y42 y43 y45 y46)) (fun y47 y48 y49 y50 =>
    (S.LatOk_l1 m e9_0 e9_1 y47 (IntKind.wrap .i64 (y48 + 1)) y49 y50)) a13 a14 0 a15 a16)))
    else
    none)
    else
    (S.LatOk_l2 fu (fun y52 y53 y54 y55 y56 =>
    (e9_0 y52 y53 y55 y56)) (fun y57 y58 y59 y60 =>
    (S.LatOk_l1 m e9_0 e9_1 y57 (IntKind.wrap .i64 (y58 + 1)) y59 y60)) a13 a14 0 a15 a16))
    else
    (e9_1 a13 a15 a16))
noncomputable def S.LatOk_l0 : Nat → (Bool → Int → List Int → Option Bool) → (Int → List Int → Option Bool) → Int → Int → List Int → Option Bool
  | 0, _, _, _, _, _ => none
  | m + 1, e4_0, e4_1, a6, a7, a8 =>
    (bif (decide (a6 < a7)) then
    (bif decide ((0 : Int) ≤ a6 ∧ a6 < (a8.length : Int)) then
    (Option.bind (S.l01Bit (nthI a8 a6 (0 : Int)) a6) fun r10 =>
    (bif (!r10) then
    (e4_0 false a7 a8)
    else
    (bif decide ((0 : Int) ≤ a6 ∧ a6 < (a8.length : Int)) then
    (Option.bind (S.l01Power a7) fun r11 =>
    (bif (decide (r11 ≤ (nthI a8 a6 (0 : Int)))) then
    (e4_0 false a7 a8)
    else
    (S.LatOk_l1 fu (fun y62 y63 y64 y65 =>
    (e4_0 y62 y64 y65)) (fun y66 y67 y68 =>
    (S.LatOk_l0 m e4_0 e4_1 (IntKind.wrap .i64 (y66 + 1)) y67 y68)) a6 0 a7 a8)))
    else
    none)))
    else
    none)
    else
    (e4_1 a7 a8))
noncomputable def S.LatOk_l4 : Nat → (Bool → Int → Int → List Int → Option Bool) → (Int → Int → List Int → Option Bool) → Int → Int → Int → List Int → Option Bool
  | 0, _, _, _, _, _, _ => none
  | m + 1, e22_0, e22_1, a79, a80, a81, a82 =>
    (bif (decide (a80 < a79)) then
    (Option.bind (S.l01Bound a81 a79 a80 true a82) fun r84 =>
    (bif (decide (r84 < 0)) then
    (e22_0 false a79 a81 a82)
    else
    (Option.bind (S.l01Bound a81 a79 a80 false a82) fun r86 =>
    (bif (decide (r86 < 0)) then
    (e22_0 false a79 a81 a82)
    else
    (S.LatOk_l4 m e22_0 e22_1 a79 (IntKind.wrap .i64 (a80 + 1)) a81 a82)))))
    else
    (e22_1 a79 a81 a82))
noncomputable def S.LatOk_l3 : Nat → (Bool → Option Bool) → (Option Bool) → Int → Int → List Int → Option Bool
  | 0, _, _, _, _, _ => none
  | m + 1, e19_0, e19_1, a75, a76, a77 =>
    (bif (decide (a75 < a76)) then
    (S.LatOk_l4 fu (fun y89 y90 y91 y92 =>
    (e19_0 y89)) (fun y93 y94 y95 =>
    (S.LatOk_l3 m e19_0 e19_1 (IntKind.wrap .i64 (y93 + 1)) y94 y95)) a75 0 a76 a77)
    else
    e19_1)
noncomputable def S.LatOk (a1 : Int) (a2 : List Int) : Option Bool :=
(bif (decide (a1 < 1)) then
(some false)
else
(bif (decide (16 < a1)) then
(some false)
else
(bif ((a2.length : Int) != a1) then
(some false)
else
(S.LatOk_l0 fu (fun y70 y71 y72 =>
(some y70)) (fun y73 y74 =>
(S.LatOk_l3 fu (fun y97 =>
(some y97)) (some true) 0 y73 y74)) 0 a1 a2))))
noncomputable def H103_14 : LoopH := ⟨⟨((.one (.unk)) :: (.one (.ptr 0 0)) :: (.one (.unk)) :: hh :: hh :: hh :: (hu 125 [])), [(51, [.hole, .sl 0])], [(117, (.int .u64), .ro)]⟩, [0, 2, 6, 7, 8, 9, 10, 11, 12, 13, 14, 15, 16, 17, 18, 19, 20, 21, 22, 23, 24, 25, 26, 27, 28, 29, 30, 31, 32, 33, 34, 35, 36, 37, 38, 39, 40, 41, 42, 43, 44, 45, 46, 47, 48, 49, 50, 51, 52, 53, 54, 55, 56, 57, 58, 59, 60, 61, 62, 63, 64, 65, 66, 67, 68, 69, 70, 71, 72, 73, 74, 75, 76, 77, 78, 79, 80, 81, 82, 83, 84, 85, 86, 87, 88, 89, 90, 91, 92, 93, 94, 95, 96, 97, 98, 99, 100, 101, 102, 103, 104, 105, 106, 107, 108, 109, 110, 111, 112, 113, 114, 115, 116, 117, 118, 119, 120, 121, 122, 123, 124, 125, 126, 127, 128, 129, 130], [], [0, 5, 6, 7, 8, 9, 10, 11, 12, 13, 14, 15, 16, 17, 18, 19, 20, 21, 22, 23, 24, 25, 26, 27, 28, 29, 30, 31, 32, 33, 34, 35, 36, 37, 38, 39, 40, 41, 42, 43, 44, 45, 46, 47, 48, 49, 50, 51, 52, 53, 54, 55, 56, 57, 58, 59, 60, 61, 62, 63, 64, 65, 66, 67, 68, 69, 70, 71, 72, 73, 74, 75, 76, 77, 78, 79, 80, 81, 82, 83, 84, 85, 86, 87, 88, 89, 90, 91, 92, 93, 94, 95, 96, 97, 98, 99, 100, 101, 102, 103, 104, 105, 106, 107, 108, 109, 110, 111, 112, 113, 114, 115, 116, 117, 118, 119, 120, 121, 122, 123, 124, 125, 126, 127, 128, 129, 130]⟩
noncomputable def E103_14 (m : Nat) (ps : List Prm) (k : Kont Bool) : Option Bool :=
  match ps with
  | [.v (.int .i64 a20), .v (.int .i64 a21), .v (.int .i64 a22), .v (.int .i64 a23), .row (.int .u64) a24] => S.LatOk_l2 m (fun z127 z128 z129 z130 z131 => k .ret (⟨((.s1 (.one (.unk))) :: (vp 0 0) :: (vb z127) :: (vi z128) :: (vi z129) :: (vu 126 [])), [(51, [ai z130, .sl 0])], [⟨117, (.int .u64), z131, .ro⟩]⟩ : St)) (fun z132 z133 z134 z135 => k (.exit 4) (⟨((.s1 (.one (.unk))) :: (vp 0 0) :: (.s1 (.one (.unk))) :: (vi z132) :: (vi z133) :: (vu 126 [])), [(51, [ai z134, .sl 0])], [⟨117, (.int .u64), z135, .ro⟩]⟩ : St)) a20 a21 a22 a23 a24
  | _ => none
noncomputable def S103_14 (a20 a21 a22 a23 : Int) (a24 : List Int) : St := (⟨((.s1 (.one (.unk))) :: (vp 0 0) :: (.s1 (.one (.unk))) :: (vi a20) :: (vi a21) :: (vi a22) :: (vu 125 [])), [(51, [ai a23, .sl 0])], [⟨117, (.int .u64), a24, .ro⟩]⟩ : St)
theorem ev103_14 (m : Nat) (k : Kont Bool) (a20 a21 a22 a23 : Int) (a24 : List Int) : evC Try.prog G103 loopNil c103_14 (S103_14 a20 a21 a22 a23 a24) (turn Try.prog (0, 0) H103_14 (E103_14 m) k) = E103_14 (m + 1) [.v (.int .i64 a20), .v (.int .i64 a21), .v (.int .i64 a22), .v (.int .i64 a23), .row (.int .u64) a24] k := by kernel_rfl
theorem ok103_14 (m : Nat) : LoopOk Try.prog (0, 0) c103_14 (enter Try.prog (0, 0) H103_14 (E103_14 m)) := by
  refine loop_ok (G := G103) (L := loopNil) (envCons_good good181 (envCons_good good182 (envCons_good good105 envNil_good))) (by intro x hx; simp [show loopsOf c103_14 = [] from by kernel_rfl] at hx) (fun ps k => by unfold E103_14; split <;> rfl) (fun m ps k r h => ?_) m
  have h0 := h
  unfold E103_14 at h
  split at h
  · exact ⟨S103_14 _ _ _ _ _, by kernel_rfl, (ev103_14 m k _ _ _ _ _).trans h0⟩
  · cases h
noncomputable def L103_9 : LEnv Bool := (loopCons 14 (enter Try.prog (0, 0) H103_14 (E103_14 fu)) loopNil)
theorem lq103_9 : loopsOf c103_9 = [c103_14] := by kernel_rfl
theorem fr103_14 : firstReg c103_14 = some 14 := by kernel_rfl
theorem le103_14 : L103_9 14 = enter Try.prog (0, 0) H103_14 (E103_14 fu) := by kernel_rfl
theorem lm103_9 : ∀ x ∈ [c103_14], ∀ id, firstReg x = some id → LoopOk Try.prog (0, 0) x (L103_9 id) := (loops_cons fr103_14 le103_14 (ok103_14 fu) loops_nil)
theorem lp103_9 : ∀ x ∈ loopsOf c103_9, ∀ id, firstReg x = some id → LoopOk Try.prog (0, 0) x (L103_9 id) := loops_eq lq103_9 lm103_9
noncomputable def H103_9 : LoopH := ⟨⟨((.one (.unk)) :: (.one (.ptr 0 0)) :: (.one (.unk)) :: hh :: hh :: (hu 126 [])), [(51, [.hole, .sl 0])], [(117, (.int .u64), .ro)]⟩, [0, 2, 5, 6, 7, 8, 9, 10, 11, 12, 13, 14, 15, 16, 17, 18, 19, 20, 21, 22, 23, 24, 25, 26, 27, 28, 29, 30, 31, 32, 33, 34, 35, 36, 37, 38, 39, 40, 41, 42, 43, 44, 45, 46, 47, 48, 49, 50, 51, 52, 53, 54, 55, 56, 57, 58, 59, 60, 61, 62, 63, 64, 65, 66, 67, 68, 69, 70, 71, 72, 73, 74, 75, 76, 77, 78, 79, 80, 81, 82, 83, 84, 85, 86, 87, 88, 89, 90, 91, 92, 93, 94, 95, 96, 97, 98, 99, 100, 101, 102, 103, 104, 105, 106, 107, 108, 109, 110, 111, 112, 113, 114, 115, 116, 117, 118, 119, 120, 121, 122, 123, 124, 125, 126, 127, 128, 129, 130], [], [0, 4, 5, 6, 7, 8, 9, 10, 11, 12, 13, 14, 15, 16, 17, 18, 19, 20, 21, 22, 23, 24, 25, 26, 27, 28, 29, 30, 31, 32, 33, 34, 35, 36, 37, 38, 39, 40, 41, 42, 43, 44, 45, 46, 47, 48, 49, 50, 51, 52, 53, 54, 55, 56, 57, 58, 59, 60, 61, 62, 63, 64, 65, 66, 67, 68, 69, 70, 71, 72, 73, 74, 75, 76, 77, 78, 79, 80, 81, 82, 83, 84, 85, 86, 87, 88, 89, 90, 91, 92, 93, 94, 95, 96, 97, 98, 99, 100, 101, 102, 103, 104, 105, 106, 107, 108, 109, 110, 111, 112, 113, 114, 115, 116, 117, 118, 119, 120, 121, 122, 123, 124, 125, 126, 127, 128, 129, 130]⟩
noncomputable def E103_9 (m : Nat) (ps : List Prm) (k : Kont Bool) : Option Bool :=
  match ps with
  | [.v (.int .i64 a13), .v (.int .i64 a14), .v (.int .i64 a15), .row (.int .u64) a16] => S.LatOk_l1 m (fun z136 z137 z138 z139 => k .ret (⟨((.s1 (.one (.unk))) :: (vp 0 0) :: (vb z136) :: (vi z137) :: (vu 127 [])), [(51, [ai z138, .sl 0])], [⟨117, (.int .u64), z139, .ro⟩]⟩ : St)) (fun z140 z141 z142 => k (.exit 2) (⟨((.s1 (.one (.unk))) :: (vp 0 0) :: (.s1 (.one (.unk))) :: (vi z140) :: (vu 127 [])), [(51, [ai z141, .sl 0])], [⟨117, (.int .u64), z142, .ro⟩]⟩ : St)) a13 a14 a15 a16
  | _ => none
noncomputable def S103_9 (a13 a14 a15 : Int) (a16 : List Int) : St := (⟨((.s1 (.one (.unk))) :: (vp 0 0) :: (.s1 (.one (.unk))) :: (vi a13) :: (vi a14) :: (vu 126 [])), [(51, [ai a15, .sl 0])], [⟨117, (.int .u64), a16, .ro⟩]⟩ : St)
theorem ev103_9 (m : Nat) (k : Kont Bool) (a13 a14 a15 : Int) (a16 : List Int) : evC Try.prog G103 L103_9 c103_9 (S103_9 a13 a14 a15 a16) (turn Try.prog (0, 0) H103_9 (E103_9 m) k) = E103_9 (m + 1) [.v (.int .i64 a13), .v (.int .i64 a14), .v (.int .i64 a15), .row (.int .u64) a16] k := by kernel_rfl
theorem ok103_9 (m : Nat) : LoopOk Try.prog (0, 0) c103_9 (enter Try.prog (0, 0) H103_9 (E103_9 m)) := by
  refine loop_ok (G := G103) (L := L103_9) (envCons_good good181 (envCons_good good182 (envCons_good good105 envNil_good))) lp103_9 (fun ps k => by unfold E103_9; split <;> rfl) (fun m ps k r h => ?_) m
  have h0 := h
  unfold E103_9 at h
  split at h
  · exact ⟨S103_9 _ _ _ _, by kernel_rfl, (ev103_9 m k _ _ _ _).trans h0⟩
  · cases h
noncomputable def L103_4 : LEnv Bool := (loopCons 9 (enter Try.prog (0, 0) H103_9 (E103_9 fu)) loopNil)
theorem lq103_4 : loopsOf c103_4 = [c103_9] := by kernel_rfl
theorem fr103_9 : firstReg c103_9 = some 9 := by kernel_rfl
theorem le103_9 : L103_4 9 = enter Try.prog (0, 0) H103_9 (E103_9 fu) := by kernel_rfl
theorem lm103_4 : ∀ x ∈ [c103_9], ∀ id, firstReg x = some id → LoopOk Try.prog (0, 0) x (L103_4 id) := (loops_cons fr103_9 le103_9 (ok103_9 fu) loops_nil)
theorem lp103_4 : ∀ x ∈ loopsOf c103_4, ∀ id, firstReg x = some id → LoopOk Try.prog (0, 0) x (L103_4 id) := loops_eq lq103_4 lm103_4
noncomputable def H103_4 : LoopH := ⟨⟨((.one (.unk)) :: (.one (.ptr 0 0)) :: (.one (.unk)) :: hh :: (hu 127 [])), [(51, [.hole, .sl 0])], [(117, (.int .u64), .ro)]⟩, [0, 2, 4, 5, 6, 7, 8, 9, 10, 11, 12, 13, 14, 15, 16, 17, 18, 19, 20, 21, 22, 23, 24, 25, 26, 27, 28, 29, 30, 31, 32, 33, 34, 35, 36, 37, 38, 39, 40, 41, 42, 43, 44, 45, 46, 47, 48, 49, 50, 51, 52, 53, 54, 55, 56, 57, 58, 59, 60, 61, 62, 63, 64, 65, 66, 67, 68, 69, 70, 71, 72, 73, 74, 75, 76, 77, 78, 79, 80, 81, 82, 83, 84, 85, 86, 87, 88, 89, 90, 91, 92, 93, 94, 95, 96, 97, 98, 99, 100, 101, 102, 103, 104, 105, 106, 107, 108, 109, 110, 111, 112, 113, 114, 115, 116, 117, 118, 119, 120, 121, 122, 123, 124, 125, 126, 127, 128, 129, 130], [], [0, 3, 4, 5, 6, 7, 8, 9, 10, 11, 12, 13, 14, 15, 16, 17, 18, 19, 20, 21, 22, 23, 24, 25, 26, 27, 28, 29, 30, 31, 32, 33, 34, 35, 36, 37, 38, 39, 40, 41, 42, 43, 44, 45, 46, 47, 48, 49, 50, 51, 52, 53, 54, 55, 56, 57, 58, 59, 60, 61, 62, 63, 64, 65, 66, 67, 68, 69, 70, 71, 72, 73, 74, 75, 76, 77, 78, 79, 80, 81, 82, 83, 84, 85, 86, 87, 88, 89, 90, 91, 92, 93, 94, 95, 96, 97, 98, 99, 100, 101, 102, 103, 104, 105, 106, 107, 108, 109, 110, 111, 112, 113, 114, 115, 116, 117, 118, 119, 120, 121, 122, 123, 124, 125, 126, 127, 128, 129, 130]⟩
noncomputable def E103_4 (m : Nat) (ps : List Prm) (k : Kont Bool) : Option Bool :=
  match ps with
  | [.v (.int .i64 a6), .v (.int .i64 a7), .row (.int .u64) a8] => S.LatOk_l0 m (fun z143 z144 z145 => k .ret (⟨((.s1 (.one (.unk))) :: (vp 0 0) :: (vb z143) :: (vu 128 [])), [(51, [ai z144, .sl 0])], [⟨117, (.int .u64), z145, .ro⟩]⟩ : St)) (fun z146 z147 => k (.exit 0) (⟨((.s1 (.one (.unk))) :: (vp 0 0) :: (vu 129 [])), [(51, [ai z146, .sl 0])], [⟨117, (.int .u64), z147, .ro⟩]⟩ : St)) a6 a7 a8
  | _ => none
noncomputable def S103_4 (a6 a7 : Int) (a8 : List Int) : St := (⟨((.s1 (.one (.unk))) :: (vp 0 0) :: (.s1 (.one (.unk))) :: (vi a6) :: (vu 127 [])), [(51, [ai a7, .sl 0])], [⟨117, (.int .u64), a8, .ro⟩]⟩ : St)
theorem ev103_4 (m : Nat) (k : Kont Bool) (a6 a7 : Int) (a8 : List Int) : evC Try.prog G103 L103_4 c103_4 (S103_4 a6 a7 a8) (turn Try.prog (0, 0) H103_4 (E103_4 m) k) = E103_4 (m + 1) [.v (.int .i64 a6), .v (.int .i64 a7), .row (.int .u64) a8] k := by kernel_rfl
theorem ok103_4 (m : Nat) : LoopOk Try.prog (0, 0) c103_4 (enter Try.prog (0, 0) H103_4 (E103_4 m)) := by
  refine loop_ok (G := G103) (L := L103_4) (envCons_good good181 (envCons_good good182 (envCons_good good105 envNil_good))) lp103_4 (fun ps k => by unfold E103_4; split <;> rfl) (fun m ps k r h => ?_) m
  have h0 := h
  unfold E103_4 at h
  split at h
  · exact ⟨S103_4 _ _ _, by kernel_rfl, (ev103_4 m k _ _ _).trans h0⟩
  · cases h
noncomputable def H103_22 : LoopH := ⟨⟨((.one (.unk)) :: (.one (.ptr 0 0)) :: (hu 4 (hh :: hh :: (hu 123 [])))), [(51, [.hole, .sl 0])], [(117, (.int .u64), .ro)]⟩, [0, 2, 3, 4, 5, 8, 9, 10, 11, 12, 13, 14, 15, 16, 17, 18, 19, 20, 21, 22, 23, 24, 25, 26, 27, 28, 29, 30, 31, 32, 33, 34, 35, 36, 37, 38, 39, 40, 41, 42, 43, 44, 45, 46, 47, 48, 49, 50, 51, 52, 53, 54, 55, 56, 57, 58, 59, 60, 61, 62, 63, 64, 65, 66, 67, 68, 69, 70, 71, 72, 73, 74, 75, 76, 77, 78, 79, 80, 81, 82, 83, 84, 85, 86, 87, 88, 89, 90, 91, 92, 93, 94, 95, 96, 97, 98, 99, 100, 101, 102, 103, 104, 105, 106, 107, 108, 109, 110, 111, 112, 113, 114, 115, 116, 117, 118, 119, 120, 121, 122, 123, 124, 125, 126, 127, 128, 129, 130], [], [0, 3, 4, 5, 7, 8, 9, 10, 11, 12, 13, 14, 15, 16, 17, 18, 19, 20, 21, 22, 23, 24, 25, 26, 27, 28, 29, 30, 31, 32, 33, 34, 35, 36, 37, 38, 39, 40, 41, 42, 43, 44, 45, 46, 47, 48, 49, 50, 51, 52, 53, 54, 55, 56, 57, 58, 59, 60, 61, 62, 63, 64, 65, 66, 67, 68, 69, 70, 71, 72, 73, 74, 75, 76, 77, 78, 79, 80, 81, 82, 83, 84, 85, 86, 87, 88, 89, 90, 91, 92, 93, 94, 95, 96, 97, 98, 99, 100, 101, 102, 103, 104, 105, 106, 107, 108, 109, 110, 111, 112, 113, 114, 115, 116, 117, 118, 119, 120, 121, 122, 123, 124, 125, 126, 127, 128, 129, 130]⟩
noncomputable def E103_22 (m : Nat) (ps : List Prm) (k : Kont Bool) : Option Bool :=
  match ps with
  | [.v (.int .i64 a79), .v (.int .i64 a80), .v (.int .i64 a81), .row (.int .u64) a82] => S.LatOk_l4 m (fun z148 z149 z150 z151 => k .ret (⟨((.s1 (.one (.unk))) :: (vp 0 0) :: (vb z148) :: (vu 3 ((vi z149) :: (vu 124 [])))), [(51, [ai z150, .sl 0])], [⟨117, (.int .u64), z151, .ro⟩]⟩ : St)) (fun z152 z153 z154 => k (.exit 8) (⟨((.s1 (.one (.unk))) :: (vp 0 0) :: (vu 4 ((vi z152) :: (vu 124 [])))), [(51, [ai z153, .sl 0])], [⟨117, (.int .u64), z154, .ro⟩]⟩ : St)) a79 a80 a81 a82
  | _ => none
noncomputable def S103_22 (a79 a80 a81 : Int) (a82 : List Int) : St := (⟨((.s1 (.one (.unk))) :: (vp 0 0) :: (vu 4 ((vi a79) :: (vi a80) :: (vu 123 [])))), [(51, [ai a81, .sl 0])], [⟨117, (.int .u64), a82, .ro⟩]⟩ : St)
theorem ev103_22 (m : Nat) (k : Kont Bool) (a79 a80 a81 : Int) (a82 : List Int) : evC Try.prog G103 loopNil c103_22 (S103_22 a79 a80 a81 a82) (turn Try.prog (0, 0) H103_22 (E103_22 m) k) = E103_22 (m + 1) [.v (.int .i64 a79), .v (.int .i64 a80), .v (.int .i64 a81), .row (.int .u64) a82] k := by kernel_rfl
theorem ok103_22 (m : Nat) : LoopOk Try.prog (0, 0) c103_22 (enter Try.prog (0, 0) H103_22 (E103_22 m)) := by
  refine loop_ok (G := G103) (L := loopNil) (envCons_good good181 (envCons_good good182 (envCons_good good105 envNil_good))) (by intro x hx; simp [show loopsOf c103_22 = [] from by kernel_rfl] at hx) (fun ps k => by unfold E103_22; split <;> rfl) (fun m ps k r h => ?_) m
  have h0 := h
  unfold E103_22 at h
  split at h
  · exact ⟨S103_22 _ _ _ _, by kernel_rfl, (ev103_22 m k _ _ _ _).trans h0⟩
  · cases h
noncomputable def L103_19 : LEnv Bool := (loopCons 22 (enter Try.prog (0, 0) H103_22 (E103_22 fu)) loopNil)
theorem lq103_19 : loopsOf c103_19 = [c103_22] := by kernel_rfl
theorem fr103_22 : firstReg c103_22 = some 22 := by kernel_rfl
theorem le103_22 : L103_19 22 = enter Try.prog (0, 0) H103_22 (E103_22 fu) := by kernel_rfl
theorem lm103_19 : ∀ x ∈ [c103_22], ∀ id, firstReg x = some id → LoopOk Try.prog (0, 0) x (L103_19 id) := (loops_cons fr103_22 le103_22 (ok103_22 fu) loops_nil)
theorem lp103_19 : ∀ x ∈ loopsOf c103_19, ∀ id, firstReg x = some id → LoopOk Try.prog (0, 0) x (L103_19 id) := loops_eq lq103_19 lm103_19
noncomputable def H103_19 : LoopH := ⟨⟨((.one (.unk)) :: (.one (.ptr 0 0)) :: (hu 4 (hh :: (hu 124 [])))), [(51, [.hole, .sl 0])], [(117, (.int .u64), .ro)]⟩, [0, 2, 3, 4, 5, 7, 8, 9, 10, 11, 12, 13, 14, 15, 16, 17, 18, 19, 20, 21, 22, 23, 24, 25, 26, 27, 28, 29, 30, 31, 32, 33, 34, 35, 36, 37, 38, 39, 40, 41, 42, 43, 44, 45, 46, 47, 48, 49, 50, 51, 52, 53, 54, 55, 56, 57, 58, 59, 60, 61, 62, 63, 64, 65, 66, 67, 68, 69, 70, 71, 72, 73, 74, 75, 76, 77, 78, 79, 80, 81, 82, 83, 84, 85, 86, 87, 88, 89, 90, 91, 92, 93, 94, 95, 96, 97, 98, 99, 100, 101, 102, 103, 104, 105, 106, 107, 108, 109, 110, 111, 112, 113, 114, 115, 116, 117, 118, 119, 120, 121, 122, 123, 124, 125, 126, 127, 128, 129, 130], [], [0, 1, 3, 4, 5, 6, 7, 8, 9, 10, 11, 12, 13, 14, 15, 16, 17, 18, 19, 20, 21, 22, 23, 24, 25, 26, 27, 28, 29, 30, 31, 32, 33, 34, 35, 36, 37, 38, 39, 40, 41, 42, 43, 44, 45, 46, 47, 48, 49, 50, 51, 52, 53, 54, 55, 56, 57, 58, 59, 60, 61, 62, 63, 64, 65, 66, 67, 68, 69, 70, 71, 72, 73, 74, 75, 76, 77, 78, 79, 80, 81, 82, 83, 84, 85, 86, 87, 88, 89, 90, 91, 92, 93, 94, 95, 96, 97, 98, 99, 100, 101, 102, 103, 104, 105, 106, 107, 108, 109, 110, 111, 112, 113, 114, 115, 116, 117, 118, 119, 120, 121, 122, 123, 124, 125, 126, 127, 128, 129, 130]⟩
noncomputable def E103_19 (m : Nat) (ps : List Prm) (k : Kont Bool) : Option Bool :=
  match ps with
  | [.v (.int .i64 a75), .v (.int .i64 a76), .row (.int .u64) a77] => S.LatOk_l3 m (fun z155 => k .ret (⟨(vu 2 ((vb z155) :: (vu 128 []))), [], []⟩ : St)) (k (.exit 6) (⟨(vu 131 []), [], []⟩ : St)) a75 a76 a77
  | _ => none
noncomputable def S103_19 (a75 a76 : Int) (a77 : List Int) : St := (⟨((.s1 (.one (.unk))) :: (vp 0 0) :: (vu 4 ((vi a75) :: (vu 124 [])))), [(51, [ai a76, .sl 0])], [⟨117, (.int .u64), a77, .ro⟩]⟩ : St)
theorem ev103_19 (m : Nat) (k : Kont Bool) (a75 a76 : Int) (a77 : List Int) : evC Try.prog G103 L103_19 c103_19 (S103_19 a75 a76 a77) (turn Try.prog (0, 0) H103_19 (E103_19 m) k) = E103_19 (m + 1) [.v (.int .i64 a75), .v (.int .i64 a76), .row (.int .u64) a77] k := by kernel_rfl
theorem ok103_19 (m : Nat) : LoopOk Try.prog (0, 0) c103_19 (enter Try.prog (0, 0) H103_19 (E103_19 m)) := by
  refine loop_ok (G := G103) (L := L103_19) (envCons_good good181 (envCons_good good182 (envCons_good good105 envNil_good))) lp103_19 (fun ps k => by unfold E103_19; split <;> rfl) (fun m ps k r h => ?_) m
  have h0 := h
  unfold E103_19 at h
  split at h
  · exact ⟨S103_19 _ _ _, by kernel_rfl, (ev103_19 m k _ _ _).trans h0⟩
  · cases h
noncomputable def L103 : LEnv Bool := (loopCons 4 (enter Try.prog (0, 0) H103_4 (E103_4 fu)) (loopCons 19 (enter Try.prog (0, 0) H103_19 (E103_19 fu)) loopNil))
theorem lq103 : loopsOf c103 = [c103_4, c103_19] := by kernel_rfl
theorem fr103_4 : firstReg c103_4 = some 4 := by kernel_rfl
theorem le103_4 : L103 4 = enter Try.prog (0, 0) H103_4 (E103_4 fu) := by kernel_rfl
theorem fr103_19 : firstReg c103_19 = some 19 := by kernel_rfl
theorem le103_19 : L103 19 = enter Try.prog (0, 0) H103_19 (E103_19 fu) := by kernel_rfl
theorem lm103 : ∀ x ∈ [c103_4, c103_19], ∀ id, firstReg x = some id → LoopOk Try.prog (0, 0) x (L103 id) := (loops_cons fr103_4 le103_4 (ok103_4 fu) (loops_cons fr103_19 le103_19 (ok103_19 fu) loops_nil))
theorem lp103 : ∀ x ∈ loopsOf c103, ∀ id, firstReg x = some id → LoopOk Try.prog (0, 0) x (L103 id) := loops_eq lq103 lm103
noncomputable def R103 (x : Bool) : Res := ⟨[.one (ab x)], [], []⟩
noncomputable def K103 (r : Res) : Option Bool :=
  match r with
  | ⟨[.one (.val (.bool v1))], [], []⟩ => some (v1)
  | _ => none
noncomputable def E103 : Fun2 := fun args bs rs =>
  match args, bs, rs with
  | [.s1 (.agg [.val (.int .i64 a1), .sl 0])], [], [⟨117, (.int .u64), a2, .ro⟩] => some ⟨Bool, S.LatOk a1 a2, R103⟩
  | _, _, _ => none
theorem ev103 (a1 : Int) (a2 : List Int) : evF Try.prog G103 L103 (0, 0) Try.f103 c103 [.s1 (.agg [ai a1, .sl 0])] [] [⟨117, (.int .u64), a2, .ro⟩] K103 = S.LatOk a1 a2 := by kernel_rfl
theorem good103 : Vm.Good Try.prog 103 E103 := by
  refine evF_good (G := G103) (c := c103) (envCons_good good181 (envCons_good good182 (envCons_good good105 envNil_good))) Try.func103 (by kernel_rfl) (by kernel_rfl) (0, 0) (fun args bs rs out t h h2 => ?_)
  unfold E103 at h
  split at h
  · injection h with h
    subst h
    exact ⟨rfl, L103, K103, lp103, (fun r t h => by unfold K103 at h; split at h; (injection h with h; subst h; rfl); cases h), (ev103 _ _).trans h2⟩
  · cases h
/-! ### S.l03Takes -/
noncomputable def G255 : Env := envNil
noncomputable def c255 : Code := bodyOf Try.f255
noncomputable def S.l03Takes (a1 : Int) : Option Int :=
(bif (decide (a1 ≤ 3)) then
(some 0)
else
(bif (a1 == 11) then
(some 1)
else
(some 2)))
noncomputable def R255 (x : Int) : Res := ⟨[.one (ai x)], [], []⟩
noncomputable def K255 (r : Res) : Option Int :=
  match r with
  | ⟨[.one (.val (.int .i64 v1))], [], []⟩ => some (v1)
  | _ => none
noncomputable def E255 : Fun2 := fun args bs rs =>
  match args, bs, rs with
  | [.s1 (.one (.val (.int .i64 a1)))], [], [] => some ⟨Int, S.l03Takes a1, R255⟩
  | _, _, _ => none
theorem ev255 (a1 : Int) : evF Try.prog G255 loopNil (0, 0) Try.f255 c255 [vi a1] [] [] K255 = S.l03Takes a1 := by kernel_rfl
theorem good255 : Vm.Good Try.prog 255 E255 := by
  refine evF_good (G := G255) (c := c255) envNil_good Try.func255 (by kernel_rfl) (by kernel_rfl) (0, 0) (fun args bs rs out t h h2 => ?_)
  unfold E255 at h
  split at h
  · injection h with h
    subst h
    exact ⟨rfl, loopNil, K255, (by intro x hx; simp [show loopsOf c255 = [] from by kernel_rfl] at hx), (fun r t h => by unfold K255 at h; split at h; (injection h with h; subst h; rfl); cases h), (ev255 _).trans h2⟩
  · cases h
/-! ### S.l03Depth -/
noncomputable def G242 : Env := (envCons 255 [] E255 envNil)
noncomputable def c242 : Code := bodyOf Try.f242
noncomputable def c242_6 : Code := (loopsOf c242).getD 0 .skip
noncomputable def S.l03Depth_l0 : Nat → (Int → Int → Int → Option Int) → (Int → Int → Option Int) → Int → Int → Int → (List (Int × Int)) → Option Int
  | 0, _, _, _, _, _, _ => none
  | m + 1, e6_0, e6_1, a6, a7, a8, a9 =>
    (bif (decide (a8 < (a9.length : Int))) then
    (bif decide ((0 : Int) ≤ a8 ∧ a8 < (a9.length : Int)) then
    (bif (decide ((nthI a9 a8 ((0 : Int), (0 : Int))).1 < 0)) then
    (e6_0 (-1) a6 a7)
    else
    (bif decide ((0 : Int) ≤ a8 ∧ a8 < (a9.length : Int)) then
    (bif (decide (11 < (nthI a9 a8 ((0 : Int), (0 : Int))).1)) then
    (e6_0 (-1) a6 a7)
    else
    (bif decide ((0 : Int) ≤ a8 ∧ a8 < (a9.length : Int)) then
    (bif ((nthI a9 a8 ((0 : Int), (0 : Int))).1 != 0) then
    (bif decide ((0 : Int) ≤ a8 ∧ a8 < (a9.length : Int)) then
    (bif ((nthI a9 a8 ((0 : Int), (0 : Int))).2 != 0) then
    (e6_0 (-1) a6 a7)
    else
    (bif decide ((0 : Int) ≤ a8 ∧ a8 < (a9.length : Int)) then
    (Option.bind (S.l03Takes ((nthI a9 a8 ((0 : Int), (0 : Int))).1)) fun r16 =>
    (bif (decide (a6 < r16)) then
    (e6_0 (-1) a6 a7)
    else
    (bif decide ((0 : Int) ≤ a8 ∧ a8 < (a9.length : Int)) then
    (Option.bind (S.l03Takes ((nthI a9 a8 ((0 : Int), (0 : Int))).1)) fun r18 =>
    (let v20 : Int := (IntKind.wrap .i64 ((IntKind.wrap .i64 (a6 - r18)) + 1))
    (S.l03Depth_l0 m e6_0 e6_1 v20 (if v20 > a7 then v20 else a7) (IntKind.wrap .i64 (a8 + 1)) a9)))
    else
    none)))
    else
    none))
    else
    none)
    else
    (bif decide ((0 : Int) ≤ a8 ∧ a8 < (a9.length : Int)) then
    (Option.bind (S.l03Takes ((nthI a9 a8 ((0 : Int), (0 : Int))).1)) fun r23 =>
    (bif (decide (a6 < r23)) then
    (e6_0 (-1) a6 a7)
    else
    (bif decide ((0 : Int) ≤ a8 ∧ a8 < (a9.length : Int)) then
    (Option.bind (S.l03Takes ((nthI a9 a8 ((0 : Int), (0 : Int))).1)) fun r25 =>
    (let v27 : Int := (IntKind.wrap .i64 ((IntKind.wrap .i64 (a6 - r25)) + 1))
    (S.l03Depth_l0 m e6_0 e6_1 v27 (if v27 > a7 then v27 else a7) (IntKind.wrap .i64 (a8 + 1)) a9)))
    else
    none)))
    else
    none))
    else
    none))
    else
    none))
    else
    none)
    else
    (e6_1 a6 a7))
noncomputable def S.l03Depth (a1 : List (Int × Int)) : Option Int :=
(bif (decide ((a1.length : Int) < 1)) then
(some (-1))
else
(bif (decide (20 < (a1.length : Int))) then
(some (-1))
else
(S.l03Depth_l0 fu (fun y30 y31 y32 =>
(some y30)) (fun y33 y34 =>
(bif (y33 != 1) then
(some (-1))
else
(some y34))) 0 0 0 a1)))
noncomputable def H242_6 : LoopH := ⟨⟨((.one (.sl 0)) :: (hu 2 (hh :: hh :: hh :: (hu 69 [])))), [], [(275, (.pair (.int .i64) (.int .i64)), .ro)]⟩, [1, 2, 6, 7, 8, 9, 10, 11, 12, 13, 14, 15, 16, 17, 18, 19, 20, 21, 22, 23, 24, 25, 26, 27, 28, 29, 30, 31, 32, 33, 34, 35, 36, 37, 38, 39, 40, 41, 42, 43, 44, 45, 46, 47, 48, 49, 50, 51, 52, 53, 54, 55, 56, 57, 58, 59, 60, 61, 62, 63, 64, 65, 66, 67, 68, 69, 70, 71, 72, 73, 74], [], [0, 1, 5, 6, 7, 8, 9, 10, 11, 12, 13, 14, 15, 16, 17, 18, 19, 20, 21, 22, 23, 24, 25, 26, 27, 28, 29, 30, 31, 32, 33, 34, 35, 36, 37, 38, 39, 40, 41, 42, 43, 44, 45, 46, 47, 48, 49, 50, 51, 52, 53, 54, 55, 56, 57, 58, 59, 60, 61, 62, 63, 64, 65, 66, 67, 68, 69, 70, 71, 72, 73, 74]⟩
noncomputable def E242_6 (m : Nat) (ps : List Prm) (k : Kont Int) : Option Int :=
  match ps with
  | [.v (.int .i64 a6), .v (.int .i64 a7), .v (.int .i64 a8), .row (.pair (.int .i64) (.int .i64)) a9] => S.l03Depth_l0 m (fun z40 z41 z42 => k .ret (⟨(vu 2 ((vi z40) :: (vi z41) :: (vi z42) :: (vu 70 []))), [], []⟩ : St)) (fun z43 z44 => k (.exit 0) (⟨(vu 3 ((vi z43) :: (vi z44) :: (vu 70 []))), [], []⟩ : St)) a6 a7 a8 a9
  | _ => none
noncomputable def S242_6 (a6 a7 a8 : Int) (a9 : List (Int × Int)) : St := (⟨((vl 0) :: (vu 2 ((vi a6) :: (vi a7) :: (vi a8) :: (vu 69 [])))), [], [⟨275, (.pair (.int .i64) (.int .i64)), a9, .ro⟩]⟩ : St)
theorem ev242_6 (m : Nat) (k : Kont Int) (a6 a7 a8 : Int) (a9 : List (Int × Int)) : evC Try.prog G242 loopNil c242_6 (S242_6 a6 a7 a8 a9) (turn Try.prog (0, 0) H242_6 (E242_6 m) k) = E242_6 (m + 1) [.v (.int .i64 a6), .v (.int .i64 a7), .v (.int .i64 a8), .row (.pair (.int .i64) (.int .i64)) a9] k := by kernel_rfl
theorem ok242_6 (m : Nat) : LoopOk Try.prog (0, 0) c242_6 (enter Try.prog (0, 0) H242_6 (E242_6 m)) := by
  refine loop_ok (G := G242) (L := loopNil) (envCons_good good255 envNil_good) (by intro x hx; simp [show loopsOf c242_6 = [] from by kernel_rfl] at hx) (fun ps k => by unfold E242_6; split <;> rfl) (fun m ps k r h => ?_) m
  have h0 := h
  unfold E242_6 at h
  split at h
  · exact ⟨S242_6 _ _ _ _, by kernel_rfl, (ev242_6 m k _ _ _ _).trans h0⟩
  · cases h
noncomputable def L242 : LEnv Int := (loopCons 6 (enter Try.prog (0, 0) H242_6 (E242_6 fu)) loopNil)
theorem lq242 : loopsOf c242 = [c242_6] := by kernel_rfl
theorem fr242_6 : firstReg c242_6 = some 6 := by kernel_rfl
theorem le242_6 : L242 6 = enter Try.prog (0, 0) H242_6 (E242_6 fu) := by kernel_rfl
theorem lm242 : ∀ x ∈ [c242_6], ∀ id, firstReg x = some id → LoopOk Try.prog (0, 0) x (L242 id) := (loops_cons fr242_6 le242_6 (ok242_6 fu) loops_nil)
theorem lp242 : ∀ x ∈ loopsOf c242, ∀ id, firstReg x = some id → LoopOk Try.prog (0, 0) x (L242 id) := loops_eq lq242 lm242
noncomputable def R242 (x : Int) : Res := ⟨[.one (ai x)], [], []⟩
noncomputable def K242 (r : Res) : Option Int :=
  match r with
  | ⟨[.one (.val (.int .i64 v1))], [], []⟩ => some (v1)
  | _ => none
noncomputable def E242 : Fun2 := fun args bs rs =>
  match args, bs, rs with
  | [.s1 (.one (.sl 0))], [], [⟨275, (.pair (.int .i64) (.int .i64)), a1, .ro⟩] => some ⟨Int, S.l03Depth a1, R242⟩
  | _, _, _ => none
theorem ev242 (a1 : List (Int × Int)) : evF Try.prog G242 L242 (0, 0) Try.f242 c242 [vl 0] [] [⟨275, (.pair (.int .i64) (.int .i64)), a1, .ro⟩] K242 = S.l03Depth a1 := by kernel_rfl
theorem good242 : Vm.Good Try.prog 242 E242 := by
  refine evF_good (G := G242) (c := c242) (envCons_good good255 envNil_good) Try.func242 (by kernel_rfl) (by kernel_rfl) (0, 0) (fun args bs rs out t h h2 => ?_)
  unfold E242 at h
  split at h
  · injection h with h
    subst h
    exact ⟨rfl, L242, K242, lp242, (fun r t h => by unfold K242 at h; split at h; (injection h with h; subst h; rfl); cases h), (ev242 _).trans h2⟩
  · cases h
/-! ### S.ExprOk -/
noncomputable def G211 : Env := (envCons 242 [] E242 envNil)
noncomputable def c211 : Code := bodyOf Try.f211
noncomputable def S.ExprOk (a1 : List (Int × Int)) : Option Bool :=
(Option.bind (S.l03Depth a1) fun r2 =>
(some (decide (0 ≤ r2))))
noncomputable def R211 (x : Bool) : Res := ⟨[.one (ab x)], [], []⟩
noncomputable def K211 (r : Res) : Option Bool :=
  match r with
  | ⟨[.one (.val (.bool v1))], [], []⟩ => some (v1)
  | _ => none
noncomputable def E211 : Fun2 := fun args bs rs =>
  match args, bs, rs with
  | [.s1 (.one (.sl 0))], [], [⟨275, (.pair (.int .i64) (.int .i64)), a1, .ro⟩] => some ⟨Bool, S.ExprOk a1, R211⟩
  | _, _, _ => none
theorem ev211 (a1 : List (Int × Int)) : evF Try.prog G211 loopNil (0, 0) Try.f211 c211 [vl 0] [] [⟨275, (.pair (.int .i64) (.int .i64)), a1, .ro⟩] K211 = S.ExprOk a1 := by kernel_rfl
theorem good211 : Vm.Good Try.prog 211 E211 := by
  refine evF_good (G := G211) (c := c211) (envCons_good good242 envNil_good) Try.func211 (by kernel_rfl) (by kernel_rfl) (0, 0) (fun args bs rs out t h h2 => ?_)
  unfold E211 at h
  split at h
  · injection h with h
    subst h
    exact ⟨rfl, loopNil, K211, (by intro x hx; simp [show loopsOf c211 = [] from by kernel_rfl] at hx), (fun r t h => by unfold K211 at h; split at h; (injection h with h; subst h; rfl); cases h), (ev211 _).trans h2⟩
  · cases h
/-! ### S.WinOk -/
noncomputable def G212 : Env := envNil
noncomputable def c212 : Code := bodyOf Try.f212
noncomputable def S.WinOk (a1 a2 a3 : Int) : Option Bool :=
(bif (decide (a1 < 1)) then
(some false)
else
(bif (decide (3 < a1)) then
(some false)
else
(bif (decide (a2 < 1)) then
(some false)
else
(bif (decide (100 < a2)) then
(some false)
else
(bif (a1 != 2) then
(some (a3 == 0))
else
(bif (decide (1 ≤ a3)) then
(bif (decide (a3 ≤ a2)) then
(some (decide (a2 ≤ (IntKind.wrap .i64 (8 * a3)))))
else
(some false))
else
(some false)))))))
noncomputable def R212 (x : Bool) : Res := ⟨[.one (ab x)], [], []⟩
noncomputable def K212 (r : Res) : Option Bool :=
  match r with
  | ⟨[.one (.val (.bool v1))], [], []⟩ => some (v1)
  | _ => none
noncomputable def E212 : Fun2 := fun args bs rs =>
  match args, bs, rs with
  | [.s1 (.agg [.val (.int .i64 a1), .val (.int .i64 a2), .val (.int .i64 a3)])], [], [] => some ⟨Bool, S.WinOk a1 a2 a3, R212⟩
  | _, _, _ => none
theorem ev212 (a1 a2 a3 : Int) : evF Try.prog G212 loopNil (0, 0) Try.f212 c212 [.s1 (.agg [ai a1, ai a2, ai a3])] [] [] K212 = S.WinOk a1 a2 a3 := by kernel_rfl
theorem good212 : Vm.Good Try.prog 212 E212 := by
  refine evF_good (G := G212) (c := c212) envNil_good Try.func212 (by kernel_rfl) (by kernel_rfl) (0, 0) (fun args bs rs out t h h2 => ?_)
  unfold E212 at h
  split at h
  · injection h with h
    subst h
    exact ⟨rfl, loopNil, K212, (by intro x hx; simp [show loopsOf c212 = [] from by kernel_rfl] at hx), (fun r t h => by unfold K212 at h; split at h; (injection h with h; subst h; rfl); cases h), (ev212 _ _ _).trans h2⟩
  · cases h
/-! ### S.AggKind -/
noncomputable def G213 : Env := envNil
noncomputable def c213 : Code := bodyOf Try.f213
noncomputable def S.AggKind (a1 a2 : Int) : Option Bool :=
(bif (a1 == 6) then
(bif (decide (1 ≤ a2)) then
(some (decide (a2 ≤ 4)))
else
(some false))
else
(bif (decide (1 ≤ a1)) then
(bif (decide (a1 < 6)) then
(some (a2 == 0))
else
(some false))
else
(some false)))
noncomputable def R213 (x : Bool) : Res := ⟨[.one (ab x)], [], []⟩
noncomputable def K213 (r : Res) : Option Bool :=
  match r with
  | ⟨[.one (.val (.bool v1))], [], []⟩ => some (v1)
  | _ => none
noncomputable def E213 : Fun2 := fun args bs rs =>
  match args, bs, rs with
  | [.s1 (.one (.val (.int .i64 a1))), .s1 (.one (.val (.int .i64 a2)))], [], [] => some ⟨Bool, S.AggKind a1 a2, R213⟩
  | _, _, _ => none
theorem ev213 (a1 a2 : Int) : evF Try.prog G213 loopNil (0, 0) Try.f213 c213 [vi a1, vi a2] [] [] K213 = S.AggKind a1 a2 := by kernel_rfl
theorem good213 : Vm.Good Try.prog 213 E213 := by
  refine evF_good (G := G213) (c := c213) envNil_good Try.func213 (by kernel_rfl) (by kernel_rfl) (0, 0) (fun args bs rs out t h h2 => ?_)
  unfold E213 at h
  split at h
  · injection h with h
    subst h
    exact ⟨rfl, loopNil, K213, (by intro x hx; simp [show loopsOf c213 = [] from by kernel_rfl] at hx), (fun r t h => by unfold K213 at h; split at h; (injection h with h; subst h; rfl); cases h), (ev213 _ _).trans h2⟩
  · cases h
/-! ### S.QueryOk -/
noncomputable def G159 : Env := (envCons 211 [] E211 (envCons 212 [] E212 (envCons 213 [] E213 envNil)))
noncomputable def c159 : Code := bodyOf Try.f159
noncomputable def S.QueryOk (a1 a2 a3 a4 a5 : Int) (a6 a7 : List (Int × Int)) : Option Bool :=
(Option.bind (S.ExprOk a6) fun r8 =>
(bif r8 then
(Option.bind (S.ExprOk a7) fun r9 =>
(bif r9 then
(Option.bind (S.WinOk a1 a2 a3) fun r10 =>
(bif r10 then
(Option.bind (S.AggKind a4 a5) fun r11 =>
(some r11))
else
(some false)))
else
(some false)))
else
(some false)))
noncomputable def R159 (x : Bool) : Res := ⟨[.one (ab x)], [], []⟩
noncomputable def K159 (r : Res) : Option Bool :=
  match r with
  | ⟨[.one (.val (.bool v1))], [], []⟩ => some (v1)
  | _ => none
noncomputable def E159 : Fun2 := fun args bs rs =>
  match args, bs, rs with
  | [.s1 (.agg [.sl 0, .sl 1, .val (.int .i64 a1), .val (.int .i64 a2), .val (.int .i64 a3), .val (.int .i64 a4), .val (.int .i64 a5)])], [], [⟨275, (.pair (.int .i64) (.int .i64)), a6, .ro⟩, ⟨275, (.pair (.int .i64) (.int .i64)), a7, .ro⟩] => some ⟨Bool, S.QueryOk a1 a2 a3 a4 a5 a6 a7, R159⟩
  | _, _, _ => none
theorem ev159 (a1 a2 a3 a4 a5 : Int) (a6 a7 : List (Int × Int)) : evF Try.prog G159 loopNil (0, 0) Try.f159 c159 [.s1 (.agg [.sl 0, .sl 1, ai a1, ai a2, ai a3, ai a4, ai a5])] [] [⟨275, (.pair (.int .i64) (.int .i64)), a6, .ro⟩, ⟨275, (.pair (.int .i64) (.int .i64)), a7, .ro⟩] K159 = S.QueryOk a1 a2 a3 a4 a5 a6 a7 := by kernel_rfl
theorem good159 : Vm.Good Try.prog 159 E159 := by
  refine evF_good (G := G159) (c := c159) (envCons_good good211 (envCons_good good212 (envCons_good good213 envNil_good))) Try.func159 (by kernel_rfl) (by kernel_rfl) (0, 0) (fun args bs rs out t h h2 => ?_)
  unfold E159 at h
  split at h
  · injection h with h
    subst h
    exact ⟨rfl, loopNil, K159, (by intro x hx; simp [show loopsOf c159 = [] from by kernel_rfl] at hx), (fun r t h => by unfold K159 at h; split at h; (injection h with h; subst h; rfl); cases h), (ev159 _ _ _ _ _ _ _).trans h2⟩
  · cases h
/-! ### S.l01Here -/
noncomputable def G138 : Env := envNil
noncomputable def c138 : Code := bodyOf Try.f138
noncomputable def S.l01Here (a1 a2 : Int) (a3 : List Int) : Option Bool :=
(bif (decide (0 ≤ a2)) then
(some (decide (a2 < a1)))
else
(some false))
noncomputable def R138 (x : Bool) : Res := ⟨[.one (ab x)], [], []⟩
noncomputable def K138 (r : Res) : Option Bool :=
  match r with
  | ⟨[.one (.val (.bool v1))], [], []⟩ => some (v1)
  | _ => none
noncomputable def E138 : Fun2 := fun args bs rs =>
  match args, bs, rs with
  | [.s1 (.agg [.val (.int .i64 a1), .sl 0]), .s1 (.one (.val (.int .i64 a2)))], [], [⟨117, (.int .u64), a3, .ro⟩] => some ⟨Bool, S.l01Here a1 a2 a3, R138⟩
  | _, _, _ => none
theorem ev138 (a1 a2 : Int) (a3 : List Int) : evF Try.prog G138 loopNil (0, 0) Try.f138 c138 [.s1 (.agg [ai a1, .sl 0]), vi a2] [] [⟨117, (.int .u64), a3, .ro⟩] K138 = S.l01Here a1 a2 a3 := by kernel_rfl
theorem good138 : Vm.Good Try.prog 138 E138 := by
  refine evF_good (G := G138) (c := c138) envNil_good Try.func138 (by kernel_rfl) (by kernel_rfl) (0, 0) (fun args bs rs out t h h2 => ?_)
  unfold E138 at h
  split at h
  · injection h with h
    subst h
    exact ⟨rfl, loopNil, K138, (by intro x hx; simp [show loopsOf c138 = [] from by kernel_rfl] at hx), (fun r t h => by unfold K138 at h; split at h; (injection h with h; subst h; rfl); cases h), (ev138 _ _ _).trans h2⟩
  · cases h
/-! ### S.l10Cap -/
noncomputable def G173 : Env := envNil
noncomputable def c173 : Code := bodyOf Try.f173
noncomputable def S.l10Cap (a1 : Int) : Option Bool :=
(bif (decide (1 ≤ a1)) then
(some (decide (a1 ≤ 50)))
else
(some false))
noncomputable def R173 (x : Bool) : Res := ⟨[.one (ab x)], [], []⟩
noncomputable def K173 (r : Res) : Option Bool :=
  match r with
  | ⟨[.one (.val (.bool v1))], [], []⟩ => some (v1)
  | _ => none
noncomputable def E173 : Fun2 := fun args bs rs =>
  match args, bs, rs with
  | [.s1 (.one (.val (.int .i64 a1)))], [], [] => some ⟨Bool, S.l10Cap a1, R173⟩
  | _, _, _ => none
theorem ev173 (a1 : Int) : evF Try.prog G173 loopNil (0, 0) Try.f173 c173 [vi a1] [] [] K173 = S.l10Cap a1 := by kernel_rfl
theorem good173 : Vm.Good Try.prog 173 E173 := by
  refine evF_good (G := G173) (c := c173) envNil_good Try.func173 (by kernel_rfl) (by kernel_rfl) (0, 0) (fun args bs rs out t h h2 => ?_)
  unfold E173 at h
  split at h
  · injection h with h
    subst h
    exact ⟨rfl, loopNil, K173, (by intro x hx; simp [show loopsOf c173 = [] from by kernel_rfl] at hx), (fun r t h => by unfold K173 at h; split at h; (injection h with h; subst h; rfl); cases h), (ev173 _).trans h2⟩
  · cases h
/-! ### S.l11Query -/
noncomputable def G201 : Env := envNil
noncomputable def c201 : Code := bodyOf Try.f201
noncomputable def S.l11Query (a1 a2 a3 a4 : Int) (a5 : List Int) (a6 : List (List (Int × Int) × List (Int × Int) × (Int × Int × Int) × Int × Int)) (a7 : List (Int × Int × Int)) (a8 : List (Int × Int × Int × Int × Int)) : Option Bool :=
(bif (decide (0 ≤ a1)) then
(some (decide (a1 < (a6.length : Int))))
else
(some false))
noncomputable def R201 (x : Bool) : Res := ⟨[.one (ab x)], [], []⟩
noncomputable def K201 (r : Res) : Option Bool :=
  match r with
  | ⟨[.one (.val (.bool v1))], [], []⟩ => some (v1)
  | _ => none
noncomputable def E201 : Fun2 := fun args bs rs =>
  match args, bs, rs with
  | [.s1 (.one (.val (.int .i64 a1))), .s1 (.agg [.val (.int .i64 a2), .sl 0, .val (.int .i64 a3), .val (.int .i64 a4), .sl 1, .sl 2, .sl 3])], [], [⟨117, (.int .u64), a5, .ro⟩, ⟨129, (.pair (.sl 275 (.pair (.int .i64) (.int .i64))) (.pair (.sl 275 (.pair (.int .i64) (.int .i64))) (.pair (.pair (.int .i64) (.pair (.int .i64) (.int .i64))) (.pair (.int .i64) (.int .i64))))), a6, .ro⟩, ⟨250, (.pair (.int .i64) (.pair (.int .i64) (.int .i64))), a7, .ro⟩, ⟨252, (.pair (.int .i64) (.pair (.int .i64) (.pair (.int .i64) (.pair (.int .i64) (.int .i64))))), a8, .ro⟩] => some ⟨Bool, S.l11Query a1 a2 a3 a4 a5 a6 a7 a8, R201⟩
  | _, _, _ => none
theorem ev201 (a1 a2 a3 a4 : Int) (a5 : List Int) (a6 : List (List (Int × Int) × List (Int × Int) × (Int × Int × Int) × Int × Int)) (a7 : List (Int × Int × Int)) (a8 : List (Int × Int × Int × Int × Int)) : evF Try.prog G201 loopNil (0, 0) Try.f201 c201 [vi a1, .s1 (.agg [ai a2, .sl 0, ai a3, ai a4, .sl 1, .sl 2, .sl 3])] [] [⟨117, (.int .u64), a5, .ro⟩, ⟨129, (.pair (.sl 275 (.pair (.int .i64) (.int .i64))) (.pair (.sl 275 (.pair (.int .i64) (.int .i64))) (.pair (.pair (.int .i64) (.pair (.int .i64) (.int .i64))) (.pair (.int .i64) (.int .i64))))), a6, .ro⟩, ⟨250, (.pair (.int .i64) (.pair (.int .i64) (.int .i64))), a7, .ro⟩, ⟨252, (.pair (.int .i64) (.pair (.int .i64) (.pair (.int .i64) (.pair (.int .i64) (.int .i64))))), a8, .ro⟩] K201 = S.l11Query a1 a2 a3 a4 a5 a6 a7 a8 := by kernel_rfl
theorem good201 : Vm.Good Try.prog 201 E201 := by
  refine evF_good (G := G201) (c := c201) envNil_good Try.func201 (by kernel_rfl) (by kernel_rfl) (0, 0) (fun args bs rs out t h h2 => ?_)
  unfold E201 at h
  split at h
  · injection h with h
    subst h
    exact ⟨rfl, loopNil, K201, (by intro x hx; simp [show loopsOf c201 = [] from by kernel_rfl] at hx), (fun r t h => by unfold K201 at h; split at h; (injection h with h; subst h; rfl); cases h), (ev201 _ _ _ _ _ _ _ _).trans h2⟩
  · cases h
/-! ### S.ConfOk -/
noncomputable def G137 : Env := (envCons 103 [] E103 (envCons 159 [] E159 (envCons 138 [] E138 (envCons 173 [] E173 (envCons 201 [] E201 envNil)))))
noncomputable def c137 : Code := bodyOf Try.f137
noncomputable def c137_6 : Code := (loopsOf c137).getD 0 .skip
noncomputable def c137_11 : Code := (loopsOf c137).getD 1 .skip
noncomputable def c137_17 : Code := (loopsOf c137).getD 2 .skip
noncomputable def S.ConfOk_l0 : Nat → (Bool → Int → Int → Int → List Int → (List (List (Int × Int) × List (Int × Int) × (Int × Int × Int) × Int × Int)) → (List (Int × Int × Int)) → (List (Int × Int × Int × Int × Int)) → Option Bool) → (Int → Int → Int → List Int → (List (List (Int × Int) × List (Int × Int) × (Int × Int × Int) × Int × Int)) → (List (Int × Int × Int)) → (List (Int × Int × Int × Int × Int)) → Option Bool) → Int → Int → Int → Int → List Int → (List (List (Int × Int) × List (Int × Int) × (Int × Int × Int) × Int × Int)) → (List (Int × Int × Int)) → (List (Int × Int × Int × Int × Int)) → Option Bool
  | 0, _, _, _, _, _, _, _, _, _, _ => none
  | m + 1, e6_0, e6_1, a23, a24, a25, a26, a27, a28, a29, a30 =>
    (bif (decide (a23 < (a28.length : Int))) then
    (bif decide ((0 : Int) ≤ a23 ∧ a23 < (a28.length : Int)) then
    (Option.bind (S.QueryOk ((nthI a28 a23 ([], ([], (((0 : Int), ((0 : Int), (0 : Int))), ((0 : Int), (0 : Int)))))).2.2.1.1) ((nthI a28 a23 ([], ([], (((0 : Int), ((0 : Int), (0 : Int))), ((0 : Int), (0 : Int)))))).2.2.1.2.1) ((nthI a28 a23 ([], ([], (((0 : Int), ((0 : Int), (0 : Int))), ((0 : Int), (0 : Int)))))).2.2.1.2.2) ((nthI a28 a23 ([], ([], (((0 : Int), ((0 : Int), (0 : Int))), ((0 : Int), (0 : Int)))))).2.2.2.1) ((nthI a28 a23 ([], ([], (((0 : Int), ((0 : Int), (0 : Int))), ((0 : Int), (0 : Int)))))).2.2.2.2) ((nthI a28 a23 ([], ([], (((0 : Int), ((0 : Int), (0 : Int))), ((0 : Int), (0 : Int)))))).1) ((nthI a28 a23 ([], ([], (((0 : Int), ((0 : Int), (0 : Int))), ((0 : Int), (0 : Int)))))).2.1)) fun r33 =>
    (bif (!r33) then
    (e6_0 false a24 a25 a26 a27 a28 a29 a30)
    else
    (S.ConfOk_l0 m e6_0 e6_1 (IntKind.wrap .i64 (a23 + 1)) a24 a25 a26 a27 a28 a29 a30)))
    else
    none)
    else
    (e6_1 a24 a25 a26 a27 a28 a29 a30))
noncomputable def S.ConfOk_l1 : Nat → (Bool → Int → Int → Int → List Int → (List (List (Int × Int) × List (Int × Int) × (Int × Int × Int) × Int × Int)) → (List (Int × Int × Int)) → (List (Int × Int × Int × Int × Int)) → Option Bool) → (Int → Int → Int → List Int → (List (List (Int × Int) × List (Int × Int) × (Int × Int × Int) × Int × Int)) → (List (Int × Int × Int)) → (List (Int × Int × Int × Int × Int)) → Option Bool) → Int → Int → Int → Int → List Int → (List (List (Int × Int) × List (Int × Int) × (Int × Int × Int) × Int × Int)) → (List (Int × Int × Int)) → (List (Int × Int × Int × Int × Int)) → Option Bool
  | 0, _, _, _, _, _, _, _, _, _, _ => none
  | m + 1, e11_0, e11_1, a50, a51, a52, a53, a54, a55, a56, a57 =>
    (bif (decide (a50 < (a56.length : Int))) then
    (bif decide ((0 : Int) ≤ a50 ∧ a50 < (a56.length : Int)) then
    (Option.bind (S.l01Here a51 ((nthI a56 a50 ((0 : Int), ((0 : Int), (0 : Int)))).1) a54) fun r60 =>
    (bif (!r60) then
    (e11_0 false a51 a52 a53 a54 a55 a56 a57)
    else
    (Option.bind (S.l10Cap ((nthI a56 a50 ((0 : Int), ((0 : Int), (0 : Int)))).2.1)) fun r61 =>
    (bif (!r61) then
    (e11_0 false a51 a52 a53 a54 a55 a56 a57)
    else
    (Option.bind (S.l10Cap ((nthI a56 a50 ((0 : Int), ((0 : Int), (0 : Int)))).2.2)) fun r62 =>
    (bif (!r62) then
    (e11_0 false a51 a52 a53 a54 a55 a56 a57)
    else
    (S.ConfOk_l1 m e11_0 e11_1 (IntKind.wrap .i64 (a50 + 1)) a51 a52 a53 a54 a55 a56 a57)))))))
    else
    none)
    else
    (e11_1 a51 a52 a53 a54 a55 a56 a57))
noncomputable def S.ConfOk_l2 : Nat → (Bool → Option Bool) → (Option Bool) → Int → Int → Int → Int → List Int → (List (List (Int × Int) × List (Int × Int) × (Int × Int × Int) × Int × Int)) → (List (Int × Int × Int)) → (List (Int × Int × Int × Int × Int)) → Option Bool
  | 0, _, _, _, _, _, _, _, _, _, _ => none
  | m + 1, e17_0, e17_1, a79, a80, a81, a82, a83, a84, a85, a86 =>
    (bif (decide (a79 < (a86.length : Int))) then
    (bif decide ((0 : Int) ≤ a79 ∧ a79 < (a86.length : Int)) then
    (Option.bind (S.l11Query ((nthI a86 a79 ((0 : Int), ((0 : Int), ((0 : Int), ((0 : Int), (0 : Int)))))).1) a80 a81 a82 a83 a84 a85 a86) fun r89 =>
    (bif (!r89) then
    (e17_0 false)
    else
    (Option.bind (S.l01Here a80 ((nthI a86 a79 ((0 : Int), ((0 : Int), ((0 : Int), ((0 : Int), (0 : Int)))))).2.1) a83) fun r90 =>
    (bif (!r90) then
    (e17_0 false)
    else
    (Option.bind (S.l01Here a80 ((nthI a86 a79 ((0 : Int), ((0 : Int), ((0 : Int), ((0 : Int), (0 : Int)))))).2.2.1) a83) fun r91 =>
    (bif (!r91) then
    (e17_0 false)
    else
    (let v92 : Bool := (decide ((nthI a86 a79 ((0 : Int), ((0 : Int), ((0 : Int), ((0 : Int), (0 : Int)))))).2.2.2.1 < 1))
    (bif v92 then
    (e17_0 false)
    else
    (let v93 : Bool := (decide (1000000 < (nthI a86 a79 ((0 : Int), ((0 : Int), ((0 : Int), ((0 : Int), (0 : Int)))))).2.2.2.1))
    (bif v93 then
    (e17_0 false)
    else
    (let v94 : Bool := (decide ((nthI a86 a79 ((0 : Int), ((0 : Int), ((0 : Int), ((0 : Int), (0 : Int)))))).2.2.2.2 < 0))
    (bif v94 then
    (e17_0 false)
    else
    (let v95 : Bool := (decide (20 < (nthI a86 a79 ((0 : Int), ((0 : Int), ((0 : Int), ((0 : Int), (0 : Int)))))).2.2.2.2))
    (bif v95 then
    (e17_0 false)
    else
    (S.ConfOk_l2 m e17_0 e17_1 (IntKind.wrap .i64 (a79 + 1)) a80 a81 a82 a83 a84 a85 a86)))))))))))))))
    else
    none)
    else
    e17_1)
noncomputable def S.ConfOk (a1 a2 a3 : Int) (a4 : List Int) (a5 : List (List (Int × Int) × List (Int × Int) × (Int × Int × Int) × Int × Int)) (a6 : List (Int × Int × Int)) (a7 : List (Int × Int × Int × Int × Int)) : Option Bool :=
(Option.bind (S.LatOk a1 a4) fun r8 =>
(bif (!r8) then
(some false)
else
(bif (decide (a2 < 1)) then
(some false)
else
(bif (decide (4 < a2)) then
(some false)
else
(bif (decide (a3 < 1)) then
(some false)
else
(bif (decide (30 < a3)) then
(some false)
else
(bif (decide ((a5.length : Int) < 1)) then
(some false)
else
(bif (decide (4 < (a5.length : Int))) then
(some false)
else
(bif (decide ((a6.length : Int) < 1)) then
(some false)
else
(bif (decide (4 < (a6.length : Int))) then
(some false)
else
(bif (decide (3 < (a7.length : Int))) then
(some false)
else
(S.ConfOk_l0 fu (fun y35 y36 y37 y38 y39 y40 y41 y42 =>
(some y35)) (fun y43 y44 y45 y46 y47 y48 y49 =>
(S.ConfOk_l1 fu (fun y64 y65 y66 y67 y68 y69 y70 y71 =>
(some y64)) (fun y72 y73 y74 y75 y76 y77 y78 =>
(S.ConfOk_l2 fu (fun y97 =>
(some y97)) (some true) 0 y72 y73 y74 y75 y76 y77 y78)) 0 y43 y44 y45 y46 y47 y48 y49)) 0 a1 a2 a3 a4 a5 a6 a7))))))))))))
noncomputable def H137_6 : LoopH := ⟨⟨((.one (.unk)) :: (.one (.ptr 0 0)) :: (.one (.unk)) :: hh :: (hu 153 [])), [(100, [.hole, .sl 0, .hole, .hole, .sl 1, .sl 2, .sl 3])], [(117, (.int .u64), .ro), (129, (.pair (.sl 275 (.pair (.int .i64) (.int .i64))) (.pair (.sl 275 (.pair (.int .i64) (.int .i64))) (.pair (.pair (.int .i64) (.pair (.int .i64) (.int .i64))) (.pair (.int .i64) (.int .i64))))), .ro), (250, (.pair (.int .i64) (.pair (.int .i64) (.int .i64))), .ro), (252, (.pair (.int .i64) (.pair (.int .i64) (.pair (.int .i64) (.pair (.int .i64) (.int .i64))))), .ro)]⟩, [0, 2, 4, 5, 6, 7, 8, 9, 10, 11, 12, 13, 14, 15, 16, 17, 18, 19, 20, 21, 22, 23, 24, 25, 26, 27, 28, 29, 30, 31, 32, 33, 34, 35, 36, 37, 38, 39, 40, 41, 42, 43, 44, 45, 46, 47, 48, 49, 50, 51, 52, 53, 54, 55, 56, 57, 58, 59, 60, 61, 62, 63, 64, 65, 66, 67, 68, 69, 70, 71, 72, 73, 74, 75, 76, 77, 78, 79, 80, 81, 82, 83, 84, 85, 86, 87, 88, 89, 90, 91, 92, 93, 94, 95, 96, 97, 98, 99, 100, 101, 102, 103, 104, 105, 106, 107, 108, 109, 110, 111, 112, 113, 114, 115, 116, 117, 118, 119, 120, 121, 122, 123, 124, 125, 126, 127, 128, 129, 130, 131, 132, 133, 134, 135, 136, 137, 138, 139, 140, 141, 142, 143, 144, 145, 146, 147, 148, 149, 150, 151, 152, 153, 154, 155, 156], [], [0, 3, 4, 5, 6, 7, 8, 9, 10, 11, 12, 13, 14, 15, 16, 17, 18, 19, 20, 21, 22, 23, 24, 25, 26, 27, 28, 29, 30, 31, 32, 33, 34, 35, 36, 37, 38, 39, 40, 41, 42, 43, 44, 45, 46, 47, 48, 49, 50, 51, 52, 53, 54, 55, 56, 57, 58, 59, 60, 61, 62, 63, 64, 65, 66, 67, 68, 69, 70, 71, 72, 73, 74, 75, 76, 77, 78, 79, 80, 81, 82, 83, 84, 85, 86, 87, 88, 89, 90, 91, 92, 93, 94, 95, 96, 97, 98, 99, 100, 101, 102, 103, 104, 105, 106, 107, 108, 109, 110, 111, 112, 113, 114, 115, 116, 117, 118, 119, 120, 121, 122, 123, 124, 125, 126, 127, 128, 129, 130, 131, 132, 133, 134, 135, 136, 137, 138, 139, 140, 141, 142, 143, 144, 145, 146, 147, 148, 149, 150, 151, 152, 153, 154, 155, 156]⟩
noncomputable def E137_6 (m : Nat) (ps : List Prm) (k : Kont Bool) : Option Bool :=
  match ps with
  | [.v (.int .i64 a23), .v (.int .i64 a24), .v (.int .i64 a25), .v (.int .i64 a26), .row (.int .u64) a27, .row (.pair (.sl 275 (.pair (.int .i64) (.int .i64))) (.pair (.sl 275 (.pair (.int .i64) (.int .i64))) (.pair (.pair (.int .i64) (.pair (.int .i64) (.int .i64))) (.pair (.int .i64) (.int .i64))))) a28, .row (.pair (.int .i64) (.pair (.int .i64) (.int .i64))) a29, .row (.pair (.int .i64) (.pair (.int .i64) (.pair (.int .i64) (.pair (.int .i64) (.int .i64))))) a30] => S.ConfOk_l0 m (fun z129 z130 z131 z132 z133 z134 z135 z136 => k .ret (⟨((.s1 (.one (.unk))) :: (vp 0 0) :: (vb z129) :: (vu 154 [])), [(100, [ai z130, .sl 0, ai z131, ai z132, .sl 1, .sl 2, .sl 3])], [⟨117, (.int .u64), z133, .ro⟩, ⟨129, (.pair (.sl 275 (.pair (.int .i64) (.int .i64))) (.pair (.sl 275 (.pair (.int .i64) (.int .i64))) (.pair (.pair (.int .i64) (.pair (.int .i64) (.int .i64))) (.pair (.int .i64) (.int .i64))))), z134, .ro⟩, ⟨250, (.pair (.int .i64) (.pair (.int .i64) (.int .i64))), z135, .ro⟩, ⟨252, (.pair (.int .i64) (.pair (.int .i64) (.pair (.int .i64) (.pair (.int .i64) (.int .i64))))), z136, .ro⟩]⟩ : St)) (fun z137 z138 z139 z140 z141 z142 z143 => k (.exit 0) (⟨((.s1 (.one (.unk))) :: (vp 0 0) :: (vu 155 [])), [(100, [ai z137, .sl 0, ai z138, ai z139, .sl 1, .sl 2, .sl 3])], [⟨117, (.int .u64), z140, .ro⟩, ⟨129, (.pair (.sl 275 (.pair (.int .i64) (.int .i64))) (.pair (.sl 275 (.pair (.int .i64) (.int .i64))) (.pair (.pair (.int .i64) (.pair (.int .i64) (.int .i64))) (.pair (.int .i64) (.int .i64))))), z141, .ro⟩, ⟨250, (.pair (.int .i64) (.pair (.int .i64) (.int .i64))), z142, .ro⟩, ⟨252, (.pair (.int .i64) (.pair (.int .i64) (.pair (.int .i64) (.pair (.int .i64) (.int .i64))))), z143, .ro⟩]⟩ : St)) a23 a24 a25 a26 a27 a28 a29 a30
  | _ => none
noncomputable def S137_6 (a23 a24 a25 a26 : Int) (a27 : List Int) (a28 : List (List (Int × Int) × List (Int × Int) × (Int × Int × Int) × Int × Int)) (a29 : List (Int × Int × Int)) (a30 : List (Int × Int × Int × Int × Int)) : St := (⟨((.s1 (.one (.unk))) :: (vp 0 0) :: (.s1 (.one (.unk))) :: (vi a23) :: (vu 153 [])), [(100, [ai a24, .sl 0, ai a25, ai a26, .sl 1, .sl 2, .sl 3])], [⟨117, (.int .u64), a27, .ro⟩, ⟨129, (.pair (.sl 275 (.pair (.int .i64) (.int .i64))) (.pair (.sl 275 (.pair (.int .i64) (.int .i64))) (.pair (.pair (.int .i64) (.pair (.int .i64) (.int .i64))) (.pair (.int .i64) (.int .i64))))), a28, .ro⟩, ⟨250, (.pair (.int .i64) (.pair (.int .i64) (.int .i64))), a29, .ro⟩, ⟨252, (.pair (.int .i64) (.pair (.int .i64) (.pair (.int .i64) (.pair (.int .i64) (.int .i64))))), a30, .ro⟩]⟩ : St)
theorem ev137_6 (m : Nat) (k : Kont Bool) (a23 a24 a25 a26 : Int) (a27 : List Int) (a28 : List (List (Int × Int) × List (Int × Int) × (Int × Int × Int) × Int × Int)) (a29 : List (Int × Int × Int)) (a30 : List (Int × Int × Int × Int × Int)) : evC Try.prog G137 loopNil c137_6 (S137_6 a23 a24 a25 a26 a27 a28 a29 a30) (turn Try.prog (0, 0) H137_6 (E137_6 m) k) = E137_6 (m + 1) [.v (.int .i64 a23), .v (.int .i64 a24), .v (.int .i64 a25), .v (.int .i64 a26), .row (.int .u64) a27, .row (.pair (.sl 275 (.pair (.int .i64) (.int .i64))) (.pair (.sl 275 (.pair (.int .i64) (.int .i64))) (.pair (.pair (.int .i64) (.pair (.int .i64) (.int .i64))) (.pair (.int .i64) (.int .i64))))) a28, .row (.pair (.int .i64) (.pair (.int .i64) (.int .i64))) a29, .row (.pair (.int .i64) (.pair (.int .i64) (.pair (.int .i64) (.pair (.int .i64) (.int .i64))))) a30] k := by kernel_rfl
theorem ok137_6 (m : Nat) : LoopOk Try.prog (0, 0) c137_6 (enter Try.prog (0, 0) H137_6 (E137_6 m)) := by
  refine loop_ok (G := G137) (L := loopNil) (envCons_good good103 (envCons_good good159 (envCons_good good138 (envCons_good good173 (envCons_good good201 envNil_good))))) (by intro x hx; simp [show loopsOf c137_6 = [] from by kernel_rfl] at hx) (fun ps k => by unfold E137_6; split <;> rfl) (fun m ps k r h => ?_) m
  have h0 := h
  unfold E137_6 at h
  split at h
  · exact ⟨S137_6 _ _ _ _ _ _ _ _, by kernel_rfl, (ev137_6 m k _ _ _ _ _ _ _ _).trans h0⟩
  · cases h
noncomputable def H137_11 : LoopH := ⟨⟨((.one (.unk)) :: (.one (.ptr 0 0)) :: (hu 2 (hh :: (hu 152 [])))), [(100, [.hole, .sl 0, .hole, .hole, .sl 1, .sl 2, .sl 3])], [(117, (.int .u64), .ro), (129, (.pair (.sl 275 (.pair (.int .i64) (.int .i64))) (.pair (.sl 275 (.pair (.int .i64) (.int .i64))) (.pair (.pair (.int .i64) (.pair (.int .i64) (.int .i64))) (.pair (.int .i64) (.int .i64))))), .ro), (250, (.pair (.int .i64) (.pair (.int .i64) (.int .i64))), .ro), (252, (.pair (.int .i64) (.pair (.int .i64) (.pair (.int .i64) (.pair (.int .i64) (.int .i64))))), .ro)]⟩, [0, 2, 3, 5, 6, 7, 8, 9, 10, 11, 12, 13, 14, 15, 16, 17, 18, 19, 20, 21, 22, 23, 24, 25, 26, 27, 28, 29, 30, 31, 32, 33, 34, 35, 36, 37, 38, 39, 40, 41, 42, 43, 44, 45, 46, 47, 48, 49, 50, 51, 52, 53, 54, 55, 56, 57, 58, 59, 60, 61, 62, 63, 64, 65, 66, 67, 68, 69, 70, 71, 72, 73, 74, 75, 76, 77, 78, 79, 80, 81, 82, 83, 84, 85, 86, 87, 88, 89, 90, 91, 92, 93, 94, 95, 96, 97, 98, 99, 100, 101, 102, 103, 104, 105, 106, 107, 108, 109, 110, 111, 112, 113, 114, 115, 116, 117, 118, 119, 120, 121, 122, 123, 124, 125, 126, 127, 128, 129, 130, 131, 132, 133, 134, 135, 136, 137, 138, 139, 140, 141, 142, 143, 144, 145, 146, 147, 148, 149, 150, 151, 152, 153, 154, 155, 156], [], [0, 3, 4, 5, 6, 7, 8, 9, 10, 11, 12, 13, 14, 15, 16, 17, 18, 19, 20, 21, 22, 23, 24, 25, 26, 27, 28, 29, 30, 31, 32, 33, 34, 35, 36, 37, 38, 39, 40, 41, 42, 43, 44, 45, 46, 47, 48, 49, 50, 51, 52, 53, 54, 55, 56, 57, 58, 59, 60, 61, 62, 63, 64, 65, 66, 67, 68, 69, 70, 71, 72, 73, 74, 75, 76, 77, 78, 79, 80, 81, 82, 83, 84, 85, 86, 87, 88, 89, 90, 91, 92, 93, 94, 95, 96, 97, 98, 99, 100, 101, 102, 103, 104, 105, 106, 107, 108, 109, 110, 111, 112, 113, 114, 115, 116, 117, 118, 119, 120, 121, 122, 123, 124, 125, 126, 127, 128, 129, 130, 131, 132, 133, 134, 135, 136, 137, 138, 139, 140, 141, 142, 143, 144, 145, 146, 147, 148, 149, 150, 151, 152, 153, 154, 155, 156]⟩
noncomputable def E137_11 (m : Nat) (ps : List Prm) (k : Kont Bool) : Option Bool :=
  match ps with
  | [.v (.int .i64 a50), .v (.int .i64 a51), .v (.int .i64 a52), .v (.int .i64 a53), .row (.int .u64) a54, .row (.pair (.sl 275 (.pair (.int .i64) (.int .i64))) (.pair (.sl 275 (.pair (.int .i64) (.int .i64))) (.pair (.pair (.int .i64) (.pair (.int .i64) (.int .i64))) (.pair (.int .i64) (.int .i64))))) a55, .row (.pair (.int .i64) (.pair (.int .i64) (.int .i64))) a56, .row (.pair (.int .i64) (.pair (.int .i64) (.pair (.int .i64) (.pair (.int .i64) (.int .i64))))) a57] => S.ConfOk_l1 m (fun z144 z145 z146 z147 z148 z149 z150 z151 => k .ret (⟨((.s1 (.one (.unk))) :: (vp 0 0) :: (vb z144) :: (vu 154 [])), [(100, [ai z145, .sl 0, ai z146, ai z147, .sl 1, .sl 2, .sl 3])], [⟨117, (.int .u64), z148, .ro⟩, ⟨129, (.pair (.sl 275 (.pair (.int .i64) (.int .i64))) (.pair (.sl 275 (.pair (.int .i64) (.int .i64))) (.pair (.pair (.int .i64) (.pair (.int .i64) (.int .i64))) (.pair (.int .i64) (.int .i64))))), z149, .ro⟩, ⟨250, (.pair (.int .i64) (.pair (.int .i64) (.int .i64))), z150, .ro⟩, ⟨252, (.pair (.int .i64) (.pair (.int .i64) (.pair (.int .i64) (.pair (.int .i64) (.int .i64))))), z151, .ro⟩]⟩ : St)) (fun z152 z153 z154 z155 z156 z157 z158 => k (.exit 2) (⟨((.s1 (.one (.unk))) :: (vp 0 0) :: (vu 155 [])), [(100, [ai z152, .sl 0, ai z153, ai z154, .sl 1, .sl 2, .sl 3])], [⟨117, (.int .u64), z155, .ro⟩, ⟨129, (.pair (.sl 275 (.pair (.int .i64) (.int .i64))) (.pair (.sl 275 (.pair (.int .i64) (.int .i64))) (.pair (.pair (.int .i64) (.pair (.int .i64) (.int .i64))) (.pair (.int .i64) (.int .i64))))), z156, .ro⟩, ⟨250, (.pair (.int .i64) (.pair (.int .i64) (.int .i64))), z157, .ro⟩, ⟨252, (.pair (.int .i64) (.pair (.int .i64) (.pair (.int .i64) (.pair (.int .i64) (.int .i64))))), z158, .ro⟩]⟩ : St)) a50 a51 a52 a53 a54 a55 a56 a57
  | _ => none
noncomputable def S137_11 (a50 a51 a52 a53 : Int) (a54 : List Int) (a55 : List (List (Int × Int) × List (Int × Int) × (Int × Int × Int) × Int × Int)) (a56 : List (Int × Int × Int)) (a57 : List (Int × Int × Int × Int × Int)) : St := (⟨((.s1 (.one (.unk))) :: (vp 0 0) :: (vu 2 ((vi a50) :: (vu 152 [])))), [(100, [ai a51, .sl 0, ai a52, ai a53, .sl 1, .sl 2, .sl 3])], [⟨117, (.int .u64), a54, .ro⟩, ⟨129, (.pair (.sl 275 (.pair (.int .i64) (.int .i64))) (.pair (.sl 275 (.pair (.int .i64) (.int .i64))) (.pair (.pair (.int .i64) (.pair (.int .i64) (.int .i64))) (.pair (.int .i64) (.int .i64))))), a55, .ro⟩, ⟨250, (.pair (.int .i64) (.pair (.int .i64) (.int .i64))), a56, .ro⟩, ⟨252, (.pair (.int .i64) (.pair (.int .i64) (.pair (.int .i64) (.pair (.int .i64) (.int .i64))))), a57, .ro⟩]⟩ : St)
theorem ev137_11 (m : Nat) (k : Kont Bool) (a50 a51 a52 a53 : Int) (a54 : List Int) (a55 : List (List (Int × Int) × List (Int × Int) × (Int × Int × Int) × Int × Int)) (a56 : List (Int × Int × Int)) (a57 : List (Int × Int × Int × Int × Int)) : evC Try.prog G137 loopNil c137_11 (S137_11 a50 a51 a52 a53 a54 a55 a56 a57) (turn Try.prog (0, 0) H137_11 (E137_11 m) k) = E137_11 (m + 1) [.v (.int .i64 a50), .v (.int .i64 a51), .v (.int .i64 a52), .v (.int .i64 a53), .row (.int .u64) a54, .row (.pair (.sl 275 (.pair (.int .i64) (.int .i64))) (.pair (.sl 275 (.pair (.int .i64) (.int .i64))) (.pair (.pair (.int .i64) (.pair (.int .i64) (.int .i64))) (.pair (.int .i64) (.int .i64))))) a55, .row (.pair (.int .i64) (.pair (.int .i64) (.int .i64))) a56, .row (.pair (.int .i64) (.pair (.int .i64) (.pair (.int .i64) (.pair (.int .i64) (.int .i64))))) a57] k := by kernel_rfl
theorem ok137_11 (m : Nat) : LoopOk Try.prog (0, 0) c137_11 (enter Try.prog (0, 0) H137_11 (E137_11 m)) := by
  refine loop_ok (G := G137) (L := loopNil) (envCons_good good103 (envCons_good good159 (envCons_good good138 (envCons_good good173 (envCons_good good201 envNil_good))))) (by intro x hx; simp [show loopsOf c137_11 = [] from by kernel_rfl] at hx) (fun ps k => by unfold E137_11; split <;> rfl) (fun m ps k r h => ?_) m
  have h0 := h
  unfold E137_11 at h
  split at h
  · exact ⟨S137_11 _ _ _ _ _ _ _ _, by kernel_rfl, (ev137_11 m k _ _ _ _ _ _ _ _).trans h0⟩
  · cases h
noncomputable def H137_17 : LoopH := ⟨⟨((.one (.unk)) :: (.one (.ptr 0 0)) :: (hu 4 (hh :: (hu 150 [])))), [(100, [.hole, .sl 0, .hole, .hole, .sl 1, .sl 2, .sl 3])], [(117, (.int .u64), .ro), (129, (.pair (.sl 275 (.pair (.int .i64) (.int .i64))) (.pair (.sl 275 (.pair (.int .i64) (.int .i64))) (.pair (.pair (.int .i64) (.pair (.int .i64) (.int .i64))) (.pair (.int .i64) (.int .i64))))), .ro), (250, (.pair (.int .i64) (.pair (.int .i64) (.int .i64))), .ro), (252, (.pair (.int .i64) (.pair (.int .i64) (.pair (.int .i64) (.pair (.int .i64) (.int .i64))))), .ro)]⟩, [0, 2, 3, 4, 5, 7, 8, 9, 10, 11, 12, 13, 14, 15, 16, 17, 18, 19, 20, 21, 22, 23, 24, 25, 26, 27, 28, 29, 30, 31, 32, 33, 34, 35, 36, 37, 38, 39, 40, 41, 42, 43, 44, 45, 46, 47, 48, 49, 50, 51, 52, 53, 54, 55, 56, 57, 58, 59, 60, 61, 62, 63, 64, 65, 66, 67, 68, 69, 70, 71, 72, 73, 74, 75, 76, 77, 78, 79, 80, 81, 82, 83, 84, 85, 86, 87, 88, 89, 90, 91, 92, 93, 94, 95, 96, 97, 98, 99, 100, 101, 102, 103, 104, 105, 106, 107, 108, 109, 110, 111, 112, 113, 114, 115, 116, 117, 118, 119, 120, 121, 122, 123, 124, 125, 126, 127, 128, 129, 130, 131, 132, 133, 134, 135, 136, 137, 138, 139, 140, 141, 142, 143, 144, 145, 146, 147, 148, 149, 150, 151, 152, 153, 154, 155, 156], [], [0, 1, 3, 4, 5, 6, 7, 8, 9, 10, 11, 12, 13, 14, 15, 16, 17, 18, 19, 20, 21, 22, 23, 24, 25, 26, 27, 28, 29, 30, 31, 32, 33, 34, 35, 36, 37, 38, 39, 40, 41, 42, 43, 44, 45, 46, 47, 48, 49, 50, 51, 52, 53, 54, 55, 56, 57, 58, 59, 60, 61, 62, 63, 64, 65, 66, 67, 68, 69, 70, 71, 72, 73, 74, 75, 76, 77, 78, 79, 80, 81, 82, 83, 84, 85, 86, 87, 88, 89, 90, 91, 92, 93, 94, 95, 96, 97, 98, 99, 100, 101, 102, 103, 104, 105, 106, 107, 108, 109, 110, 111, 112, 113, 114, 115, 116, 117, 118, 119, 120, 121, 122, 123, 124, 125, 126, 127, 128, 129, 130, 131, 132, 133, 134, 135, 136, 137, 138, 139, 140, 141, 142, 143, 144, 145, 146, 147, 148, 149, 150, 151, 152, 153, 154, 155, 156]⟩
noncomputable def E137_17 (m : Nat) (ps : List Prm) (k : Kont Bool) : Option Bool :=
  match ps with
  | [.v (.int .i64 a79), .v (.int .i64 a80), .v (.int .i64 a81), .v (.int .i64 a82), .row (.int .u64) a83, .row (.pair (.sl 275 (.pair (.int .i64) (.int .i64))) (.pair (.sl 275 (.pair (.int .i64) (.int .i64))) (.pair (.pair (.int .i64) (.pair (.int .i64) (.int .i64))) (.pair (.int .i64) (.int .i64))))) a84, .row (.pair (.int .i64) (.pair (.int .i64) (.int .i64))) a85, .row (.pair (.int .i64) (.pair (.int .i64) (.pair (.int .i64) (.pair (.int .i64) (.int .i64))))) a86] => S.ConfOk_l2 m (fun z159 => k .ret (⟨(vu 2 ((vb z159) :: (vu 154 []))), [], []⟩ : St)) (k (.exit 4) (⟨(vu 157 []), [], []⟩ : St)) a79 a80 a81 a82 a83 a84 a85 a86
  | _ => none
noncomputable def S137_17 (a79 a80 a81 a82 : Int) (a83 : List Int) (a84 : List (List (Int × Int) × List (Int × Int) × (Int × Int × Int) × Int × Int)) (a85 : List (Int × Int × Int)) (a86 : List (Int × Int × Int × Int × Int)) : St := (⟨((.s1 (.one (.unk))) :: (vp 0 0) :: (vu 4 ((vi a79) :: (vu 150 [])))), [(100, [ai a80, .sl 0, ai a81, ai a82, .sl 1, .sl 2, .sl 3])], [⟨117, (.int .u64), a83, .ro⟩, ⟨129, (.pair (.sl 275 (.pair (.int .i64) (.int .i64))) (.pair (.sl 275 (.pair (.int .i64) (.int .i64))) (.pair (.pair (.int .i64) (.pair (.int .i64) (.int .i64))) (.pair (.int .i64) (.int .i64))))), a84, .ro⟩, ⟨250, (.pair (.int .i64) (.pair (.int .i64) (.int .i64))), a85, .ro⟩, ⟨252, (.pair (.int .i64) (.pair (.int .i64) (.pair (.int .i64) (.pair (.int .i64) (.int .i64))))), a86, .ro⟩]⟩ : St)
theorem ev137_17 (m : Nat) (k : Kont Bool) (a79 a80 a81 a82 : Int) (a83 : List Int) (a84 : List (List (Int × Int) × List (Int × Int) × (Int × Int × Int) × Int × Int)) (a85 : List (Int × Int × Int)) (a86 : List (Int × Int × Int × Int × Int)) : evC Try.prog G137 loopNil c137_17 (S137_17 a79 a80 a81 a82 a83 a84 a85 a86) (turn Try.prog (0, 0) H137_17 (E137_17 m) k) = E137_17 (m + 1) [.v (.int .i64 a79), .v (.int .i64 a80), .v (.int .i64 a81), .v (.int .i64 a82), .row (.int .u64) a83, .row (.pair (.sl 275 (.pair (.int .i64) (.int .i64))) (.pair (.sl 275 (.pair (.int .i64) (.int .i64))) (.pair (.pair (.int .i64) (.pair (.int .i64) (.int .i64))) (.pair (.int .i64) (.int .i64))))) a84, .row (.pair (.int .i64) (.pair (.int .i64) (.int .i64))) a85, .row (.pair (.int .i64) (.pair (.int .i64) (.pair (.int .i64) (.pair (.int .i64) (.int .i64))))) a86] k := by kernel_rfl
theorem ok137_17 (m : Nat) : LoopOk Try.prog (0, 0) c137_17 (enter Try.prog (0, 0) H137_17 (E137_17 m)) := by
  refine loop_ok (G := G137) (L := loopNil) (envCons_good good103 (envCons_good good159 (envCons_good good138 (envCons_good good173 (envCons_good good201 envNil_good))))) (by intro x hx; simp [show loopsOf c137_17 = [] from by kernel_rfl] at hx) (fun ps k => by unfold E137_17; split <;> rfl) (fun m ps k r h => ?_) m
  have h0 := h
  unfold E137_17 at h
  split at h
  · exact ⟨S137_17 _ _ _ _ _ _ _ _, by kernel_rfl, (ev137_17 m k _ _ _ _ _ _ _ _).trans h0⟩
  · cases h
noncomputable def L137 : LEnv Bool := (loopCons 6 (enter Try.prog (0, 0) H137_6 (E137_6 fu)) (loopCons 11 (enter Try.prog (0, 0) H137_11 (E137_11 fu)) (loopCons 17 (enter Try.prog (0, 0) H137_17 (E137_17 fu)) loopNil)))
theorem lq137 : loopsOf c137 = [c137_6, c137_11, c137_17] := by kernel_rfl
theorem fr137_6 : firstReg c137_6 = some 6 := by kernel_rfl
theorem le137_6 : L137 6 = enter Try.prog (0, 0) H137_6 (E137_6 fu) := by kernel_rfl
theorem fr137_11 : firstReg c137_11 = some 11 := by kernel_rfl
theorem le137_11 : L137 11 = enter Try.prog (0, 0) H137_11 (E137_11 fu) := by kernel_rfl
theorem fr137_17 : firstReg c137_17 = some 17 := by kernel_rfl
theorem le137_17 : L137 17 = enter Try.prog (0, 0) H137_17 (E137_17 fu) := by kernel_rfl
theorem lm137 : ∀ x ∈ [c137_6, c137_11, c137_17], ∀ id, firstReg x = some id → LoopOk Try.prog (0, 0) x (L137 id) := (loops_cons fr137_6 le137_6 (ok137_6 fu) (loops_cons fr137_11 le137_11 (ok137_11 fu) (loops_cons fr137_17 le137_17 (ok137_17 fu) loops_nil)))
theorem lp137 : ∀ x ∈ loopsOf c137, ∀ id, firstReg x = some id → LoopOk Try.prog (0, 0) x (L137 id) := loops_eq lq137 lm137
noncomputable def R137 (x : Bool) : Res := ⟨[.one (ab x)], [], []⟩
noncomputable def K137 (r : Res) : Option Bool :=
  match r with
  | ⟨[.one (.val (.bool v1))], [], []⟩ => some (v1)
  | _ => none
noncomputable def E137 : Fun2 := fun args bs rs =>
  match args, bs, rs with
  | [.s1 (.agg [.val (.int .i64 a1), .sl 0, .val (.int .i64 a2), .val (.int .i64 a3), .sl 1, .sl 2, .sl 3])], [], [⟨117, (.int .u64), a4, .ro⟩, ⟨129, (.pair (.sl 275 (.pair (.int .i64) (.int .i64))) (.pair (.sl 275 (.pair (.int .i64) (.int .i64))) (.pair (.pair (.int .i64) (.pair (.int .i64) (.int .i64))) (.pair (.int .i64) (.int .i64))))), a5, .ro⟩, ⟨250, (.pair (.int .i64) (.pair (.int .i64) (.int .i64))), a6, .ro⟩, ⟨252, (.pair (.int .i64) (.pair (.int .i64) (.pair (.int .i64) (.pair (.int .i64) (.int .i64))))), a7, .ro⟩] => some ⟨Bool, S.ConfOk a1 a2 a3 a4 a5 a6 a7, R137⟩
  | _, _, _ => none
theorem ev137 (a1 a2 a3 : Int) (a4 : List Int) (a5 : List (List (Int × Int) × List (Int × Int) × (Int × Int × Int) × Int × Int)) (a6 : List (Int × Int × Int)) (a7 : List (Int × Int × Int × Int × Int)) : evF Try.prog G137 L137 (0, 0) Try.f137 c137 [.s1 (.agg [ai a1, .sl 0, ai a2, ai a3, .sl 1, .sl 2, .sl 3])] [] [⟨117, (.int .u64), a4, .ro⟩, ⟨129, (.pair (.sl 275 (.pair (.int .i64) (.int .i64))) (.pair (.sl 275 (.pair (.int .i64) (.int .i64))) (.pair (.pair (.int .i64) (.pair (.int .i64) (.int .i64))) (.pair (.int .i64) (.int .i64))))), a5, .ro⟩, ⟨250, (.pair (.int .i64) (.pair (.int .i64) (.int .i64))), a6, .ro⟩, ⟨252, (.pair (.int .i64) (.pair (.int .i64) (.pair (.int .i64) (.pair (.int .i64) (.int .i64))))), a7, .ro⟩] K137 = S.ConfOk a1 a2 a3 a4 a5 a6 a7 := by kernel_rfl
theorem good137 : Vm.Good Try.prog 137 E137 := by
  refine evF_good (G := G137) (c := c137) (envCons_good good103 (envCons_good good159 (envCons_good good138 (envCons_good good173 (envCons_good good201 envNil_good))))) Try.func137 (by kernel_rfl) (by kernel_rfl) (0, 0) (fun args bs rs out t h h2 => ?_)
  unfold E137 at h
  split at h
  · injection h with h
    subst h
    exact ⟨rfl, L137, K137, lp137, (fun r t h => by unfold K137 at h; split at h; (injection h with h; subst h; rfl); cases h), (ev137 _ _ _ _ _ _ _).trans h2⟩
  · cases h
/-! ### S.l01Le -/
noncomputable def G139 : Env := (envCons 181 [] E181 envNil)
noncomputable def c139 : Code := bodyOf Try.f139
noncomputable def S.l01Le (a1 a2 a3 : Int) (a4 : List Int) : Option Bool :=
(bif decide ((0 : Int) ≤ a2 ∧ a2 < (a4.length : Int)) then
(Option.bind (S.l01Bit (nthI a4 a2 (0 : Int)) a3) fun r5 =>
(some r5))
else
none)
noncomputable def R139 (x : Bool) : Res := ⟨[.one (ab x)], [], []⟩
noncomputable def K139 (r : Res) : Option Bool :=
  match r with
  | ⟨[.one (.val (.bool v1))], [], []⟩ => some (v1)
  | _ => none
noncomputable def E139 : Fun2 := fun args bs rs =>
  match args, bs, rs with
  | [.s1 (.agg [.val (.int .i64 a1), .sl 0]), .s1 (.one (.val (.int .i64 a2))), .s1 (.one (.val (.int .i64 a3)))], [], [⟨117, (.int .u64), a4, .ro⟩] => some ⟨Bool, S.l01Le a1 a2 a3 a4, R139⟩
  | _, _, _ => none
theorem ev139 (a1 a2 a3 : Int) (a4 : List Int) : evF Try.prog G139 loopNil (0, 0) Try.f139 c139 [.s1 (.agg [ai a1, .sl 0]), vi a2, vi a3] [] [⟨117, (.int .u64), a4, .ro⟩] K139 = S.l01Le a1 a2 a3 a4 := by kernel_rfl
theorem good139 : Vm.Good Try.prog 139 E139 := by
  refine evF_good (G := G139) (c := c139) (envCons_good good181 envNil_good) Try.func139 (by kernel_rfl) (by kernel_rfl) (0, 0) (fun args bs rs out t h h2 => ?_)
  unfold E139 at h
  split at h
  · injection h with h
    subst h
    exact ⟨rfl, loopNil, K139, (by intro x hx; simp [show loopsOf c139 = [] from by kernel_rfl] at hx), (fun r t h => by unfold K139 at h; split at h; (injection h with h; subst h; rfl); cases h), (ev139 _ _ _ _).trans h2⟩
  · cases h
/-! ### S.SeenBy -/
noncomputable def G63 : Env := (envCons 137 [] E137 (envCons 138 [] E138 (envCons 139 [] E139 envNil)))
noncomputable def c63 : Code := bodyOf Try.f63
noncomputable def c63_5 : Code := (loopsOf c63).getD 0 .skip
noncomputable def S.SeenBy_l0 : Nat → ((List (Int × (Int × Int × Int × Int) × Int)) → Option ((List (Int × (Int × Int × Int × Int) × Int)))) → Int → Int → Int → Int → Int → (List (Int × (Int × Int × Int × Int) × Int)) → (List (Int × (Int × Int × Int × Int) × Int)) → List Int → (List (List (Int × Int) × List (Int × Int) × (Int × Int × Int) × Int × Int)) → (List (Int × Int × Int)) → (List (Int × Int × Int × Int × Int)) → Option ((List (Int × (Int × Int × Int × Int) × Int)))
  | 0, _, _, _, _, _, _, _, _, _, _, _, _ => none
  | m + 1, e5_0, a12, a13, a14, a15, a16, a17, a18, a19, a20, a21, a22 =>
    (bif (decide (a13 < (a17.length : Int))) then
    (bif decide ((0 : Int) ≤ a13 ∧ a13 < (a17.length : Int)) then
    (Option.bind (S.l01Here a14 ((nthI a17 a13 ((0 : Int), (((0 : Int), ((0 : Int), ((0 : Int), (0 : Int)))), (0 : Int)))).2.2) a19) fun r25 =>
    (bif r25 then
    (bif decide ((0 : Int) ≤ a13 ∧ a13 < (a17.length : Int)) then
    (Option.bind (S.l01Le a14 ((nthI a17 a13 ((0 : Int), (((0 : Int), ((0 : Int), ((0 : Int), (0 : Int)))), (0 : Int)))).2.2) a12 a19) fun r26 =>
    (bif r26 then
    (bif decide ((0 : Int) ≤ a13 ∧ a13 < (a17.length : Int)) then
    (let v27 : List (Int × (Int × Int × Int × Int) × Int) := [((nthI a17 a13 ((0 : Int), (((0 : Int), ((0 : Int), ((0 : Int), (0 : Int)))), (0 : Int)))).1, (((nthI a17 a13 ((0 : Int), (((0 : Int), ((0 : Int), ((0 : Int), (0 : Int)))), (0 : Int)))).2.1.1, ((nthI a17 a13 ((0 : Int), (((0 : Int), ((0 : Int), ((0 : Int), (0 : Int)))), (0 : Int)))).2.1.2.1, ((nthI a17 a13 ((0 : Int), (((0 : Int), ((0 : Int), ((0 : Int), (0 : Int)))), (0 : Int)))).2.1.2.2.1, (nthI a17 a13 ((0 : Int), (((0 : Int), ((0 : Int), ((0 : Int), (0 : Int)))), (0 : Int)))).2.1.2.2.2))), (nthI a17 a13 ((0 : Int), (((0 : Int), ((0 : Int), ((0 : Int), (0 : Int)))), (0 : Int)))).2.2))]
    (bif decide ((a18.length + v27.length) * 48 ≤ 140737488355328) then
    (S.SeenBy_l0 m e5_0 a12 (IntKind.wrap .i64 (a13 + 1)) a14 a15 a16 a17 (a18 ++ v27) a19 a20 a21 a22)
    else
    none))
    else
    none)
    else
    (S.SeenBy_l0 m e5_0 a12 (IntKind.wrap .i64 (a13 + 1)) a14 a15 a16 a17 a18 a19 a20 a21 a22)))
    else
    none)
    else
    (S.SeenBy_l0 m e5_0 a12 (IntKind.wrap .i64 (a13 + 1)) a14 a15 a16 a17 a18 a19 a20 a21 a22)))
    else
    none)
    else
    (e5_0 a18))
noncomputable def S.SeenBy (a1 a2 a3 a4 : Int) (a5 : List Int) (a6 : List (List (Int × Int) × List (Int × Int) × (Int × Int × Int) × Int × Int)) (a7 : List (Int × Int × Int)) (a8 : List (Int × Int × Int × Int × Int)) (a9 : List (Int × (Int × Int × Int × Int) × Int)) : Option ((List (Int × (Int × Int × Int × Int) × Int))) :=
(Option.bind (S.ConfOk a1 a2 a3 a5 a6 a7 a8) fun r10 =>
(bif (!r10) then
(some [])
else
(Option.bind (S.l01Here a1 a4 a5) fun r11 =>
(bif (!r11) then
(some [])
else
(S.SeenBy_l0 fu (fun y31 =>
(some y31)) a4 0 a1 a2 a3 a9 [] a5 a6 a7 a8)))))
noncomputable def H63_5 : LoopH := ⟨⟨((.one (.unk)) :: (.one (.sl 0)) :: hh :: (.one (.ptr 0 0)) :: (hu 3 ((.one (.sl 1)) :: hh :: (hu 45 [])))), [(100, [.hole, .sl 2, .hole, .hole, .sl 3, .sl 4, .sl 5])], [(196, (.pair (.int .i64) (.pair (.pair (.int .i64) (.pair (.int .i64) (.pair (.int .i64) (.int .i64)))) (.int .i64))), .ro), (196, (.pair (.int .i64) (.pair (.pair (.int .i64) (.pair (.int .i64) (.pair (.int .i64) (.int .i64)))) (.int .i64))), .own), (117, (.int .u64), .ro), (129, (.pair (.sl 275 (.pair (.int .i64) (.int .i64))) (.pair (.sl 275 (.pair (.int .i64) (.int .i64))) (.pair (.pair (.int .i64) (.pair (.int .i64) (.int .i64))) (.pair (.int .i64) (.int .i64))))), .ro), (250, (.pair (.int .i64) (.pair (.int .i64) (.int .i64))), .ro), (252, (.pair (.int .i64) (.pair (.int .i64) (.pair (.int .i64) (.pair (.int .i64) (.int .i64))))), .ro)]⟩, [0, 4, 5, 6, 9, 10, 11, 12, 13, 14, 15, 16, 17, 18, 19, 20, 21, 22, 23, 24, 25, 26, 27, 28, 29, 30, 31, 32, 33, 34, 35, 36, 37, 38, 39, 40, 41, 42, 43, 44, 45, 46, 47, 48, 49, 50, 51, 52, 53], [], [0, 1, 2, 3, 4, 5, 8, 9, 10, 11, 12, 13, 14, 15, 16, 17, 18, 19, 20, 21, 22, 23, 24, 25, 26, 27, 28, 29, 30, 31, 32, 33, 34, 35, 36, 37, 38, 39, 40, 41, 42, 43, 44, 45, 46, 47, 48, 49, 50, 51, 52, 53]⟩
noncomputable def E63_5 (m : Nat) (ps : List Prm) (k : Kont ((List (Int × (Int × Int × Int × Int) × Int)))) : Option ((List (Int × (Int × Int × Int × Int) × Int))) :=
  match ps with
  | [.v (.int .i64 a12), .v (.int .i64 a13), .v (.int .i64 a14), .v (.int .i64 a15), .v (.int .i64 a16), .row (.pair (.int .i64) (.pair (.pair (.int .i64) (.pair (.int .i64) (.pair (.int .i64) (.int .i64)))) (.int .i64))) a17, .row (.pair (.int .i64) (.pair (.pair (.int .i64) (.pair (.int .i64) (.pair (.int .i64) (.int .i64)))) (.int .i64))) a18, .row (.int .u64) a19, .row (.pair (.sl 275 (.pair (.int .i64) (.int .i64))) (.pair (.sl 275 (.pair (.int .i64) (.int .i64))) (.pair (.pair (.int .i64) (.pair (.int .i64) (.int .i64))) (.pair (.int .i64) (.int .i64))))) a20, .row (.pair (.int .i64) (.pair (.int .i64) (.int .i64))) a21, .row (.pair (.int .i64) (.pair (.int .i64) (.pair (.int .i64) (.pair (.int .i64) (.int .i64))))) a22] => S.SeenBy_l0 m (fun z33 => k (.exit 0) (⟨(vu 7 ((vl 0) :: (vu 46 []))), [], [⟨196, (.pair (.int .i64) (.pair (.pair (.int .i64) (.pair (.int .i64) (.pair (.int .i64) (.int .i64)))) (.int .i64))), z33, .own⟩]⟩ : St)) a12 a13 a14 a15 a16 a17 a18 a19 a20 a21 a22
  | _ => none
noncomputable def S63_5 (a12 a13 a14 a15 a16 : Int) (a17 a18 : List (Int × (Int × Int × Int × Int) × Int)) (a19 : List Int) (a20 : List (List (Int × Int) × List (Int × Int) × (Int × Int × Int) × Int × Int)) (a21 : List (Int × Int × Int)) (a22 : List (Int × Int × Int × Int × Int)) : St := (⟨((.s1 (.one (.unk))) :: (vl 0) :: (vi a12) :: (vp 0 0) :: (vu 3 ((vl 1) :: (vi a13) :: (vu 45 [])))), [(100, [ai a14, .sl 2, ai a15, ai a16, .sl 3, .sl 4, .sl 5])], [⟨196, (.pair (.int .i64) (.pair (.pair (.int .i64) (.pair (.int .i64) (.pair (.int .i64) (.int .i64)))) (.int .i64))), a17, .ro⟩, ⟨196, (.pair (.int .i64) (.pair (.pair (.int .i64) (.pair (.int .i64) (.pair (.int .i64) (.int .i64)))) (.int .i64))), a18, .own⟩, ⟨117, (.int .u64), a19, .ro⟩, ⟨129, (.pair (.sl 275 (.pair (.int .i64) (.int .i64))) (.pair (.sl 275 (.pair (.int .i64) (.int .i64))) (.pair (.pair (.int .i64) (.pair (.int .i64) (.int .i64))) (.pair (.int .i64) (.int .i64))))), a20, .ro⟩, ⟨250, (.pair (.int .i64) (.pair (.int .i64) (.int .i64))), a21, .ro⟩, ⟨252, (.pair (.int .i64) (.pair (.int .i64) (.pair (.int .i64) (.pair (.int .i64) (.int .i64))))), a22, .ro⟩]⟩ : St)
theorem ev63_5 (m : Nat) (k : Kont ((List (Int × (Int × Int × Int × Int) × Int)))) (a12 a13 a14 a15 a16 : Int) (a17 a18 : List (Int × (Int × Int × Int × Int) × Int)) (a19 : List Int) (a20 : List (List (Int × Int) × List (Int × Int) × (Int × Int × Int) × Int × Int)) (a21 : List (Int × Int × Int)) (a22 : List (Int × Int × Int × Int × Int)) : evC Try.prog G63 loopNil c63_5 (S63_5 a12 a13 a14 a15 a16 a17 a18 a19 a20 a21 a22) (turn Try.prog (0, 0) H63_5 (E63_5 m) k) = E63_5 (m + 1) [.v (.int .i64 a12), .v (.int .i64 a13), .v (.int .i64 a14), .v (.int .i64 a15), .v (.int .i64 a16), .row (.pair (.int .i64) (.pair (.pair (.int .i64) (.pair (.int .i64) (.pair (.int .i64) (.int .i64)))) (.int .i64))) a17, .row (.pair (.int .i64) (.pair (.pair (.int .i64) (.pair (.int .i64) (.pair (.int .i64) (.int .i64)))) (.int .i64))) a18, .row (.int .u64) a19, .row (.pair (.sl 275 (.pair (.int .i64) (.int .i64))) (.pair (.sl 275 (.pair (.int .i64) (.int .i64))) (.pair (.pair (.int .i64) (.pair (.int .i64) (.int .i64))) (.pair (.int .i64) (.int .i64))))) a20, .row (.pair (.int .i64) (.pair (.int .i64) (.int .i64))) a21, .row (.pair (.int .i64) (.pair (.int .i64) (.pair (.int .i64) (.pair (.int .i64) (.int .i64))))) a22] k := by kernel_rfl
theorem ok63_5 (m : Nat) : LoopOk Try.prog (0, 0) c63_5 (enter Try.prog (0, 0) H63_5 (E63_5 m)) := by
  refine loop_ok (G := G63) (L := loopNil) (envCons_good good137 (envCons_good good138 (envCons_good good139 envNil_good))) (by intro x hx; simp [show loopsOf c63_5 = [] from by kernel_rfl] at hx) (fun ps k => by unfold E63_5; split <;> rfl) (fun m ps k r h => ?_) m
  have h0 := h
  unfold E63_5 at h
  split at h
  · exact ⟨S63_5 _ _ _ _ _ _ _ _ _ _ _, by kernel_rfl, (ev63_5 m k _ _ _ _ _ _ _ _ _ _ _).trans h0⟩
  · cases h
noncomputable def L63 : LEnv ((List (Int × (Int × Int × Int × Int) × Int))) := (loopCons 5 (enter Try.prog (0, 0) H63_5 (E63_5 fu)) loopNil)
theorem lq63 : loopsOf c63 = [c63_5] := by kernel_rfl
theorem fr63_5 : firstReg c63_5 = some 5 := by kernel_rfl
theorem le63_5 : L63 5 = enter Try.prog (0, 0) H63_5 (E63_5 fu) := by kernel_rfl
theorem lm63 : ∀ x ∈ [c63_5], ∀ id, firstReg x = some id → LoopOk Try.prog (0, 0) x (L63 id) := (loops_cons fr63_5 le63_5 (ok63_5 fu) loops_nil)
theorem lp63 : ∀ x ∈ loopsOf c63, ∀ id, firstReg x = some id → LoopOk Try.prog (0, 0) x (L63 id) := loops_eq lq63 lm63
noncomputable def R63 (x : (List (Int × (Int × Int × Int × Int) × Int))) : Res := ⟨[.one (.sl 0)], [], [⟨196, (.pair (.int .i64) (.pair (.pair (.int .i64) (.pair (.int .i64) (.pair (.int .i64) (.int .i64)))) (.int .i64))), x, .own⟩]⟩
noncomputable def K63 (r : Res) : Option ((List (Int × (Int × Int × Int × Int) × Int))) :=
  match r with
  | ⟨[.one (.sl 0)], [], [⟨196, (.pair (.int .i64) (.pair (.pair (.int .i64) (.pair (.int .i64) (.pair (.int .i64) (.int .i64)))) (.int .i64))), v1, .own⟩]⟩ => some (v1)
  | _ => none
noncomputable def E63 : Fun2 := fun args bs rs =>
  match args, bs, rs with
  | [.s1 (.agg [.val (.int .i64 a1), .sl 0, .val (.int .i64 a2), .val (.int .i64 a3), .sl 1, .sl 2, .sl 3]), .s1 (.one (.sl 4)), .s1 (.one (.val (.int .i64 a4)))], [], [⟨117, (.int .u64), a5, .ro⟩, ⟨129, (.pair (.sl 275 (.pair (.int .i64) (.int .i64))) (.pair (.sl 275 (.pair (.int .i64) (.int .i64))) (.pair (.pair (.int .i64) (.pair (.int .i64) (.int .i64))) (.pair (.int .i64) (.int .i64))))), a6, .ro⟩, ⟨250, (.pair (.int .i64) (.pair (.int .i64) (.int .i64))), a7, .ro⟩, ⟨252, (.pair (.int .i64) (.pair (.int .i64) (.pair (.int .i64) (.pair (.int .i64) (.int .i64))))), a8, .ro⟩, ⟨196, (.pair (.int .i64) (.pair (.pair (.int .i64) (.pair (.int .i64) (.pair (.int .i64) (.int .i64)))) (.int .i64))), a9, .ro⟩] => some ⟨(List (Int × (Int × Int × Int × Int) × Int)), S.SeenBy a1 a2 a3 a4 a5 a6 a7 a8 a9, R63⟩
  | _, _, _ => none
theorem ev63 (a1 a2 a3 a4 : Int) (a5 : List Int) (a6 : List (List (Int × Int) × List (Int × Int) × (Int × Int × Int) × Int × Int)) (a7 : List (Int × Int × Int)) (a8 : List (Int × Int × Int × Int × Int)) (a9 : List (Int × (Int × Int × Int × Int) × Int)) : evF Try.prog G63 L63 (0, 0) Try.f63 c63 [.s1 (.agg [ai a1, .sl 0, ai a2, ai a3, .sl 1, .sl 2, .sl 3]), vl 4, vi a4] [] [⟨117, (.int .u64), a5, .ro⟩, ⟨129, (.pair (.sl 275 (.pair (.int .i64) (.int .i64))) (.pair (.sl 275 (.pair (.int .i64) (.int .i64))) (.pair (.pair (.int .i64) (.pair (.int .i64) (.int .i64))) (.pair (.int .i64) (.int .i64))))), a6, .ro⟩, ⟨250, (.pair (.int .i64) (.pair (.int .i64) (.int .i64))), a7, .ro⟩, ⟨252, (.pair (.int .i64) (.pair (.int .i64) (.pair (.int .i64) (.pair (.int .i64) (.int .i64))))), a8, .ro⟩, ⟨196, (.pair (.int .i64) (.pair (.pair (.int .i64) (.pair (.int .i64) (.pair (.int .i64) (.int .i64)))) (.int .i64))), a9, .ro⟩] K63 = S.SeenBy a1 a2 a3 a4 a5 a6 a7 a8 a9 := by kernel_rfl
theorem good63 : Vm.Good Try.prog 63 E63 := by
  refine evF_good (G := G63) (c := c63) (envCons_good good137 (envCons_good good138 (envCons_good good139 envNil_good))) Try.func63 (by kernel_rfl) (by kernel_rfl) (0, 0) (fun args bs rs out t h h2 => ?_)
  unfold E63 at h
  split at h
  · injection h with h
    subst h
    exact ⟨rfl, L63, K63, lp63, (fun r t h => by unfold K63 at h; split at h; (injection h with h; subst h; rfl); cases h), (ev63 _ _ _ _ _ _ _ _ _).trans h2⟩
  · cases h
/-! ### I.in -/
noncomputable def G178 : Env := envNil
noncomputable def c178 : Code := bodyOf Try.f178
noncomputable def I.in (a1 a2 a3 : Int) : Option Bool :=
(bif (decide (a2 ≤ a1)) then
(some (decide (a1 ≤ a3)))
else
(some false))
noncomputable def R178 (x : Bool) : Res := ⟨[.one (ab x)], [], []⟩
noncomputable def K178 (r : Res) : Option Bool :=
  match r with
  | ⟨[.one (.val (.bool v1))], [], []⟩ => some (v1)
  | _ => none
noncomputable def E178 : Fun2 := fun args bs rs =>
  match args, bs, rs with
  | [.s1 (.one (.val (.int .i64 a1))), .s1 (.one (.val (.int .i64 a2))), .s1 (.one (.val (.int .i64 a3)))], [], [] => some ⟨Bool, I.in a1 a2 a3, R178⟩
  | _, _, _ => none
theorem ev178 (a1 a2 a3 : Int) : evF Try.prog G178 loopNil (0, 0) Try.f178 c178 [vi a1, vi a2, vi a3] [] [] K178 = I.in a1 a2 a3 := by kernel_rfl
theorem good178 : Vm.Good Try.prog 178 E178 := by
  refine evF_good (G := G178) (c := c178) envNil_good Try.func178 (by kernel_rfl) (by kernel_rfl) (0, 0) (fun args bs rs out t h h2 => ?_)
  unfold E178 at h
  split at h
  · injection h with h
    subst h
    exact ⟨rfl, loopNil, K178, (by intro x hx; simp [show loopsOf c178 = [] from by kernel_rfl] at hx), (fun r t h => by unfold K178 at h; split at h; (injection h with h; subst h; rfl); cases h), (ev178 _ _ _).trans h2⟩
  · cases h
/-! ### I.Lat_le -/
noncomputable def G146 : Env := envNil
noncomputable def c146 : Code := bodyOf Try.f146
noncomputable def I.Lat_le (a1 a2 a3 : Int) (a4 : List Int) : Option Bool :=
(bif decide ((0 : Int) ≤ a2 ∧ a2 < (a4.length : Int)) then
(bif decide ((0 : Int) ≤ a3) then
(let v5 : Int := (Int.fdiv (nthI a4 a2 (0 : Int)) (2 ^ min (Int.toNat a3) (IntKind.bits .u64)))
(some ((Go.bits .and .u64 v5 1) == 1)))
else
none)
else
none)
noncomputable def R146 (x : Bool) : Res := ⟨[.one (ab x)], [], []⟩
noncomputable def K146 (r : Res) : Option Bool :=
  match r with
  | ⟨[.one (.val (.bool v1))], [], []⟩ => some (v1)
  | _ => none
noncomputable def E146 : Fun2 := fun args bs rs =>
  match args, bs, rs with
  | [.s1 (.agg [.val (.int .i64 a1), .sl 0]), .s1 (.one (.val (.int .i64 a2))), .s1 (.one (.val (.int .i64 a3)))], [], [⟨117, (.int .u64), a4, .ro⟩] => some ⟨Bool, I.Lat_le a1 a2 a3 a4, R146⟩
  | _, _, _ => none
theorem ev146 (a1 a2 a3 : Int) (a4 : List Int) : evF Try.prog G146 loopNil (0, 0) Try.f146 c146 [.s1 (.agg [ai a1, .sl 0]), vi a2, vi a3] [] [⟨117, (.int .u64), a4, .ro⟩] K146 = I.Lat_le a1 a2 a3 a4 := by kernel_rfl
theorem good146 : Vm.Good Try.prog 146 E146 := by
  refine evF_good (G := G146) (c := c146) envNil_good Try.func146 (by kernel_rfl) (by kernel_rfl) (0, 0) (fun args bs rs out t h h2 => ?_)
  unfold E146 at h
  split at h
  · injection h with h
    subst h
    exact ⟨rfl, loopNil, K146, (by intro x hx; simp [show loopsOf c146 = [] from by kernel_rfl] at hx), (fun r t h => by unfold K146 at h; split at h; (injection h with h; subst h; rfl); cases h), (ev146 _ _ _ _).trans h2⟩
  · cases h
/-! ### I.Lat_isOrder -/
noncomputable def G184 : Env := (envCons 146 [] E146 envNil)
noncomputable def c184 : Code := bodyOf Try.f184
noncomputable def c184_2 : Code := (loopsOf c184).getD 0 .skip
noncomputable def c184_7 : Code := (loopsOf c184_2).getD 0 .skip
noncomputable def c184_12 : Code := (loopsOf c184_7).getD 0 .skip
noncomputable def I.Lat_isOrder_l2 : Nat → (Bool → Int → Int → Int → Int → Int → Int → List Int → Option Bool) → (Int → Int → Int → Int → Int → Int → List Int → Option Bool) → Int → Int → Int → Int → Int → Int → Int → Int → Int → List Int → Option Bool
  | 0, _, _, _, _, _, _, _, _, _, _, _, _ => none
  | m + 1, e12_0, e12_1, a19, a20, a21, a22, a23, a24, a25, a26, a27, a28 =>
    (bif (decide (a26 < a25)) then
    (Option.bind (I.Lat_le a27 a19 a20 a28) fun r30 =>
    (bif r30 then
    (Option.bind (I.Lat_le a27 a20 a26 a28) fun r31 =>
    (bif r31 then
    (Option.bind (I.Lat_le a27 a19 a26 a28) fun r32 =>
    (bif (!r32) then
    (e12_0 false a19 a21 a22 a23 a24 a27 a28)
    else
    (I.Lat_isOrder_l2 m e12_0 e12_1 a19 a20 a21 a22 a23 a24 a25 (IntKind.wrap .i64 (a26 + 1)) a27 a28)))
    else
    (I.Lat_isOrder_l2 m e12_0 e12_1 a19 a20 a21 a22 a23 a24 a25 (IntKind.wrap .i64 (a26 + 1)) a27 a28)))
    else
    (I.Lat_isOrder_l2 m e12_0 e12_1 a19 a20 a21 a22 a23 a24 a25 (IntKind.wrap .i64 (a26 + 1)) a27 a28)))
    else
    (e12_1 a19 a21 a22 a23 a24 a27 a28))
noncomputable def I.Lat_isOrder_l1 : Nat → (Bool → Int → Int → Int → List Int → Option Bool) → (Int → Int → Int → List Int → Option Bool) → Int → Int → Int → Int → Int → Int → List Int → Option Bool
  | 0, _, _, _, _, _, _, _, _, _ => none
  | m + 1, e7_0, e7_1, a9, a10, a11, a12, a13, a14, a15 =>
    (bif (decide (a13 < a12)) then
    (bif (a9 != a13) then
    (Option.bind (I.Lat_le a14 a9 a13 a15) fun r17 =>
    (bif r17 then
    (Option.bind (I.Lat_le a14 a13 a9 a15) fun r18 =>
    (bif r18 then
    (e7_0 false a10 a11 a14 a15)
    else
    (I.Lat_isOrder_l2 fu (fun y36 y37 y38 y39 y40 y41 y42 y43 =>
    (e7_0 y36 y38 y39 y42 y43)) (fun y44 y45 y46 y47 y48 y49 y50 =>
    (I.Lat_isOrder_l1 m e7_0 e7_1 y44 y45 y46 y47 (IntKind.wrap .i64 (y48 + 1)) y49 y50)) a9 a13 a10 a11 a12 a13 a14 0 a14 a15)))
    else
    (I.Lat_isOrder_l2 fu (fun y52 y53 y54 y55 y56 y57 y58 y59 =>
    (e7_0 y52 y54 y55 y58 y59)) (fun y60 y61 y62 y63 y64 y65 y66 =>
    (I.Lat_isOrder_l1 m e7_0 e7_1 y60 y61 y62 y63 (IntKind.wrap .i64 (y64 + 1)) y65 y66)) a9 a13 a10 a11 a12 a13 a14 0 a14 a15)))
    else
    (I.Lat_isOrder_l2 fu (fun y68 y69 y70 y71 y72 y73 y74 y75 =>
    (e7_0 y68 y70 y71 y74 y75)) (fun y76 y77 y78 y79 y80 y81 y82 =>
    (I.Lat_isOrder_l1 m e7_0 e7_1 y76 y77 y78 y79 (IntKind.wrap .i64 (y80 + 1)) y81 y82)) a9 a13 a10 a11 a12 a13 a14 0 a14 a15))
    else
    (e7_1 a10 a11 a14 a15))
noncomputable def I.Lat_isOrder_l0 : Nat → (Bool → Option Bool) → (Option Bool) → Int → Int → Int → List Int → Option Bool
  | 0, _, _, _, _, _, _ => none
  | m + 1, e2_0, e2_1, a3, a4, a5, a6 =>
    (bif (decide (a4 < a3)) then
    (Option.bind (I.Lat_le a5 a4 a4 a6) fun r8 =>
    (bif (!r8) then
    (e2_0 false)
    else
    (I.Lat_isOrder_l1 fu (fun y84 y85 y86 y87 y88 =>
    (e2_0 y84)) (fun y89 y90 y91 y92 =>
    (I.Lat_isOrder_l0 m e2_0 e2_1 y89 (IntKind.wrap .i64 (y90 + 1)) y91 y92)) a4 a3 a4 a5 0 a5 a6)))
    else
    e2_1)
noncomputable def I.Lat_isOrder (a1 : Int) (a2 : List Int) : Option Bool :=
(I.Lat_isOrder_l0 fu (fun y94 =>
(some y94)) (some true) a1 0 a1 a2)
noncomputable def H184_12 : LoopH := ⟨⟨((.one (.unk)) :: (.one (.ptr 0 0)) :: (.one (.unk)) :: hh :: hh :: (hu 2 (hh :: hh :: (hu 8 (hh :: hh :: (hu 18 (hh :: hh :: (hu 22 [])))))))), [(51, [.hole, .sl 0])], [(117, (.int .u64), .ro)]⟩, [0, 2, 5, 6, 9, 10, 11, 12, 13, 14, 15, 16, 19, 20, 21, 22, 23, 24, 25, 26, 27, 28, 29, 30, 31, 32, 33, 34, 35, 36, 39, 40, 41, 42, 43, 44, 45, 46, 47, 48, 49, 50, 51, 52, 53, 54, 55, 56, 57, 58, 59, 60], [], [0, 4, 5, 6, 9, 10, 11, 12, 13, 14, 15, 16, 19, 20, 21, 22, 23, 24, 25, 26, 27, 28, 29, 30, 31, 32, 33, 34, 35, 36, 37, 38, 39, 40, 41, 42, 43, 44, 45, 46, 47, 48, 49, 50, 51, 52, 53, 54, 55, 56, 57, 58, 59, 60]⟩
noncomputable def E184_12 (m : Nat) (ps : List Prm) (k : Kont Bool) : Option Bool :=
  match ps with
  | [.v (.int .i64 a19), .v (.int .i64 a20), .v (.int .i64 a21), .v (.int .i64 a22), .v (.int .i64 a23), .v (.int .i64 a24), .v (.int .i64 a25), .v (.int .i64 a26), .v (.int .i64 a27), .row (.int .u64) a28] => I.Lat_isOrder_l2 m (fun z120 z121 z122 z123 z124 z125 z126 z127 => k .ret (⟨((.s1 (.one (.unk))) :: (vp 0 0) :: (vb z120) :: (vi z121) :: (vu 3 ((vi z122) :: (vi z123) :: (vu 8 ((vi z124) :: (vi z125) :: (vu 42 [])))))), [(51, [ai z126, .sl 0])], [⟨117, (.int .u64), z127, .ro⟩]⟩ : St)) (fun z128 z129 z130 z131 z132 z133 z134 => k (.exit 4) (⟨((.s1 (.one (.unk))) :: (vp 0 0) :: (.s1 (.one (.unk))) :: (vi z128) :: (vu 3 ((vi z129) :: (vi z130) :: (vu 8 ((vi z131) :: (vi z132) :: (vu 42 [])))))), [(51, [ai z133, .sl 0])], [⟨117, (.int .u64), z134, .ro⟩]⟩ : St)) a19 a20 a21 a22 a23 a24 a25 a26 a27 a28
  | _ => none
noncomputable def S184_12 (a19 a20 a21 a22 a23 a24 a25 a26 a27 : Int) (a28 : List Int) : St := (⟨((.s1 (.one (.unk))) :: (vp 0 0) :: (.s1 (.one (.unk))) :: (vi a19) :: (vi a20) :: (vu 2 ((vi a21) :: (vi a22) :: (vu 8 ((vi a23) :: (vi a24) :: (vu 18 ((vi a25) :: (vi a26) :: (vu 22 [])))))))), [(51, [ai a27, .sl 0])], [⟨117, (.int .u64), a28, .ro⟩]⟩ : St)
theorem ev184_12 (m : Nat) (k : Kont Bool) (a19 a20 a21 a22 a23 a24 a25 a26 a27 : Int) (a28 : List Int) : evC Try.prog G184 loopNil c184_12 (S184_12 a19 a20 a21 a22 a23 a24 a25 a26 a27 a28) (turn Try.prog (0, 0) H184_12 (E184_12 m) k) = E184_12 (m + 1) [.v (.int .i64 a19), .v (.int .i64 a20), .v (.int .i64 a21), .v (.int .i64 a22), .v (.int .i64 a23), .v (.int .i64 a24), .v (.int .i64 a25), .v (.int .i64 a26), .v (.int .i64 a27), .row (.int .u64) a28] k := by kernel_rfl
theorem ok184_12 (m : Nat) : LoopOk Try.prog (0, 0) c184_12 (enter Try.prog (0, 0) H184_12 (E184_12 m)) := by
  refine loop_ok (G := G184) (L := loopNil) (envCons_good good146 envNil_good) (by intro x hx; simp [show loopsOf c184_12 = [] from by kernel_rfl] at hx) (fun ps k => by unfold E184_12; split <;> rfl) (fun m ps k r h => ?_) m
  have h0 := h
  unfold E184_12 at h
  split at h
  · exact ⟨S184_12 _ _ _ _ _ _ _ _ _ _, by kernel_rfl, (ev184_12 m k _ _ _ _ _ _ _ _ _ _).trans h0⟩
  · cases h
noncomputable def L184_7 : LEnv Bool := (loopCons 12 (enter Try.prog (0, 0) H184_12 (E184_12 fu)) loopNil)
theorem lq184_7 : loopsOf c184_7 = [c184_12] := by kernel_rfl
theorem fr184_12 : firstReg c184_12 = some 12 := by kernel_rfl
theorem le184_12 : L184_7 12 = enter Try.prog (0, 0) H184_12 (E184_12 fu) := by kernel_rfl
theorem lm184_7 : ∀ x ∈ [c184_12], ∀ id, firstReg x = some id → LoopOk Try.prog (0, 0) x (L184_7 id) := (loops_cons fr184_12 le184_12 (ok184_12 fu) loops_nil)
theorem lp184_7 : ∀ x ∈ loopsOf c184_7, ∀ id, firstReg x = some id → LoopOk Try.prog (0, 0) x (L184_7 id) := loops_eq lq184_7 lm184_7
noncomputable def H184_7 : LoopH := ⟨⟨((.one (.unk)) :: (.one (.ptr 0 0)) :: (.one (.unk)) :: hh :: (hu 3 (hh :: hh :: (hu 8 (hh :: hh :: (hu 42 [])))))), [(51, [.hole, .sl 0])], [(117, (.int .u64), .ro)]⟩, [0, 2, 4, 5, 6, 9, 10, 11, 12, 13, 14, 15, 16, 19, 20, 21, 22, 23, 24, 25, 26, 27, 28, 29, 30, 31, 32, 33, 34, 35, 36, 37, 38, 39, 40, 41, 42, 43, 44, 45, 46, 47, 48, 49, 50, 51, 52, 53, 54, 55, 56, 57, 58, 59, 60], [], [0, 3, 4, 5, 6, 9, 10, 11, 12, 13, 14, 15, 16, 17, 18, 19, 20, 21, 22, 23, 24, 25, 26, 27, 28, 29, 30, 31, 32, 33, 34, 35, 36, 37, 38, 39, 40, 41, 42, 43, 44, 45, 46, 47, 48, 49, 50, 51, 52, 53, 54, 55, 56, 57, 58, 59, 60]⟩
noncomputable def E184_7 (m : Nat) (ps : List Prm) (k : Kont Bool) : Option Bool :=
  match ps with
  | [.v (.int .i64 a9), .v (.int .i64 a10), .v (.int .i64 a11), .v (.int .i64 a12), .v (.int .i64 a13), .v (.int .i64 a14), .row (.int .u64) a15] => I.Lat_isOrder_l1 m (fun z135 z136 z137 z138 z139 => k .ret (⟨((.s1 (.one (.unk))) :: (vp 0 0) :: (vb z135) :: (vu 4 ((vi z136) :: (vi z137) :: (vu 52 [])))), [(51, [ai z138, .sl 0])], [⟨117, (.int .u64), z139, .ro⟩]⟩ : St)) (fun z140 z141 z142 z143 => k (.exit 2) (⟨((.s1 (.one (.unk))) :: (vp 0 0) :: (vu 5 ((vi z140) :: (vi z141) :: (vu 52 [])))), [(51, [ai z142, .sl 0])], [⟨117, (.int .u64), z143, .ro⟩]⟩ : St)) a9 a10 a11 a12 a13 a14 a15
  | _ => none
noncomputable def S184_7 (a9 a10 a11 a12 a13 a14 : Int) (a15 : List Int) : St := (⟨((.s1 (.one (.unk))) :: (vp 0 0) :: (.s1 (.one (.unk))) :: (vi a9) :: (vu 3 ((vi a10) :: (vi a11) :: (vu 8 ((vi a12) :: (vi a13) :: (vu 42 [])))))), [(51, [ai a14, .sl 0])], [⟨117, (.int .u64), a15, .ro⟩]⟩ : St)
theorem ev184_7 (m : Nat) (k : Kont Bool) (a9 a10 a11 a12 a13 a14 : Int) (a15 : List Int) : evC Try.prog G184 L184_7 c184_7 (S184_7 a9 a10 a11 a12 a13 a14 a15) (turn Try.prog (0, 0) H184_7 (E184_7 m) k) = E184_7 (m + 1) [.v (.int .i64 a9), .v (.int .i64 a10), .v (.int .i64 a11), .v (.int .i64 a12), .v (.int .i64 a13), .v (.int .i64 a14), .row (.int .u64) a15] k := by kernel_rfl
theorem ok184_7 (m : Nat) : LoopOk Try.prog (0, 0) c184_7 (enter Try.prog (0, 0) H184_7 (E184_7 m)) := by
  refine loop_ok (G := G184) (L := L184_7) (envCons_good good146 envNil_good) lp184_7 (fun ps k => by unfold E184_7; split <;> rfl) (fun m ps k r h => ?_) m
  have h0 := h
  unfold E184_7 at h
  split at h
  · exact ⟨S184_7 _ _ _ _ _ _ _, by kernel_rfl, (ev184_7 m k _ _ _ _ _ _ _).trans h0⟩
  · cases h
noncomputable def L184_2 : LEnv Bool := (loopCons 7 (enter Try.prog (0, 0) H184_7 (E184_7 fu)) loopNil)
theorem lq184_2 : loopsOf c184_2 = [c184_7] := by kernel_rfl
theorem fr184_7 : firstReg c184_7 = some 7 := by kernel_rfl
theorem le184_7 : L184_2 7 = enter Try.prog (0, 0) H184_7 (E184_7 fu) := by kernel_rfl
theorem lm184_2 : ∀ x ∈ [c184_7], ∀ id, firstReg x = some id → LoopOk Try.prog (0, 0) x (L184_2 id) := (loops_cons fr184_7 le184_7 (ok184_7 fu) loops_nil)
theorem lp184_2 : ∀ x ∈ loopsOf c184_2, ∀ id, firstReg x = some id → LoopOk Try.prog (0, 0) x (L184_2 id) := loops_eq lq184_2 lm184_2
noncomputable def H184_2 : LoopH := ⟨⟨((.one (.unk)) :: (.one (.ptr 0 0)) :: (hu 5 (hh :: hh :: (hu 52 [])))), [(51, [.hole, .sl 0])], [(117, (.int .u64), .ro)]⟩, [0, 2, 3, 4, 5, 6, 9, 10, 11, 12, 13, 14, 15, 16, 17, 18, 19, 20, 21, 22, 23, 24, 25, 26, 27, 28, 29, 30, 31, 32, 33, 34, 35, 36, 37, 38, 39, 40, 41, 42, 43, 44, 45, 46, 47, 48, 49, 50, 51, 52, 53, 54, 55, 56, 57, 58, 59, 60], [], [0, 1, 3, 4, 5, 6, 7, 8, 9, 10, 11, 12, 13, 14, 15, 16, 17, 18, 19, 20, 21, 22, 23, 24, 25, 26, 27, 28, 29, 30, 31, 32, 33, 34, 35, 36, 37, 38, 39, 40, 41, 42, 43, 44, 45, 46, 47, 48, 49, 50, 51, 52, 53, 54, 55, 56, 57, 58, 59, 60]⟩
noncomputable def E184_2 (m : Nat) (ps : List Prm) (k : Kont Bool) : Option Bool :=
  match ps with
  | [.v (.int .i64 a3), .v (.int .i64 a4), .v (.int .i64 a5), .row (.int .u64) a6] => I.Lat_isOrder_l0 m (fun z144 => k .ret (⟨(vu 2 ((vb z144) :: (vu 58 []))), [], []⟩ : St)) (k (.exit 0) (⟨(vu 61 []), [], []⟩ : St)) a3 a4 a5 a6
  | _ => none
noncomputable def S184_2 (a3 a4 a5 : Int) (a6 : List Int) : St := (⟨((.s1 (.one (.unk))) :: (vp 0 0) :: (vu 5 ((vi a3) :: (vi a4) :: (vu 52 [])))), [(51, [ai a5, .sl 0])], [⟨117, (.int .u64), a6, .ro⟩]⟩ : St)
theorem ev184_2 (m : Nat) (k : Kont Bool) (a3 a4 a5 : Int) (a6 : List Int) : evC Try.prog G184 L184_2 c184_2 (S184_2 a3 a4 a5 a6) (turn Try.prog (0, 0) H184_2 (E184_2 m) k) = E184_2 (m + 1) [.v (.int .i64 a3), .v (.int .i64 a4), .v (.int .i64 a5), .row (.int .u64) a6] k := by kernel_rfl
theorem ok184_2 (m : Nat) : LoopOk Try.prog (0, 0) c184_2 (enter Try.prog (0, 0) H184_2 (E184_2 m)) := by
  refine loop_ok (G := G184) (L := L184_2) (envCons_good good146 envNil_good) lp184_2 (fun ps k => by unfold E184_2; split <;> rfl) (fun m ps k r h => ?_) m
  have h0 := h
  unfold E184_2 at h
  split at h
  · exact ⟨S184_2 _ _ _ _, by kernel_rfl, (ev184_2 m k _ _ _ _).trans h0⟩
  · cases h
noncomputable def L184 : LEnv Bool := (loopCons 2 (enter Try.prog (0, 0) H184_2 (E184_2 fu)) loopNil)
theorem lq184 : loopsOf c184 = [c184_2] := by kernel_rfl
theorem fr184_2 : firstReg c184_2 = some 2 := by kernel_rfl
theorem le184_2 : L184 2 = enter Try.prog (0, 0) H184_2 (E184_2 fu) := by kernel_rfl
theorem lm184 : ∀ x ∈ [c184_2], ∀ id, firstReg x = some id → LoopOk Try.prog (0, 0) x (L184 id) := (loops_cons fr184_2 le184_2 (ok184_2 fu) loops_nil)
theorem lp184 : ∀ x ∈ loopsOf c184, ∀ id, firstReg x = some id → LoopOk Try.prog (0, 0) x (L184 id) := loops_eq lq184 lm184
noncomputable def R184 (x : Bool) : Res := ⟨[.one (ab x)], [], []⟩
noncomputable def K184 (r : Res) : Option Bool :=
  match r with
  | ⟨[.one (.val (.bool v1))], [], []⟩ => some (v1)
  | _ => none
noncomputable def E184 : Fun2 := fun args bs rs =>
  match args, bs, rs with
  | [.s1 (.agg [.val (.int .i64 a1), .sl 0])], [], [⟨117, (.int .u64), a2, .ro⟩] => some ⟨Bool, I.Lat_isOrder a1 a2, R184⟩
  | _, _, _ => none
theorem ev184 (a1 : Int) (a2 : List Int) : evF Try.prog G184 L184 (0, 0) Try.f184 c184 [.s1 (.agg [ai a1, .sl 0])] [] [⟨117, (.int .u64), a2, .ro⟩] K184 = I.Lat_isOrder a1 a2 := by kernel_rfl
theorem good184 : Vm.Good Try.prog 184 E184 := by
  refine evF_good (G := G184) (c := c184) (envCons_good good146 envNil_good) Try.func184 (by kernel_rfl) (by kernel_rfl) (0, 0) (fun args bs rs out t h h2 => ?_)
  unfold E184 at h
  split at h
  · injection h with h
    subst h
    exact ⟨rfl, L184, K184, lp184, (fun r t h => by unfold K184 at h; split at h; (injection h with h; subst h; rfl); cases h), (ev184 _ _).trans h2⟩
  · cases h
/-! ### I.Lat_bound_1 -/
noncomputable def G233 : Env := (envCons 146 [] E146 envNil)
noncomputable def c233 : Code := bodyOf Try.f233
noncomputable def I.Lat_bound_1 (a1 a2 : Int) (a3 : Bool) (a4 : Int) (a5 : List Int) : Option (Bool × Bool × Int × List Int) :=
(bif a3 then
(Option.bind (I.Lat_le a4 a1 a2 a5) fun r6 =>
(some (r6, a3, a4, a5)))
else
(Option.bind (I.Lat_le a4 a2 a1 a5) fun r7 =>
(some (r7, a3, a4, a5))))
noncomputable def R233 (x : Bool × Bool × Int × List Int) : Res := ⟨[.one (ab x.1)], [(4, [ab x.2.1]), (51, [ai x.2.2.1, .sl 0])], [⟨117, (.int .u64), x.2.2.2, .rop⟩]⟩
noncomputable def K233 (r : Res) : Option (Bool × Bool × Int × List Int) :=
  match r with
  | ⟨[.one (.val (.bool v1))], [(4, [.val (.bool v2)]), (51, [.val (.int .i64 v3), .sl 0])], [⟨117, (.int .u64), v4, .rop⟩]⟩ => some (v1, v2, v3, v4)
  | _ => none
noncomputable def E233 : Fun2 := fun args bs rs =>
  match args, bs, rs with
  | [.s1 (.one (.val (.int .i64 a1))), .s1 (.one (.val (.int .i64 a2))), .s1 (.one (.ptr 0 0)), .s1 (.one (.ptr 1 0))], [(4, [.val (.bool a3)]), (51, [.val (.int .i64 a4), .sl 0])], [⟨117, (.int .u64), a5, .rop⟩] => some ⟨Bool × Bool × Int × List Int, I.Lat_bound_1 a1 a2 a3 a4 a5, R233⟩
  | _, _, _ => none
theorem ev233 (a1 a2 : Int) (a3 : Bool) (a4 : Int) (a5 : List Int) : evF Try.prog G233 loopNil (2, 1) Try.f233 c233 [vi a1, vi a2, vp 0 0, vp 1 0] [(4, [ab a3]), (51, [ai a4, .sl 0])] [⟨117, (.int .u64), a5, .rop⟩] K233 = I.Lat_bound_1 a1 a2 a3 a4 a5 := by kernel_rfl
theorem good233 : Vm.Good Try.prog 233 E233 := by
  refine evF_good (G := G233) (c := c233) (envCons_good good146 envNil_good) Try.func233 (by kernel_rfl) (by kernel_rfl) (2, 1) (fun args bs rs out t h h2 => ?_)
  unfold E233 at h
  split at h
  · injection h with h
    subst h
    exact ⟨rfl, loopNil, K233, (by intro x hx; simp [show loopsOf c233 = [] from by kernel_rfl] at hx), (fun r t h => by unfold K233 at h; split at h; (injection h with h; subst h; rfl); cases h), (ev233 _ _ _ _ _).trans h2⟩
  · cases h
/-! ### I.Lat_bound -/
noncomputable def G185 : Env := (envCons 233 [] E233 envNil)
noncomputable def c185 : Code := bodyOf Try.f185
noncomputable def c185_3 : Code := (loopsOf c185).getD 0 .skip
noncomputable def c185_8 : Code := (loopsOf c185_3).getD 0 .skip
noncomputable def I.Lat_bound_l1 : Nat → (Int → Int → Int → Bool → Int → Int → Int → Bool → List Int → Option Int) → Int → Int → Int → Bool → Int → Int → Int → Int → Int → Bool → List Int → Option Int
  | 0, _, _, _, _, _, _, _, _, _, _, _, _ => none
  | m + 1, e8_0, a18, a19, a20, a21, a22, a23, a24, a25, a26, a27, a28 =>
    (bif (decide (a25 < a24)) then
    (Option.bind (I.Lat_bound_1 a18 a25 a27 a26 a28) fun r30 =>
    (bif r30.1 then
    (Option.bind (I.Lat_bound_1 a19 a25 r30.2.1 r30.2.2.1 a28) fun r31 =>
    (bif r31.1 then
    (Option.bind (I.Lat_bound_1 a20 a25 r31.2.1 r31.2.2.1 a28) fun r32 =>
    (bif (!r32.1) then
    (I.Lat_bound_l1 m e8_0 a18 a19 a20 false a22 a23 a24 (IntKind.wrap .i64 (a25 + 1)) r32.2.2.1 r32.2.1 a28)
    else
    (I.Lat_bound_l1 m e8_0 a18 a19 a20 a21 a22 a23 a24 (IntKind.wrap .i64 (a25 + 1)) r32.2.2.1 r32.2.1 a28)))
    else
    (I.Lat_bound_l1 m e8_0 a18 a19 a20 a21 a22 a23 a24 (IntKind.wrap .i64 (a25 + 1)) r31.2.2.1 r31.2.1 a28)))
    else
    (I.Lat_bound_l1 m e8_0 a18 a19 a20 a21 a22 a23 a24 (IntKind.wrap .i64 (a25 + 1)) r30.2.2.1 r30.2.1 a28)))
    else
    (e8_0 a18 a19 a20 a21 a22 a23 a26 a27 a28))
noncomputable def I.Lat_bound_l0 : Nat → (Int → Option Int) → (Option Int) → Int → Int → Int → Int → Int → Bool → List Int → Option Int
  | 0, _, _, _, _, _, _, _, _, _ => none
  | m + 1, e3_0, e3_1, a6, a7, a8, a9, a10, a11, a12 =>
    (bif (decide (a9 < a8)) then
    (Option.bind (I.Lat_bound_1 a6 a9 a11 a10 a12) fun r14 =>
    (bif (!r14.1) then
    (I.Lat_bound_l0 m e3_0 e3_1 a6 a7 a8 (IntKind.wrap .i64 (a9 + 1)) r14.2.2.1 r14.2.1 a12)
    else
    (Option.bind (I.Lat_bound_1 a7 a9 r14.2.1 r14.2.2.1 a12) fun r16 =>
    (bif (!r16.1) then
    (I.Lat_bound_l0 m e3_0 e3_1 a6 a7 a8 (IntKind.wrap .i64 (a9 + 1)) r16.2.2.1 r16.2.1 a12)
    else
    (I.Lat_bound_l1 fu (fun y37 y38 y39 y40 y41 y42 y43 y44 y45 =>
    (bif y40 then
    (e3_0 y39)
    else
    (I.Lat_bound_l0 m e3_0 e3_1 y37 y38 y41 (IntKind.wrap .i64 (y42 + 1)) y43 y44 y45))) a6 a7 a9 true a8 a9 r16.2.2.1 0 r16.2.2.1 r16.2.1 a12)))))
    else
    e3_1)
noncomputable def I.Lat_bound (a1 a2 a3 : Int) (a4 : Bool) (a5 : List Int) : Option Int :=
(I.Lat_bound_l0 fu (fun y47 =>
(some y47)) (some (-1)) a2 a3 a1 0 a1 a4 a5)
noncomputable def H185_8 : LoopH := ⟨⟨((.one (.unk)) :: hh :: hh :: (.one (.unk)) :: (.one (.ptr 0 0)) :: (hu 4 ((.one (.fn 233 [(1, 0), (0, 0)])) :: hh :: hh :: (hu 3 (hh :: hh :: (hu 15 (hh :: hh :: (hu 23 [])))))))), [(51, [.hole, .sl 0]), (4, [.hole])], [(117, (.int .u64), .ro)]⟩, [0, 3, 5, 6, 7, 8, 12, 13, 14, 17, 18, 19, 20, 21, 22, 23, 24, 25, 26, 27, 28, 29, 30, 31, 34, 35, 36, 37, 38, 39, 40, 41, 42, 43, 44, 45, 46, 47, 48, 49, 50, 51, 52, 53, 54, 55, 56], [], [0, 3, 5, 6, 7, 12, 13, 14, 17, 18, 19, 20, 21, 22, 23, 24, 25, 26, 27, 28, 29, 30, 31, 32, 33, 34, 35, 36, 37, 38, 39, 40, 41, 42, 43, 44, 45, 46, 47, 48, 49, 50, 51, 52, 53, 54, 55, 56]⟩
noncomputable def E185_8 (m : Nat) (ps : List Prm) (k : Kont Int) : Option Int :=
  match ps with
  | [.v (.int .i64 a18), .v (.int .i64 a19), .v (.int .i64 a20), .v (.bool a21), .v (.int .i64 a22), .v (.int .i64 a23), .v (.int .i64 a24), .v (.int .i64 a25), .v (.int .i64 a26), .v (.bool a27), .row (.int .u64) a28] => I.Lat_bound_l1 m (fun z58 z59 z60 z61 z62 z63 z64 z65 z66 => k (.exit 2) (⟨((.s1 (.one (.unk))) :: (vi z58) :: (vi z59) :: (.s1 (.one (.unk))) :: (vp 0 0) :: (vu 4 ((.s1 (.one (.fn 233 [(1, 0), (0, 0)]))) :: (vi z60) :: (vb z61) :: (vu 3 ((vi z62) :: (vi z63) :: (vu 40 [])))))), [(51, [ai z64, .sl 0]), (4, [ab z65])], [⟨117, (.int .u64), z66, .ro⟩]⟩ : St)) a18 a19 a20 a21 a22 a23 a24 a25 a26 a27 a28
  | _ => none
noncomputable def S185_8 (a18 a19 a20 : Int) (a21 : Bool) (a22 a23 a24 a25 a26 : Int) (a27 : Bool) (a28 : List Int) : St := (⟨((.s1 (.one (.unk))) :: (vi a18) :: (vi a19) :: (.s1 (.one (.unk))) :: (vp 0 0) :: (vu 4 ((.s1 (.one (.fn 233 [(1, 0), (0, 0)]))) :: (vi a20) :: (vb a21) :: (vu 3 ((vi a22) :: (vi a23) :: (vu 15 ((vi a24) :: (vi a25) :: (vu 23 [])))))))), [(51, [ai a26, .sl 0]), (4, [ab a27])], [⟨117, (.int .u64), a28, .ro⟩]⟩ : St)
theorem ev185_8 (m : Nat) (k : Kont Int) (a18 a19 a20 : Int) (a21 : Bool) (a22 a23 a24 a25 a26 : Int) (a27 : Bool) (a28 : List Int) : evC Try.prog G185 loopNil c185_8 (S185_8 a18 a19 a20 a21 a22 a23 a24 a25 a26 a27 a28) (turn Try.prog (0, 0) H185_8 (E185_8 m) k) = E185_8 (m + 1) [.v (.int .i64 a18), .v (.int .i64 a19), .v (.int .i64 a20), .v (.bool a21), .v (.int .i64 a22), .v (.int .i64 a23), .v (.int .i64 a24), .v (.int .i64 a25), .v (.int .i64 a26), .v (.bool a27), .row (.int .u64) a28] k := by kernel_rfl
theorem ok185_8 (m : Nat) : LoopOk Try.prog (0, 0) c185_8 (enter Try.prog (0, 0) H185_8 (E185_8 m)) := by
  refine loop_ok (G := G185) (L := loopNil) (envCons_good good233 envNil_good) (by intro x hx; simp [show loopsOf c185_8 = [] from by kernel_rfl] at hx) (fun ps k => by unfold E185_8; split <;> rfl) (fun m ps k r h => ?_) m
  have h0 := h
  unfold E185_8 at h
  split at h
  · exact ⟨S185_8 _ _ _ _ _ _ _ _ _ _ _, by kernel_rfl, (ev185_8 m k _ _ _ _ _ _ _ _ _ _ _).trans h0⟩
  · cases h
noncomputable def L185_3 : LEnv Int := (loopCons 8 (enter Try.prog (0, 0) H185_8 (E185_8 fu)) loopNil)
theorem lq185_3 : loopsOf c185_3 = [c185_8] := by kernel_rfl
theorem fr185_8 : firstReg c185_8 = some 8 := by kernel_rfl
theorem le185_8 : L185_3 8 = enter Try.prog (0, 0) H185_8 (E185_8 fu) := by kernel_rfl
theorem lm185_3 : ∀ x ∈ [c185_8], ∀ id, firstReg x = some id → LoopOk Try.prog (0, 0) x (L185_3 id) := (loops_cons fr185_8 le185_8 (ok185_8 fu) loops_nil)
theorem lp185_3 : ∀ x ∈ loopsOf c185_3, ∀ id, firstReg x = some id → LoopOk Try.prog (0, 0) x (L185_3 id) := loops_eq lq185_3 lm185_3
noncomputable def H185_3 : LoopH := ⟨⟨((.one (.unk)) :: hh :: hh :: (.one (.unk)) :: (.one (.ptr 0 0)) :: (hu 4 ((.one (.fn 233 [(1, 0), (0, 0)])) :: (hu 5 (hh :: hh :: (hu 40 [])))))), [(51, [.hole, .sl 0]), (4, [.hole])], [(117, (.int .u64), .ro)]⟩, [0, 3, 5, 6, 7, 8, 10, 11, 12, 13, 14, 17, 18, 19, 20, 21, 22, 23, 24, 25, 26, 27, 28, 29, 30, 31, 32, 33, 34, 35, 36, 37, 38, 39, 40, 41, 42, 43, 44, 45, 46, 47, 48, 49, 50, 51, 52, 53, 54, 55, 56], [], [0, 1, 2, 3, 4, 5, 6, 7, 9, 10, 11, 12, 13, 14, 15, 16, 17, 18, 19, 20, 21, 22, 23, 24, 25, 26, 27, 28, 29, 30, 31, 32, 33, 34, 35, 36, 37, 38, 39, 40, 41, 42, 43, 44, 45, 46, 47, 48, 49, 50, 51, 52, 53, 54, 55, 56]⟩
noncomputable def E185_3 (m : Nat) (ps : List Prm) (k : Kont Int) : Option Int :=
  match ps with
  | [.v (.int .i64 a6), .v (.int .i64 a7), .v (.int .i64 a8), .v (.int .i64 a9), .v (.int .i64 a10), .v (.bool a11), .row (.int .u64) a12] => I.Lat_bound_l0 m (fun z67 => k .ret (⟨(vu 8 ((vi z67) :: (vu 48 []))), [], []⟩ : St)) (k (.exit 0) (⟨(vu 57 []), [], []⟩ : St)) a6 a7 a8 a9 a10 a11 a12
  | _ => none
noncomputable def S185_3 (a6 a7 a8 a9 a10 : Int) (a11 : Bool) (a12 : List Int) : St := (⟨((.s1 (.one (.unk))) :: (vi a6) :: (vi a7) :: (.s1 (.one (.unk))) :: (vp 0 0) :: (vu 4 ((.s1 (.one (.fn 233 [(1, 0), (0, 0)]))) :: (vu 5 ((vi a8) :: (vi a9) :: (vu 40 [])))))), [(51, [ai a10, .sl 0]), (4, [ab a11])], [⟨117, (.int .u64), a12, .ro⟩]⟩ : St)
theorem ev185_3 (m : Nat) (k : Kont Int) (a6 a7 a8 a9 a10 : Int) (a11 : Bool) (a12 : List Int) : evC Try.prog G185 L185_3 c185_3 (S185_3 a6 a7 a8 a9 a10 a11 a12) (turn Try.prog (0, 0) H185_3 (E185_3 m) k) = E185_3 (m + 1) [.v (.int .i64 a6), .v (.int .i64 a7), .v (.int .i64 a8), .v (.int .i64 a9), .v (.int .i64 a10), .v (.bool a11), .row (.int .u64) a12] k := by kernel_rfl
theorem ok185_3 (m : Nat) : LoopOk Try.prog (0, 0) c185_3 (enter Try.prog (0, 0) H185_3 (E185_3 m)) := by
  refine loop_ok (G := G185) (L := L185_3) (envCons_good good233 envNil_good) lp185_3 (fun ps k => by unfold E185_3; split <;> rfl) (fun m ps k r h => ?_) m
  have h0 := h
  unfold E185_3 at h
  split at h
  · exact ⟨S185_3 _ _ _ _ _ _ _, by kernel_rfl, (ev185_3 m k _ _ _ _ _ _ _).trans h0⟩
  · cases h
noncomputable def L185 : LEnv Int := (loopCons 3 (enter Try.prog (0, 0) H185_3 (E185_3 fu)) loopNil)
theorem lq185 : loopsOf c185 = [c185_3] := by kernel_rfl
theorem fr185_3 : firstReg c185_3 = some 3 := by kernel_rfl
theorem le185_3 : L185 3 = enter Try.prog (0, 0) H185_3 (E185_3 fu) := by kernel_rfl
theorem lm185 : ∀ x ∈ [c185_3], ∀ id, firstReg x = some id → LoopOk Try.prog (0, 0) x (L185 id) := (loops_cons fr185_3 le185_3 (ok185_3 fu) loops_nil)
theorem lp185 : ∀ x ∈ loopsOf c185, ∀ id, firstReg x = some id → LoopOk Try.prog (0, 0) x (L185 id) := loops_eq lq185 lm185
noncomputable def R185 (x : Int) : Res := ⟨[.one (ai x)], [], []⟩
noncomputable def K185 (r : Res) : Option Int :=
  match r with
  | ⟨[.one (.val (.int .i64 v1))], [], []⟩ => some (v1)
  | _ => none
noncomputable def E185 : Fun2 := fun args bs rs =>
  match args, bs, rs with
  | [.s1 (.agg [.val (.int .i64 a1), .sl 0]), .s1 (.one (.val (.int .i64 a2))), .s1 (.one (.val (.int .i64 a3))), .s1 (.one (.val (.bool a4)))], [], [⟨117, (.int .u64), a5, .ro⟩] => some ⟨Int, I.Lat_bound a1 a2 a3 a4 a5, R185⟩
  | _, _, _ => none
theorem ev185 (a1 a2 a3 : Int) (a4 : Bool) (a5 : List Int) : evF Try.prog G185 L185 (0, 0) Try.f185 c185 [.s1 (.agg [ai a1, .sl 0]), vi a2, vi a3, vb a4] [] [⟨117, (.int .u64), a5, .ro⟩] K185 = I.Lat_bound a1 a2 a3 a4 a5 := by kernel_rfl
theorem good185 : Vm.Good Try.prog 185 E185 := by
  refine evF_good (G := G185) (c := c185) (envCons_good good233 envNil_good) Try.func185 (by kernel_rfl) (by kernel_rfl) (0, 0) (fun args bs rs out t h h2 => ?_)
  unfold E185 at h
  split at h
  · injection h with h
    subst h
    exact ⟨rfl, L185, K185, lp185, (fun r t h => by unfold K185 at h; split at h; (injection h with h; subst h; rfl); cases h), (ev185 _ _ _ _ _).trans h2⟩
  · cases h
/-! ### I.isLat -/
noncomputable def G107 : Env := (envCons 178 [] E178 (envCons 184 [] E184 (envCons 185 [] E185 envNil)))
noncomputable def c107 : Code := bodyOf Try.f107
noncomputable def c107_4 : Code := (loopsOf c107).getD 0 .skip
noncomputable def c107_12 : Code := (loopsOf c107).getD 1 .skip
noncomputable def c107_15 : Code := (loopsOf c107_12).getD 0 .skip
noncomputable def I.isLat_l0 : Nat → (Bool → Int → List Int → Option Bool) → (Int → List Int → Option Bool) → Int → Int → Int → List Int → Option Bool
  | 0, _, _, _, _, _, _ => none
  | m + 1, e4_0, e4_1, a6, a7, a8, a9 =>
    (bif (decide (a7 < a6)) then
    (bif decide ((0 : Int) ≤ a7 ∧ a7 < (a9.length : Int)) then
    (bif decide ((0 : Int) ≤ a8) then
    (bif ((Int.fdiv (nthI a9 a7 (0 : Int)) (2 ^ min (Int.toNat a8) (IntKind.bits .u64))) != 0) then
    (e4_0 false a8 a9)
    else
    (I.isLat_l0 m e4_0 e4_1 a6 (IntKind.wrap .i64 (a7 + 1)) a8 a9))
    else
    none)
    else
    none)
    else
    (e4_1 a8 a9))
noncomputable def I.isLat_l2 : Nat → (Bool → Int → Int → Int → List Int → Option Bool) → (Int → Int → Int → List Int → Option Bool) → Int → Int → Int → Int → Int → Int → List Int → Option Bool
  | 0, _, _, _, _, _, _, _, _, _ => none
  | m + 1, e15_0, e15_1, a25, a26, a27, a28, a29, a30, a31 =>
    (bif (decide (a29 < a28)) then
    (Option.bind (I.Lat_bound a30 a25 a29 true a31) fun r33 =>
    (bif (decide (r33 < 0)) then
    (e15_0 false a26 a27 a30 a31)
    else
    (Option.bind (I.Lat_bound a30 a25 a29 false a31) fun r35 =>
    (bif (decide (r35 < 0)) then
    (e15_0 false a26 a27 a30 a31)
    else
    (I.isLat_l2 m e15_0 e15_1 a25 a26 a27 a28 (IntKind.wrap .i64 (a29 + 1)) a30 a31)))))
    else
    (e15_1 a26 a27 a30 a31))
noncomputable def I.isLat_l1 : Nat → (Bool → Option Bool) → (Option Bool) → Int → Int → Int → List Int → Option Bool
  | 0, _, _, _, _, _, _ => none
  | m + 1, e12_0, e12_1, a20, a21, a22, a23 =>
    (bif (decide (a21 < a20)) then
    (I.isLat_l2 fu (fun y38 y39 y40 y41 y42 =>
    (e12_0 y38)) (fun y43 y44 y45 y46 =>
    (I.isLat_l1 m e12_0 e12_1 y43 (IntKind.wrap .i64 (y44 + 1)) y45 y46)) a21 a20 a21 a22 0 a22 a23)
    else
    e12_1)
noncomputable def I.isLat (a1 : Int) (a2 : List Int) : Option Bool :=
(Option.bind (I.in a1 1 16) fun r3 =>
(bif (!r3) then
(some false)
else
(bif ((a2.length : Int) != a1) then
(some false)
else
(I.isLat_l0 fu (fun y14 y15 y16 =>
(some y14)) (fun y17 y18 =>
(Option.bind (I.Lat_isOrder y17 y18) fun r19 =>
(bif (!r19) then
(some false)
else
(I.isLat_l1 fu (fun y48 =>
(some y48)) (some true) y17 0 y17 y18)))) (a2.length : Int) 0 a1 a2))))
noncomputable def H107_4 : LoopH := ⟨⟨((.one (.unk)) :: (.one (.ptr 0 0)) :: (hu 18 ((.one (.sl 0)) :: hh :: hh :: (hu 36 [])))), [(51, [.hole, .sl 0])], [(117, (.int .u64), .ro)]⟩, [0, 2, 3, 4, 5, 6, 7, 8, 9, 10, 11, 12, 13, 14, 15, 16, 17, 18, 19, 23, 24, 25, 26, 27, 28, 29, 30, 31, 32, 33, 34, 35, 36, 37, 38, 39, 40, 41, 42, 43, 44, 45, 46, 47, 48, 49, 50, 51, 52, 53, 54, 55, 56, 57, 58], [], [0, 3, 4, 5, 6, 7, 8, 9, 10, 11, 12, 13, 14, 15, 16, 17, 18, 19, 20, 21, 22, 23, 24, 25, 26, 27, 28, 29, 30, 31, 32, 33, 34, 35, 36, 37, 38, 39, 40, 41, 42, 43, 44, 45, 46, 47, 48, 49, 50, 51, 52, 53, 54, 55, 56, 57, 58]⟩
noncomputable def E107_4 (m : Nat) (ps : List Prm) (k : Kont Bool) : Option Bool :=
  match ps with
  | [.v (.int .i64 a6), .v (.int .i64 a7), .v (.int .i64 a8), .row (.int .u64) a9] => I.isLat_l0 m (fun z64 z65 z66 => k .ret (⟨((.s1 (.one (.unk))) :: (vp 0 0) :: (vb z64) :: (vu 56 [])), [(51, [ai z65, .sl 0])], [⟨117, (.int .u64), z66, .ro⟩]⟩ : St)) (fun z67 z68 => k (.exit 0) (⟨((.s1 (.one (.unk))) :: (vp 0 0) :: (vu 57 [])), [(51, [ai z67, .sl 0])], [⟨117, (.int .u64), z68, .ro⟩]⟩ : St)) a6 a7 a8 a9
  | _ => none
noncomputable def S107_4 (a6 a7 a8 : Int) (a9 : List Int) : St := (⟨((.s1 (.one (.unk))) :: (vp 0 0) :: (vu 18 ((vl 0) :: (vi a6) :: (vi a7) :: (vu 36 [])))), [(51, [ai a8, .sl 0])], [⟨117, (.int .u64), a9, .ro⟩]⟩ : St)
theorem ev107_4 (m : Nat) (k : Kont Bool) (a6 a7 a8 : Int) (a9 : List Int) : evC Try.prog G107 loopNil c107_4 (S107_4 a6 a7 a8 a9) (turn Try.prog (0, 0) H107_4 (E107_4 m) k) = E107_4 (m + 1) [.v (.int .i64 a6), .v (.int .i64 a7), .v (.int .i64 a8), .row (.int .u64) a9] k := by kernel_rfl
theorem ok107_4 (m : Nat) : LoopOk Try.prog (0, 0) c107_4 (enter Try.prog (0, 0) H107_4 (E107_4 m)) := by
  refine loop_ok (G := G107) (L := loopNil) (envCons_good good178 (envCons_good good184 (envCons_good good185 envNil_good))) (by intro x hx; simp [show loopsOf c107_4 = [] from by kernel_rfl] at hx) (fun ps k => by unfold E107_4; split <;> rfl) (fun m ps k r h => ?_) m
  have h0 := h
  unfold E107_4 at h
  split at h
  · exact ⟨S107_4 _ _ _ _, by kernel_rfl, (ev107_4 m k _ _ _ _).trans h0⟩
  · cases h
noncomputable def H107_15 : LoopH := ⟨⟨((.one (.unk)) :: (.one (.ptr 0 0)) :: (hu 3 (hh :: (hu 30 (hh :: hh :: (hu 3 (hh :: hh :: (hu 16 [])))))))), [(51, [.hole, .sl 0])], [(117, (.int .u64), .ro)]⟩, [0, 2, 3, 4, 6, 7, 8, 9, 10, 11, 12, 13, 14, 15, 16, 17, 18, 19, 20, 21, 22, 23, 24, 25, 26, 27, 28, 29, 30, 31, 32, 33, 34, 35, 38, 39, 40, 43, 44, 45, 46, 47, 48, 49, 50, 51, 52, 53, 54, 55, 56, 57, 58], [], [0, 3, 4, 5, 6, 7, 8, 9, 10, 11, 12, 13, 14, 15, 16, 17, 18, 19, 20, 21, 22, 23, 24, 25, 26, 27, 28, 29, 30, 31, 32, 33, 34, 35, 38, 39, 40, 41, 42, 43, 44, 45, 46, 47, 48, 49, 50, 51, 52, 53, 54, 55, 56, 57, 58]⟩
noncomputable def E107_15 (m : Nat) (ps : List Prm) (k : Kont Bool) : Option Bool :=
  match ps with
  | [.v (.int .i64 a25), .v (.int .i64 a26), .v (.int .i64 a27), .v (.int .i64 a28), .v (.int .i64 a29), .v (.int .i64 a30), .row (.int .u64) a31] => I.isLat_l2 m (fun z69 z70 z71 z72 z73 => k .ret (⟨((.s1 (.one (.unk))) :: (vp 0 0) :: (vb z69) :: (vu 33 ((vi z70) :: (vi z71) :: (vu 21 [])))), [(51, [ai z72, .sl 0])], [⟨117, (.int .u64), z73, .ro⟩]⟩ : St)) (fun z74 z75 z76 z77 => k (.exit 4) (⟨((.s1 (.one (.unk))) :: (vp 0 0) :: (vu 34 ((vi z74) :: (vi z75) :: (vu 21 [])))), [(51, [ai z76, .sl 0])], [⟨117, (.int .u64), z77, .ro⟩]⟩ : St)) a25 a26 a27 a28 a29 a30 a31
  | _ => none
noncomputable def S107_15 (a25 a26 a27 a28 a29 a30 : Int) (a31 : List Int) : St := (⟨((.s1 (.one (.unk))) :: (vp 0 0) :: (vu 3 ((vi a25) :: (vu 30 ((vi a26) :: (vi a27) :: (vu 3 ((vi a28) :: (vi a29) :: (vu 16 [])))))))), [(51, [ai a30, .sl 0])], [⟨117, (.int .u64), a31, .ro⟩]⟩ : St)
theorem ev107_15 (m : Nat) (k : Kont Bool) (a25 a26 a27 a28 a29 a30 : Int) (a31 : List Int) : evC Try.prog G107 loopNil c107_15 (S107_15 a25 a26 a27 a28 a29 a30 a31) (turn Try.prog (0, 0) H107_15 (E107_15 m) k) = E107_15 (m + 1) [.v (.int .i64 a25), .v (.int .i64 a26), .v (.int .i64 a27), .v (.int .i64 a28), .v (.int .i64 a29), .v (.int .i64 a30), .row (.int .u64) a31] k := by kernel_rfl
theorem ok107_15 (m : Nat) : LoopOk Try.prog (0, 0) c107_15 (enter Try.prog (0, 0) H107_15 (E107_15 m)) := by
  refine loop_ok (G := G107) (L := loopNil) (envCons_good good178 (envCons_good good184 (envCons_good good185 envNil_good))) (by intro x hx; simp [show loopsOf c107_15 = [] from by kernel_rfl] at hx) (fun ps k => by unfold E107_15; split <;> rfl) (fun m ps k r h => ?_) m
  have h0 := h
  unfold E107_15 at h
  split at h
  · exact ⟨S107_15 _ _ _ _ _ _ _, by kernel_rfl, (ev107_15 m k _ _ _ _ _ _ _).trans h0⟩
  · cases h
noncomputable def L107_12 : LEnv Bool := (loopCons 15 (enter Try.prog (0, 0) H107_15 (E107_15 fu)) loopNil)
theorem lq107_12 : loopsOf c107_12 = [c107_15] := by kernel_rfl
theorem fr107_15 : firstReg c107_15 = some 15 := by kernel_rfl
theorem le107_15 : L107_12 15 = enter Try.prog (0, 0) H107_15 (E107_15 fu) := by kernel_rfl
theorem lm107_12 : ∀ x ∈ [c107_15], ∀ id, firstReg x = some id → LoopOk Try.prog (0, 0) x (L107_12 id) := (loops_cons fr107_15 le107_15 (ok107_15 fu) loops_nil)
theorem lp107_12 : ∀ x ∈ loopsOf c107_12, ∀ id, firstReg x = some id → LoopOk Try.prog (0, 0) x (L107_12 id) := loops_eq lq107_12 lm107_12
noncomputable def H107_12 : LoopH := ⟨⟨((.one (.unk)) :: (.one (.ptr 0 0)) :: (hu 34 (hh :: hh :: (hu 21 [])))), [(51, [.hole, .sl 0])], [(117, (.int .u64), .ro)]⟩, [0, 2, 3, 4, 5, 6, 7, 8, 9, 10, 11, 12, 13, 14, 15, 16, 17, 18, 19, 20, 21, 22, 23, 24, 25, 26, 27, 28, 29, 30, 31, 32, 33, 34, 35, 38, 39, 40, 41, 42, 43, 44, 45, 46, 47, 48, 49, 50, 51, 52, 53, 54, 55, 56, 57, 58], [], [0, 1, 3, 4, 5, 6, 7, 8, 9, 10, 11, 12, 13, 14, 15, 16, 17, 18, 19, 20, 21, 22, 23, 24, 25, 26, 27, 28, 29, 30, 31, 32, 33, 34, 35, 36, 37, 38, 39, 40, 41, 42, 43, 44, 45, 46, 47, 48, 49, 50, 51, 52, 53, 54, 55, 56, 57, 58]⟩
noncomputable def E107_12 (m : Nat) (ps : List Prm) (k : Kont Bool) : Option Bool :=
  match ps with
  | [.v (.int .i64 a20), .v (.int .i64 a21), .v (.int .i64 a22), .row (.int .u64) a23] => I.isLat_l1 m (fun z78 => k .ret (⟨(vu 2 ((vb z78) :: (vu 56 []))), [], []⟩ : St)) (k (.exit 2) (⟨(vu 59 []), [], []⟩ : St)) a20 a21 a22 a23
  | _ => none
noncomputable def S107_12 (a20 a21 a22 : Int) (a23 : List Int) : St := (⟨((.s1 (.one (.unk))) :: (vp 0 0) :: (vu 34 ((vi a20) :: (vi a21) :: (vu 21 [])))), [(51, [ai a22, .sl 0])], [⟨117, (.int .u64), a23, .ro⟩]⟩ : St)
theorem ev107_12 (m : Nat) (k : Kont Bool) (a20 a21 a22 : Int) (a23 : List Int) : evC Try.prog G107 L107_12 c107_12 (S107_12 a20 a21 a22 a23) (turn Try.prog (0, 0) H107_12 (E107_12 m) k) = E107_12 (m + 1) [.v (.int .i64 a20), .v (.int .i64 a21), .v (.int .i64 a22), .row (.int .u64) a23] k := by kernel_rfl
theorem ok107_12 (m : Nat) : LoopOk Try.prog (0, 0) c107_12 (enter Try.prog (0, 0) H107_12 (E107_12 m)) := by
  refine loop_ok (G := G107) (L := L107_12) (envCons_good good178 (envCons_good good184 (envCons_good good185 envNil_good))) lp107_12 (fun ps k => by unfold E107_12; split <;> rfl) (fun m ps k r h => ?_) m
  have h0 := h
  unfold E107_12 at h
  split at h
  · exact ⟨S107_12 _ _ _ _, by kernel_rfl, (ev107_12 m k _ _ _ _).trans h0⟩
  · cases h
noncomputable def L107 : LEnv Bool := (loopCons 4 (enter Try.prog (0, 0) H107_4 (E107_4 fu)) (loopCons 12 (enter Try.prog (0, 0) H107_12 (E107_12 fu)) loopNil))
theorem lq107 : loopsOf c107 = [c107_4, c107_12] := by kernel_rfl
theorem fr107_4 : firstReg c107_4 = some 4 := by kernel_rfl
theorem le107_4 : L107 4 = enter Try.prog (0, 0) H107_4 (E107_4 fu) := by kernel_rfl
theorem fr107_12 : firstReg c107_12 = some 12 := by kernel_rfl
theorem le107_12 : L107 12 = enter Try.prog (0, 0) H107_12 (E107_12 fu) := by kernel_rfl
theorem lm107 : ∀ x ∈ [c107_4, c107_12], ∀ id, firstReg x = some id → LoopOk Try.prog (0, 0) x (L107 id) := (loops_cons fr107_4 le107_4 (ok107_4 fu) (loops_cons fr107_12 le107_12 (ok107_12 fu) loops_nil))
theorem lp107 : ∀ x ∈ loopsOf c107, ∀ id, firstReg x = some id → LoopOk Try.prog (0, 0) x (L107 id) := loops_eq lq107 lm107
noncomputable def R107 (x : Bool) : Res := ⟨[.one (ab x)], [], []⟩
noncomputable def K107 (r : Res) : Option Bool :=
  match r with
  | ⟨[.one (.val (.bool v1))], [], []⟩ => some (v1)
  | _ => none
noncomputable def E107 : Fun2 := fun args bs rs =>
  match args, bs, rs with
  | [.s1 (.agg [.val (.int .i64 a1), .sl 0])], [], [⟨117, (.int .u64), a2, .ro⟩] => some ⟨Bool, I.isLat a1 a2, R107⟩
  | _, _, _ => none
theorem ev107 (a1 : Int) (a2 : List Int) : evF Try.prog G107 L107 (0, 0) Try.f107 c107 [.s1 (.agg [ai a1, .sl 0])] [] [⟨117, (.int .u64), a2, .ro⟩] K107 = I.isLat a1 a2 := by kernel_rfl
theorem good107 : Vm.Good Try.prog 107 E107 := by
  refine evF_good (G := G107) (c := c107) (envCons_good good178 (envCons_good good184 (envCons_good good185 envNil_good))) Try.func107 (by kernel_rfl) (by kernel_rfl) (0, 0) (fun args bs rs out t h h2 => ?_)
  unfold E107 at h
  split at h
  · injection h with h
    subst h
    exact ⟨rfl, L107, K107, lp107, (fun r t h => by unfold K107 at h; split at h; (injection h with h; subst h; rfl); cases h), (ev107 _ _).trans h2⟩
  · cases h
/-! ### I.Tok_takes -/
noncomputable def G256 : Env := envNil
noncomputable def c256 : Code := bodyOf Try.f256
noncomputable def I.Tok_takes (a1 a2 : Int) : Option Int :=
(bif (decide (a1 ≤ 3)) then
(some 0)
else
(bif (a1 == 11) then
(some 1)
else
(some 2)))
noncomputable def R256 (x : Int) : Res := ⟨[.one (ai x)], [], []⟩
noncomputable def K256 (r : Res) : Option Int :=
  match r with
  | ⟨[.one (.val (.int .i64 v1))], [], []⟩ => some (v1)
  | _ => none
noncomputable def E256 : Fun2 := fun args bs rs =>
  match args, bs, rs with
  | [.s1 (.agg [.val (.int .i64 a1), .val (.int .i64 a2)])], [], [] => some ⟨Int, I.Tok_takes a1 a2, R256⟩
  | _, _, _ => none
theorem ev256 (a1 a2 : Int) : evF Try.prog G256 loopNil (0, 0) Try.f256 c256 [.s1 (.agg [ai a1, ai a2])] [] [] K256 = I.Tok_takes a1 a2 := by kernel_rfl
theorem good256 : Vm.Good Try.prog 256 E256 := by
  refine evF_good (G := G256) (c := c256) envNil_good Try.func256 (by kernel_rfl) (by kernel_rfl) (0, 0) (fun args bs rs out t h h2 => ?_)
  unfold E256 at h
  split at h
  · injection h with h
    subst h
    exact ⟨rfl, loopNil, K256, (by intro x hx; simp [show loopsOf c256 = [] from by kernel_rfl] at hx), (fun r t h => by unfold K256 at h; split at h; (injection h with h; subst h; rfl); cases h), (ev256 _ _).trans h2⟩
  · cases h
/-! ### I.depth -/
noncomputable def G248 : Env := (envCons 178 [] E178 (envCons 256 [] E256 envNil))
noncomputable def c248 : Code := bodyOf Try.f248
noncomputable def c248_5 : Code := (loopsOf c248).getD 0 .skip
noncomputable def I.depth_l0 : Nat → (Int → Int → Int → Option Int) → (Int → Int → Option Int) → Int → Int → Int → Int → (List (Int × Int)) → Option Int
  | 0, _, _, _, _, _, _, _ => none
  | m + 1, e5_0, e5_1, a5, a6, a7, a8, a9 =>
    (bif (decide (a8 < a7)) then
    (bif decide ((0 : Int) ≤ a8 ∧ a8 < (a9.length : Int)) then
    (Option.bind (I.in ((nthI a9 a8 ((0 : Int), (0 : Int))).1) 0 11) fun r11 =>
    (bif (!r11) then
    (e5_0 (-1) a5 a6)
    else
    (bif ((nthI a9 a8 ((0 : Int), (0 : Int))).1 != 0) then
    (bif ((nthI a9 a8 ((0 : Int), (0 : Int))).2 != 0) then
    (e5_0 (-1) a5 a6)
    else
    (Option.bind (I.Tok_takes ((nthI a9 a8 ((0 : Int), (0 : Int))).1) ((nthI a9 a8 ((0 : Int), (0 : Int))).2)) fun r14 =>
    (bif (decide (a5 < r14)) then
    (e5_0 (-1) a5 a6)
    else
    (Option.bind (I.Tok_takes ((nthI a9 a8 ((0 : Int), (0 : Int))).1) ((nthI a9 a8 ((0 : Int), (0 : Int))).2)) fun r16 =>
    (let v18 : Int := (IntKind.wrap .i64 (a5 + (IntKind.wrap .i64 (1 - r16))))
    (I.depth_l0 m e5_0 e5_1 v18 (if v18 > a6 then v18 else a6) a7 (IntKind.wrap .i64 (a8 + 1)) a9))))))
    else
    (Option.bind (I.Tok_takes ((nthI a9 a8 ((0 : Int), (0 : Int))).1) ((nthI a9 a8 ((0 : Int), (0 : Int))).2)) fun r21 =>
    (bif (decide (a5 < r21)) then
    (e5_0 (-1) a5 a6)
    else
    (Option.bind (I.Tok_takes ((nthI a9 a8 ((0 : Int), (0 : Int))).1) ((nthI a9 a8 ((0 : Int), (0 : Int))).2)) fun r23 =>
    (let v25 : Int := (IntKind.wrap .i64 (a5 + (IntKind.wrap .i64 (1 - r23))))
    (I.depth_l0 m e5_0 e5_1 v25 (if v25 > a6 then v25 else a6) a7 (IntKind.wrap .i64 (a8 + 1)) a9))))))))
    else
    none)
    else
    (e5_1 a5 a6))
noncomputable def I.depth (a1 : List (Int × Int)) : Option Int :=
(Option.bind (I.in (a1.length : Int) 1 20) fun r3 =>
(bif (!r3) then
(some (-1))
else
(I.depth_l0 fu (fun y28 y29 y30 =>
(some y28)) (fun y31 y32 =>
(bif (y31 != 1) then
(some (-1))
else
(some y32))) 0 0 (a1.length : Int) 0 a1)))
noncomputable def H248_5 : LoopH := ⟨⟨(hu 3 (hh :: hh :: (hu 6 ((.one (.sl 0)) :: hh :: hh :: (hu 35 []))))), [], [(275, (.pair (.int .i64) (.int .i64)), .ro)]⟩, [0, 1, 2, 5, 6, 7, 8, 9, 10, 14, 15, 16, 17, 18, 19, 20, 21, 22, 23, 24, 25, 26, 27, 28, 29, 30, 31, 32, 33, 34, 35, 36, 37, 38, 39, 40, 41, 42, 43, 44, 45, 46, 47, 48], [], [0, 1, 5, 6, 7, 8, 9, 10, 11, 12, 13, 14, 15, 16, 17, 18, 19, 20, 21, 22, 23, 24, 25, 26, 27, 28, 29, 30, 31, 32, 33, 34, 35, 36, 37, 38, 39, 40, 41, 42, 43, 44, 45, 46, 47, 48]⟩
noncomputable def E248_5 (m : Nat) (ps : List Prm) (k : Kont Int) : Option Int :=
  match ps with
  | [.v (.int .i64 a5), .v (.int .i64 a6), .v (.int .i64 a7), .v (.int .i64 a8), .row (.pair (.int .i64) (.int .i64)) a9] => I.depth_l0 m (fun z38 z39 z40 => k .ret (⟨(vu 2 ((vi z38) :: (vi z39) :: (vi z40) :: (vu 44 []))), [], []⟩ : St)) (fun z41 z42 => k (.exit 0) (⟨(vu 3 ((vi z41) :: (vi z42) :: (vu 44 []))), [], []⟩ : St)) a5 a6 a7 a8 a9
  | _ => none
noncomputable def S248_5 (a5 a6 a7 a8 : Int) (a9 : List (Int × Int)) : St := (⟨(vu 3 ((vi a5) :: (vi a6) :: (vu 6 ((vl 0) :: (vi a7) :: (vi a8) :: (vu 35 []))))), [], [⟨275, (.pair (.int .i64) (.int .i64)), a9, .ro⟩]⟩ : St)
theorem ev248_5 (m : Nat) (k : Kont Int) (a5 a6 a7 a8 : Int) (a9 : List (Int × Int)) : evC Try.prog G248 loopNil c248_5 (S248_5 a5 a6 a7 a8 a9) (turn Try.prog (0, 0) H248_5 (E248_5 m) k) = E248_5 (m + 1) [.v (.int .i64 a5), .v (.int .i64 a6), .v (.int .i64 a7), .v (.int .i64 a8), .row (.pair (.int .i64) (.int .i64)) a9] k := by kernel_rfl
theorem ok248_5 (m : Nat) : LoopOk Try.prog (0, 0) c248_5 (enter Try.prog (0, 0) H248_5 (E248_5 m)) := by
  refine loop_ok (G := G248) (L := loopNil) (envCons_good good178 (envCons_good good256 envNil_good)) (by intro x hx; simp [show loopsOf c248_5 = [] from by kernel_rfl] at hx) (fun ps k => by unfold E248_5; split <;> rfl) (fun m ps k r h => ?_) m
  have h0 := h
  unfold E248_5 at h
  split at h
  · exact ⟨S248_5 _ _ _ _ _, by kernel_rfl, (ev248_5 m k _ _ _ _ _).trans h0⟩
  · cases h
noncomputable def L248 : LEnv Int := (loopCons 5 (enter Try.prog (0, 0) H248_5 (E248_5 fu)) loopNil)
theorem lq248 : loopsOf c248 = [c248_5] := by kernel_rfl
theorem fr248_5 : firstReg c248_5 = some 5 := by kernel_rfl
theorem le248_5 : L248 5 = enter Try.prog (0, 0) H248_5 (E248_5 fu) := by kernel_rfl
theorem lm248 : ∀ x ∈ [c248_5], ∀ id, firstReg x = some id → LoopOk Try.prog (0, 0) x (L248 id) := (loops_cons fr248_5 le248_5 (ok248_5 fu) loops_nil)
theorem lp248 : ∀ x ∈ loopsOf c248, ∀ id, firstReg x = some id → LoopOk Try.prog (0, 0) x (L248 id) := loops_eq lq248 lm248
noncomputable def R248 (x : Int) : Res := ⟨[.one (ai x)], [], []⟩
noncomputable def K248 (r : Res) : Option Int :=
  match r with
  | ⟨[.one (.val (.int .i64 v1))], [], []⟩ => some (v1)
  | _ => none
noncomputable def E248 : Fun2 := fun args bs rs =>
  match args, bs, rs with
  | [.s1 (.one (.sl 0))], [], [⟨275, (.pair (.int .i64) (.int .i64)), a1, .ro⟩] => some ⟨Int, I.depth a1, R248⟩
  | _, _, _ => none
theorem ev248 (a1 : List (Int × Int)) : evF Try.prog G248 L248 (0, 0) Try.f248 c248 [vl 0] [] [⟨275, (.pair (.int .i64) (.int .i64)), a1, .ro⟩] K248 = I.depth a1 := by kernel_rfl
theorem good248 : Vm.Good Try.prog 248 E248 := by
  refine evF_good (G := G248) (c := c248) (envCons_good good178 (envCons_good good256 envNil_good)) Try.func248 (by kernel_rfl) (by kernel_rfl) (0, 0) (fun args bs rs out t h h2 => ?_)
  unfold E248 at h
  split at h
  · injection h with h
    subst h
    exact ⟨rfl, L248, K248, lp248, (fun r t h => by unfold K248 at h; split at h; (injection h with h; subst h; rfl); cases h), (ev248 _).trans h2⟩
  · cases h
/-! ### I.isExpr -/
noncomputable def G223 : Env := (envCons 248 [] E248 envNil)
noncomputable def c223 : Code := bodyOf Try.f223
noncomputable def I.isExpr (a1 : List (Int × Int)) : Option Bool :=
(Option.bind (I.depth a1) fun r2 =>
(some (decide (0 < r2))))
noncomputable def R223 (x : Bool) : Res := ⟨[.one (ab x)], [], []⟩
noncomputable def K223 (r : Res) : Option Bool :=
  match r with
  | ⟨[.one (.val (.bool v1))], [], []⟩ => some (v1)
  | _ => none
noncomputable def E223 : Fun2 := fun args bs rs =>
  match args, bs, rs with
  | [.s1 (.one (.sl 0))], [], [⟨275, (.pair (.int .i64) (.int .i64)), a1, .ro⟩] => some ⟨Bool, I.isExpr a1, R223⟩
  | _, _, _ => none
theorem ev223 (a1 : List (Int × Int)) : evF Try.prog G223 loopNil (0, 0) Try.f223 c223 [vl 0] [] [⟨275, (.pair (.int .i64) (.int .i64)), a1, .ro⟩] K223 = I.isExpr a1 := by kernel_rfl
theorem good223 : Vm.Good Try.prog 223 E223 := by
  refine evF_good (G := G223) (c := c223) (envCons_good good248 envNil_good) Try.func223 (by kernel_rfl) (by kernel_rfl) (0, 0) (fun args bs rs out t h h2 => ?_)
  unfold E223 at h
  split at h
  · injection h with h
    subst h
    exact ⟨rfl, loopNil, K223, (by intro x hx; simp [show loopsOf c223 = [] from by kernel_rfl] at hx), (fun r t h => by unfold K223 at h; split at h; (injection h with h; subst h; rfl); cases h), (ev223 _).trans h2⟩
  · cases h
/-! ### I.isWinDef -/
noncomputable def G224 : Env := (envCons 178 [] E178 envNil)
noncomputable def c224 : Code := bodyOf Try.f224
noncomputable def I.isWinDef (a1 a2 a3 : Int) : Option Bool :=
(Option.bind (I.in a2 1 100) fun r4 =>
(bif (!r4) then
(some false)
else
(bif (a1 == 1) then
(some (a3 == 0))
else
(bif (a1 == 3) then
(some (a3 == 0))
else
(bif (a1 == 2) then
(Option.bind (I.in a3 1 a2) fun r5 =>
(bif r5 then
(some (decide (a2 ≤ (IntKind.wrap .i64 (8 * a3)))))
else
(some false)))
else
(some false))))))
noncomputable def R224 (x : Bool) : Res := ⟨[.one (ab x)], [], []⟩
noncomputable def K224 (r : Res) : Option Bool :=
  match r with
  | ⟨[.one (.val (.bool v1))], [], []⟩ => some (v1)
  | _ => none
noncomputable def E224 : Fun2 := fun args bs rs =>
  match args, bs, rs with
  | [.s1 (.agg [.val (.int .i64 a1), .val (.int .i64 a2), .val (.int .i64 a3)])], [], [] => some ⟨Bool, I.isWinDef a1 a2 a3, R224⟩
  | _, _, _ => none
theorem ev224 (a1 a2 a3 : Int) : evF Try.prog G224 loopNil (0, 0) Try.f224 c224 [.s1 (.agg [ai a1, ai a2, ai a3])] [] [] K224 = I.isWinDef a1 a2 a3 := by kernel_rfl
theorem good224 : Vm.Good Try.prog 224 E224 := by
  refine evF_good (G := G224) (c := c224) (envCons_good good178 envNil_good) Try.func224 (by kernel_rfl) (by kernel_rfl) (0, 0) (fun args bs rs out t h h2 => ?_)
  unfold E224 at h
  split at h
  · injection h with h
    subst h
    exact ⟨rfl, loopNil, K224, (by intro x hx; simp [show loopsOf c224 = [] from by kernel_rfl] at hx), (fun r t h => by unfold K224 at h; split at h; (injection h with h; subst h; rfl); cases h), (ev224 _ _ _).trans h2⟩
  · cases h
/-! ### I.isAggKind -/
noncomputable def G225 : Env := (envCons 178 [] E178 envNil)
noncomputable def c225 : Code := bodyOf Try.f225
noncomputable def I.isAggKind (a1 a2 : Int) : Option Bool :=
(bif (a1 == 6) then
(Option.bind (I.in a2 1 4) fun r3 =>
(some r3))
else
(Option.bind (I.in a1 1 5) fun r4 =>
(bif r4 then
(some (a2 == 0))
else
(some false))))
noncomputable def R225 (x : Bool) : Res := ⟨[.one (ab x)], [], []⟩
noncomputable def K225 (r : Res) : Option Bool :=
  match r with
  | ⟨[.one (.val (.bool v1))], [], []⟩ => some (v1)
  | _ => none
noncomputable def E225 : Fun2 := fun args bs rs =>
  match args, bs, rs with
  | [.s1 (.one (.val (.int .i64 a1))), .s1 (.one (.val (.int .i64 a2)))], [], [] => some ⟨Bool, I.isAggKind a1 a2, R225⟩
  | _, _, _ => none
theorem ev225 (a1 a2 : Int) : evF Try.prog G225 loopNil (0, 0) Try.f225 c225 [vi a1, vi a2] [] [] K225 = I.isAggKind a1 a2 := by kernel_rfl
theorem good225 : Vm.Good Try.prog 225 E225 := by
  refine evF_good (G := G225) (c := c225) (envCons_good good178 envNil_good) Try.func225 (by kernel_rfl) (by kernel_rfl) (0, 0) (fun args bs rs out t h h2 => ?_)
  unfold E225 at h
  split at h
  · injection h with h
    subst h
    exact ⟨rfl, loopNil, K225, (by intro x hx; simp [show loopsOf c225 = [] from by kernel_rfl] at hx), (fun r t h => by unfold K225 at h; split at h; (injection h with h; subst h; rfl); cases h), (ev225 _ _).trans h2⟩
  · cases h
/-! ### I.isQuery -/
noncomputable def G165 : Env := (envCons 223 [] E223 (envCons 224 [] E224 (envCons 225 [] E225 envNil)))
noncomputable def c165 : Code := bodyOf Try.f165
noncomputable def I.isQuery (a1 a2 a3 a4 a5 : Int) (a6 a7 : List (Int × Int)) : Option Bool :=
(Option.bind (I.isExpr a6) fun r8 =>
(bif r8 then
(Option.bind (I.isExpr a7) fun r9 =>
(bif r9 then
(Option.bind (I.isWinDef a1 a2 a3) fun r10 =>
(bif r10 then
(Option.bind (I.isAggKind a4 a5) fun r11 =>
(some r11))
else
(some false)))
else
(some false)))
else
(some false)))
noncomputable def R165 (x : Bool) : Res := ⟨[.one (ab x)], [], []⟩
noncomputable def K165 (r : Res) : Option Bool :=
  match r with
  | ⟨[.one (.val (.bool v1))], [], []⟩ => some (v1)
  | _ => none
noncomputable def E165 : Fun2 := fun args bs rs =>
  match args, bs, rs with
  | [.s1 (.agg [.sl 0, .sl 1, .val (.int .i64 a1), .val (.int .i64 a2), .val (.int .i64 a3), .val (.int .i64 a4), .val (.int .i64 a5)])], [], [⟨275, (.pair (.int .i64) (.int .i64)), a6, .ro⟩, ⟨275, (.pair (.int .i64) (.int .i64)), a7, .ro⟩] => some ⟨Bool, I.isQuery a1 a2 a3 a4 a5 a6 a7, R165⟩
  | _, _, _ => none
theorem ev165 (a1 a2 a3 a4 a5 : Int) (a6 a7 : List (Int × Int)) : evF Try.prog G165 loopNil (0, 0) Try.f165 c165 [.s1 (.agg [.sl 0, .sl 1, ai a1, ai a2, ai a3, ai a4, ai a5])] [] [⟨275, (.pair (.int .i64) (.int .i64)), a6, .ro⟩, ⟨275, (.pair (.int .i64) (.int .i64)), a7, .ro⟩] K165 = I.isQuery a1 a2 a3 a4 a5 a6 a7 := by kernel_rfl
theorem good165 : Vm.Good Try.prog 165 E165 := by
  refine evF_good (G := G165) (c := c165) (envCons_good good223 (envCons_good good224 (envCons_good good225 envNil_good))) Try.func165 (by kernel_rfl) (by kernel_rfl) (0, 0) (fun args bs rs out t h h2 => ?_)
  unfold E165 at h
  split at h
  · injection h with h
    subst h
    exact ⟨rfl, loopNil, K165, (by intro x hx; simp [show loopsOf c165 = [] from by kernel_rfl] at hx), (fun r t h => by unfold K165 at h; split at h; (injection h with h; subst h; rfl); cases h), (ev165 _ _ _ _ _ _ _).trans h2⟩
  · cases h
/-! ### I.Lat_has -/
noncomputable def G145 : Env := (envCons 178 [] E178 envNil)
noncomputable def c145 : Code := bodyOf Try.f145
noncomputable def I.Lat_has (a1 a2 : Int) (a3 : List Int) : Option Bool :=
(Option.bind (I.in a2 0 (IntKind.wrap .i64 (a1 - 1))) fun r5 =>
(some r5))
noncomputable def R145 (x : Bool) : Res := ⟨[.one (ab x)], [], []⟩
noncomputable def K145 (r : Res) : Option Bool :=
  match r with
  | ⟨[.one (.val (.bool v1))], [], []⟩ => some (v1)
  | _ => none
noncomputable def E145 : Fun2 := fun args bs rs =>
  match args, bs, rs with
  | [.s1 (.agg [.val (.int .i64 a1), .sl 0]), .s1 (.one (.val (.int .i64 a2)))], [], [⟨117, (.int .u64), a3, .ro⟩] => some ⟨Bool, I.Lat_has a1 a2 a3, R145⟩
  | _, _, _ => none
theorem ev145 (a1 a2 : Int) (a3 : List Int) : evF Try.prog G145 loopNil (0, 0) Try.f145 c145 [.s1 (.agg [ai a1, .sl 0]), vi a2] [] [⟨117, (.int .u64), a3, .ro⟩] K145 = I.Lat_has a1 a2 a3 := by kernel_rfl
theorem good145 : Vm.Good Try.prog 145 E145 := by
  refine evF_good (G := G145) (c := c145) (envCons_good good178 envNil_good) Try.func145 (by kernel_rfl) (by kernel_rfl) (0, 0) (fun args bs rs out t h h2 => ?_)
  unfold E145 at h
  split at h
  · injection h with h
    subst h
    exact ⟨rfl, loopNil, K145, (by intro x hx; simp [show loopsOf c145 = [] from by kernel_rfl] at hx), (fun r t h => by unfold K145 at h; split at h; (injection h with h; subst h; rfl); cases h), (ev145 _ _ _).trans h2⟩
  · cases h
/-! ### I.isCap -/
noncomputable def G177 : Env := (envCons 178 [] E178 envNil)
noncomputable def c177 : Code := bodyOf Try.f177
noncomputable def I.isCap (a1 : Int) : Option Bool :=
(Option.bind (I.in a1 1 50) fun r2 =>
(some r2))
noncomputable def R177 (x : Bool) : Res := ⟨[.one (ab x)], [], []⟩
noncomputable def K177 (r : Res) : Option Bool :=
  match r with
  | ⟨[.one (.val (.bool v1))], [], []⟩ => some (v1)
  | _ => none
noncomputable def E177 : Fun2 := fun args bs rs =>
  match args, bs, rs with
  | [.s1 (.one (.val (.int .i64 a1)))], [], [] => some ⟨Bool, I.isCap a1, R177⟩
  | _, _, _ => none
theorem ev177 (a1 : Int) : evF Try.prog G177 loopNil (0, 0) Try.f177 c177 [vi a1] [] [] K177 = I.isCap a1 := by kernel_rfl
theorem good177 : Vm.Good Try.prog 177 E177 := by
  refine evF_good (G := G177) (c := c177) (envCons_good good178 envNil_good) Try.func177 (by kernel_rfl) (by kernel_rfl) (0, 0) (fun args bs rs out t h h2 => ?_)
  unfold E177 at h
  split at h
  · injection h with h
    subst h
    exact ⟨rfl, loopNil, K177, (by intro x hx; simp [show loopsOf c177 = [] from by kernel_rfl] at hx), (fun r t h => by unfold K177 at h; split at h; (injection h with h; subst h; rfl); cases h), (ev177 _).trans h2⟩
  · cases h
end Go.Proofs.Ythddkomphkanbaa.Run
