import Derived.Test.YtipekionggdicaaVmU
import Derived.Test.YtipekionggdicaaProg
namespace Go.Proofs.Ytipekionggdicaa.Run
open Go Go.RowKit Go.Proofs.YtipekionggdicaaW.PrintWords Go.Proofs.Ytipekionggdicaa.Vm
set_option linter.unusedVariables false
set_option maxRecDepth 100000

/-! ### L.szUint64S -/
noncomputable def G92 : Env := envNil
noncomputable def c92 : Code := bodyOf Try.f92
noncomputable def L.szUint64S (a1 : Int) (a2 : List Int) : Option Int :=
(let v4 : Int := (IntKind.wrap .i64 (a1 - (a2.length : Int)))
(bif (decide (v4 < 0)) then
(some (-1))
else
(some v4)))
noncomputable def R92 (x : Int) : Res := ⟨[.one (ai x)], [], []⟩
noncomputable def K92 (r : Res) : Option Int :=
  match r with
  | ⟨[.one (.val (.int .i64 v1))], [], []⟩ => some (v1)
  | _ => none
noncomputable def E92 : Fun2 := fun args bs rs =>
  match args, bs, rs with
  | [.s1 (.one (.sl 0)), .s1 (.one (.val (.int .i64 a1)))], [], [⟨145, (.int .u64), a2, .ro⟩] => some ⟨Int, L.szUint64S a1 a2, R92⟩
  | _, _, _ => none
theorem ev92 (a1 : Int) (a2 : List Int) : evF Try.prog G92 loopNil (0, 0) Try.f92 c92 [vl 0, vi a1] [] [⟨145, (.int .u64), a2, .ro⟩] K92 = L.szUint64S a1 a2 := by kernel_rfl
theorem good92 : Vm.Good Try.prog 92 E92 := by
  refine evF_good (G := G92) (c := c92) envNil_good Try.func92 (by kernel_rfl) (by kernel_rfl) (0, 0) (fun args bs rs out t h h2 => ?_)
  unfold E92 at h
  split at h
  · injection h with h
    subst h
    exact ⟨rfl, loopNil, K92, (by intro x hx; simp [show loopsOf c92 = [] from by kernel_rfl] at hx), (fun r t h => by unfold K92 at h; split at h; (injection h with h; subst h; rfl); cases h), (ev92 _ _).trans h2⟩
  · cases h
/-! ### L.szLat -/
noncomputable def G29 : Env := (envCons 92 [] E92 envNil)
noncomputable def c29 : Code := bodyOf Try.f29
noncomputable def L.szLat (a1 a2 : Int) (a3 : List Int) : Option Int :=
(Option.bind (L.szUint64S a2 a3) fun r4 =>
(bif (decide (r4 < 0)) then
(some (-1))
else
(some r4)))
noncomputable def R29 (x : Int) : Res := ⟨[.one (ai x)], [], []⟩
noncomputable def K29 (r : Res) : Option Int :=
  match r with
  | ⟨[.one (.val (.int .i64 v1))], [], []⟩ => some (v1)
  | _ => none
noncomputable def E29 : Fun2 := fun args bs rs =>
  match args, bs, rs with
  | [.s1 (.agg [.val (.int .i64 a1), .sl 0]), .s1 (.one (.val (.int .i64 a2)))], [], [⟨145, (.int .u64), a3, .ro⟩] => some ⟨Int, L.szLat a1 a2 a3, R29⟩
  | _, _, _ => none
theorem ev29 (a1 a2 : Int) (a3 : List Int) : evF Try.prog G29 loopNil (0, 0) Try.f29 c29 [.s1 (.agg [ai a1, .sl 0]), vi a2] [] [⟨145, (.int .u64), a3, .ro⟩] K29 = L.szLat a1 a2 a3 := by kernel_rfl
theorem good29 : Vm.Good Try.prog 29 E29 := by
  refine evF_good (G := G29) (c := c29) (envCons_good good92 envNil_good) Try.func29 (by kernel_rfl) (by kernel_rfl) (0, 0) (fun args bs rs out t h h2 => ?_)
  unfold E29 at h
  split at h
  · injection h with h
    subst h
    exact ⟨rfl, loopNil, K29, (by intro x hx; simp [show loopsOf c29 = [] from by kernel_rfl] at hx), (fun r t h => by unfold K29 at h; split at h; (injection h with h; subst h; rfl); cases h), (ev29 _ _ _).trans h2⟩
  · cases h
/-! ### L.szTokS -/
noncomputable def G204 : Env := envNil
noncomputable def c204 : Code := bodyOf Try.f204
noncomputable def L.szTokS (a1 : Int) (a2 : List (Int × Int)) : Option Int :=
(let v4 : Int := (IntKind.wrap .i64 (a1 - (a2.length : Int)))
(bif (decide (v4 < 0)) then
(some (-1))
else
(some v4)))
noncomputable def R204 (x : Int) : Res := ⟨[.one (ai x)], [], []⟩
noncomputable def K204 (r : Res) : Option Int :=
  match r with
  | ⟨[.one (.val (.int .i64 v1))], [], []⟩ => some (v1)
  | _ => none
noncomputable def E204 : Fun2 := fun args bs rs =>
  match args, bs, rs with
  | [.s1 (.one (.sl 0)), .s1 (.one (.val (.int .i64 a1)))], [], [⟨269, (.pair (.int .i64) (.int .i64)), a2, .ro⟩] => some ⟨Int, L.szTokS a1 a2, R204⟩
  | _, _, _ => none
theorem ev204 (a1 : Int) (a2 : List (Int × Int)) : evF Try.prog G204 loopNil (0, 0) Try.f204 c204 [vl 0, vi a1] [] [⟨269, (.pair (.int .i64) (.int .i64)), a2, .ro⟩] K204 = L.szTokS a1 a2 := by kernel_rfl
theorem good204 : Vm.Good Try.prog 204 E204 := by
  refine evF_good (G := G204) (c := c204) envNil_good Try.func204 (by kernel_rfl) (by kernel_rfl) (0, 0) (fun args bs rs out t h h2 => ?_)
  unfold E204 at h
  split at h
  · injection h with h
    subst h
    exact ⟨rfl, loopNil, K204, (by intro x hx; simp [show loopsOf c204 = [] from by kernel_rfl] at hx), (fun r t h => by unfold K204 at h; split at h; (injection h with h; subst h; rfl); cases h), (ev204 _ _).trans h2⟩
  · cases h
/-! ### L.szQuery -/
noncomputable def G178 : Env := (envCons 204 [] E204 envNil)
noncomputable def c178 : Code := bodyOf Try.f178
noncomputable def L.szQuery (a1 a2 a3 a4 a5 a6 : Int) (a7 a8 : List (Int × Int)) : Option Int :=
(Option.bind (L.szTokS a6 a7) fun r9 =>
(bif (decide (r9 < 0)) then
(some (-1))
else
(Option.bind (L.szTokS r9 a8) fun r11 =>
(bif (decide (r11 < 0)) then
(some (-1))
else
(some r11)))))
noncomputable def R178 (x : Int) : Res := ⟨[.one (ai x)], [], []⟩
noncomputable def K178 (r : Res) : Option Int :=
  match r with
  | ⟨[.one (.val (.int .i64 v1))], [], []⟩ => some (v1)
  | _ => none
noncomputable def E178 : Fun2 := fun args bs rs =>
  match args, bs, rs with
  | [.s1 (.agg [.sl 0, .sl 1, .val (.int .i64 a1), .val (.int .i64 a2), .val (.int .i64 a3), .val (.int .i64 a4), .val (.int .i64 a5)]), .s1 (.one (.val (.int .i64 a6)))], [], [⟨269, (.pair (.int .i64) (.int .i64)), a7, .ro⟩, ⟨269, (.pair (.int .i64) (.int .i64)), a8, .ro⟩] => some ⟨Int, L.szQuery a1 a2 a3 a4 a5 a6 a7 a8, R178⟩
  | _, _, _ => none
theorem ev178 (a1 a2 a3 a4 a5 a6 : Int) (a7 a8 : List (Int × Int)) : evF Try.prog G178 loopNil (0, 0) Try.f178 c178 [.s1 (.agg [.sl 0, .sl 1, ai a1, ai a2, ai a3, ai a4, ai a5]), vi a6] [] [⟨269, (.pair (.int .i64) (.int .i64)), a7, .ro⟩, ⟨269, (.pair (.int .i64) (.int .i64)), a8, .ro⟩] K178 = L.szQuery a1 a2 a3 a4 a5 a6 a7 a8 := by kernel_rfl
theorem good178 : Vm.Good Try.prog 178 E178 := by
  refine evF_good (G := G178) (c := c178) (envCons_good good204 envNil_good) Try.func178 (by kernel_rfl) (by kernel_rfl) (0, 0) (fun args bs rs out t h h2 => ?_)
  unfold E178 at h
  split at h
  · injection h with h
    subst h
    exact ⟨rfl, loopNil, K178, (by intro x hx; simp [show loopsOf c178 = [] from by kernel_rfl] at hx), (fun r t h => by unfold K178 at h; split at h; (injection h with h; subst h; rfl); cases h), (ev178 _ _ _ _ _ _ _ _).trans h2⟩
  · cases h
/-! ### L.szQueryS -/
noncomputable def G123 : Env := (envCons 178 [] E178 envNil)
noncomputable def c123 : Code := bodyOf Try.f123
noncomputable def c123_5 : Code := (loopsOf c123).getD 0 .skip
noncomputable def L.szQueryS_l0 : Nat → (Int → Int → Option Int) → (Int → Option Int) → Int → Int → (List (List (Int × Int) × List (Int × Int) × (Int × Int × Int) × Int × Int)) → Option Int
  | 0, _, _, _, _, _ => none
  | m + 1, e5_0, e5_1, a6, a7, a8 =>
    (bif (decide (a7 < (a8.length : Int))) then
    (bif decide ((0 : Int) ≤ a7 ∧ a7 < (a8.length : Int)) then
    (Option.bind (L.szQuery ((nthI a8 a7 ([], ([], (((0 : Int), ((0 : Int), (0 : Int))), ((0 : Int), (0 : Int)))))).2.2.1.1) ((nthI a8 a7 ([], ([], (((0 : Int), ((0 : Int), (0 : Int))), ((0 : Int), (0 : Int)))))).2.2.1.2.1) ((nthI a8 a7 ([], ([], (((0 : Int), ((0 : Int), (0 : Int))), ((0 : Int), (0 : Int)))))).2.2.1.2.2) ((nthI a8 a7 ([], ([], (((0 : Int), ((0 : Int), (0 : Int))), ((0 : Int), (0 : Int)))))).2.2.2.1) ((nthI a8 a7 ([], ([], (((0 : Int), ((0 : Int), (0 : Int))), ((0 : Int), (0 : Int)))))).2.2.2.2) a6 ((nthI a8 a7 ([], ([], (((0 : Int), ((0 : Int), (0 : Int))), ((0 : Int), (0 : Int)))))).1) ((nthI a8 a7 ([], ([], (((0 : Int), ((0 : Int), (0 : Int))), ((0 : Int), (0 : Int)))))).2.1)) fun r11 =>
    (bif (decide (r11 < 0)) then
    (e5_0 r11 (-1))
    else
    (L.szQueryS_l0 m e5_0 e5_1 r11 (IntKind.wrap .i64 (a7 + 1)) a8)))
    else
    none)
    else
    (e5_1 a6))
noncomputable def L.szQueryS (a1 : Int) (a2 : List (List (Int × Int) × List (Int × Int) × (Int × Int × Int) × Int × Int)) : Option Int :=
(let v4 : Int := (IntKind.wrap .i64 (a1 - (a2.length : Int)))
(bif (decide (v4 < 0)) then
(some (-1))
else
(L.szQueryS_l0 fu (fun y14 y15 =>
(some y15)) (fun y16 =>
(some y16)) v4 0 a2)))
noncomputable def H123_5 : LoopH := ⟨⟨((.one (.sl 0)) :: hh :: (hu 3 (hh :: (hu 21 [])))), [], [(231, (.pair (.sl 269 (.pair (.int .i64) (.int .i64))) (.pair (.sl 269 (.pair (.int .i64) (.int .i64))) (.pair (.pair (.int .i64) (.pair (.int .i64) (.int .i64))) (.pair (.int .i64) (.int .i64))))), .ro)]⟩, [2, 3, 4, 6, 7, 8, 9, 10, 11, 12, 13, 14, 15, 16, 17, 18, 19, 20, 21, 22, 23, 24, 25, 26], [], [0, 2, 3, 5, 6, 7, 8, 9, 10, 11, 12, 13, 14, 15, 16, 17, 18, 19, 20, 21, 22, 23, 24, 25, 26]⟩
noncomputable def E123_5 (m : Nat) (ps : List Prm) (k : Kont Int) : Option Int :=
  match ps with
  | [.v (.int .i64 a6), .v (.int .i64 a7), .row (.pair (.sl 269 (.pair (.int .i64) (.int .i64))) (.pair (.sl 269 (.pair (.int .i64) (.int .i64))) (.pair (.pair (.int .i64) (.pair (.int .i64) (.int .i64))) (.pair (.int .i64) (.int .i64))))) a8] => L.szQueryS_l0 m (fun z20 z21 => k .ret (⟨((.s1 (.one (.unk))) :: (vi z20) :: (vu 2 ((vi z21) :: (vu 22 [])))), [], []⟩ : St)) (fun z22 => k (.exit 0) (⟨((.s1 (.one (.unk))) :: (vi z22) :: (vu 25 [])), [], []⟩ : St)) a6 a7 a8
  | _ => none
noncomputable def S123_5 (a6 a7 : Int) (a8 : List (List (Int × Int) × List (Int × Int) × (Int × Int × Int) × Int × Int)) : St := (⟨((vl 0) :: (vi a6) :: (vu 3 ((vi a7) :: (vu 21 [])))), [], [⟨231, (.pair (.sl 269 (.pair (.int .i64) (.int .i64))) (.pair (.sl 269 (.pair (.int .i64) (.int .i64))) (.pair (.pair (.int .i64) (.pair (.int .i64) (.int .i64))) (.pair (.int .i64) (.int .i64))))), a8, .ro⟩]⟩ : St)
theorem ev123_5 (m : Nat) (k : Kont Int) (a6 a7 : Int) (a8 : List (List (Int × Int) × List (Int × Int) × (Int × Int × Int) × Int × Int)) : evC Try.prog G123 loopNil c123_5 (S123_5 a6 a7 a8) (turn Try.prog (0, 0) H123_5 (E123_5 m) k) = E123_5 (m + 1) [.v (.int .i64 a6), .v (.int .i64 a7), .row (.pair (.sl 269 (.pair (.int .i64) (.int .i64))) (.pair (.sl 269 (.pair (.int .i64) (.int .i64))) (.pair (.pair (.int .i64) (.pair (.int .i64) (.int .i64))) (.pair (.int .i64) (.int .i64))))) a8] k := by kernel_rfl
theorem ok123_5 (m : Nat) : LoopOk Try.prog (0, 0) c123_5 (enter Try.prog (0, 0) H123_5 (E123_5 m)) := by
  refine loop_ok (G := G123) (L := loopNil) (envCons_good good178 envNil_good) (by intro x hx; simp [show loopsOf c123_5 = [] from by kernel_rfl] at hx) (fun ps k => by unfold E123_5; split <;> rfl) (fun m ps k r h => ?_) m
  have h0 := h
  unfold E123_5 at h
  split at h
  · exact ⟨S123_5 _ _ _, by kernel_rfl, (ev123_5 m k _ _ _).trans h0⟩
  · cases h
noncomputable def L123 : LEnv Int := (loopCons 5 (enter Try.prog (0, 0) H123_5 (E123_5 fu)) loopNil)
theorem lq123 : loopsOf c123 = [c123_5] := by kernel_rfl
theorem fr123_5 : firstReg c123_5 = some 5 := by kernel_rfl
theorem le123_5 : L123 5 = enter Try.prog (0, 0) H123_5 (E123_5 fu) := by kernel_rfl
theorem lm123 : ∀ x ∈ [c123_5], ∀ id, firstReg x = some id → LoopOk Try.prog (0, 0) x (L123 id) := (loops_cons fr123_5 le123_5 (ok123_5 fu) loops_nil)
theorem lp123 : ∀ x ∈ loopsOf c123, ∀ id, firstReg x = some id → LoopOk Try.prog (0, 0) x (L123 id) := loops_eq lq123 lm123
noncomputable def R123 (x : Int) : Res := ⟨[.one (ai x)], [], []⟩
noncomputable def K123 (r : Res) : Option Int :=
  match r with
  | ⟨[.one (.val (.int .i64 v1))], [], []⟩ => some (v1)
  | _ => none
noncomputable def E123 : Fun2 := fun args bs rs =>
  match args, bs, rs with
  | [.s1 (.one (.sl 0)), .s1 (.one (.val (.int .i64 a1)))], [], [⟨231, (.pair (.sl 269 (.pair (.int .i64) (.int .i64))) (.pair (.sl 269 (.pair (.int .i64) (.int .i64))) (.pair (.pair (.int .i64) (.pair (.int .i64) (.int .i64))) (.pair (.int .i64) (.int .i64))))), a2, .ro⟩] => some ⟨Int, L.szQueryS a1 a2, R123⟩
  | _, _, _ => none
theorem ev123 (a1 : Int) (a2 : List (List (Int × Int) × List (Int × Int) × (Int × Int × Int) × Int × Int)) : evF Try.prog G123 L123 (0, 0) Try.f123 c123 [vl 0, vi a1] [] [⟨231, (.pair (.sl 269 (.pair (.int .i64) (.int .i64))) (.pair (.sl 269 (.pair (.int .i64) (.int .i64))) (.pair (.pair (.int .i64) (.pair (.int .i64) (.int .i64))) (.pair (.int .i64) (.int .i64))))), a2, .ro⟩] K123 = L.szQueryS a1 a2 := by kernel_rfl
theorem good123 : Vm.Good Try.prog 123 E123 := by
  refine evF_good (G := G123) (c := c123) (envCons_good good178 envNil_good) Try.func123 (by kernel_rfl) (by kernel_rfl) (0, 0) (fun args bs rs out t h h2 => ?_)
  unfold E123 at h
  split at h
  · injection h with h
    subst h
    exact ⟨rfl, L123, K123, lp123, (fun r t h => by unfold K123 at h; split at h; (injection h with h; subst h; rfl); cases h), (ev123 _ _).trans h2⟩
  · cases h
/-! ### L.szSubS -/
noncomputable def G124 : Env := envNil
noncomputable def c124 : Code := bodyOf Try.f124
noncomputable def L.szSubS (a1 : Int) (a2 : List (Int × Int × Int)) : Option Int :=
(let v4 : Int := (IntKind.wrap .i64 (a1 - (a2.length : Int)))
(bif (decide (v4 < 0)) then
(some (-1))
else
(some v4)))
noncomputable def R124 (x : Int) : Res := ⟨[.one (ai x)], [], []⟩
noncomputable def K124 (r : Res) : Option Int :=
  match r with
  | ⟨[.one (.val (.int .i64 v1))], [], []⟩ => some (v1)
  | _ => none
noncomputable def E124 : Fun2 := fun args bs rs =>
  match args, bs, rs with
  | [.s1 (.one (.sl 0)), .s1 (.one (.val (.int .i64 a1)))], [], [⟨236, (.pair (.int .i64) (.pair (.int .i64) (.int .i64))), a2, .ro⟩] => some ⟨Int, L.szSubS a1 a2, R124⟩
  | _, _, _ => none
theorem ev124 (a1 : Int) (a2 : List (Int × Int × Int)) : evF Try.prog G124 loopNil (0, 0) Try.f124 c124 [vl 0, vi a1] [] [⟨236, (.pair (.int .i64) (.pair (.int .i64) (.int .i64))), a2, .ro⟩] K124 = L.szSubS a1 a2 := by kernel_rfl
theorem good124 : Vm.Good Try.prog 124 E124 := by
  refine evF_good (G := G124) (c := c124) envNil_good Try.func124 (by kernel_rfl) (by kernel_rfl) (0, 0) (fun args bs rs out t h h2 => ?_)
  unfold E124 at h
  split at h
  · injection h with h
    subst h
    exact ⟨rfl, loopNil, K124, (by intro x hx; simp [show loopsOf c124 = [] from by kernel_rfl] at hx), (fun r t h => by unfold K124 at h; split at h; (injection h with h; subst h; rfl); cases h), (ev124 _ _).trans h2⟩
  · cases h
/-! ### L.szRuleS -/
noncomputable def G125 : Env := envNil
noncomputable def c125 : Code := bodyOf Try.f125
noncomputable def L.szRuleS (a1 : Int) (a2 : List (Int × Int × Int × Int × Int)) : Option Int :=
(let v4 : Int := (IntKind.wrap .i64 (a1 - (a2.length : Int)))
(bif (decide (v4 < 0)) then
(some (-1))
else
(some v4)))
noncomputable def R125 (x : Int) : Res := ⟨[.one (ai x)], [], []⟩
noncomputable def K125 (r : Res) : Option Int :=
  match r with
  | ⟨[.one (.val (.int .i64 v1))], [], []⟩ => some (v1)
  | _ => none
noncomputable def E125 : Fun2 := fun args bs rs =>
  match args, bs, rs with
  | [.s1 (.one (.sl 0)), .s1 (.one (.val (.int .i64 a1)))], [], [⟨238, (.pair (.int .i64) (.pair (.int .i64) (.pair (.int .i64) (.pair (.int .i64) (.int .i64))))), a2, .ro⟩] => some ⟨Int, L.szRuleS a1 a2, R125⟩
  | _, _, _ => none
theorem ev125 (a1 : Int) (a2 : List (Int × Int × Int × Int × Int)) : evF Try.prog G125 loopNil (0, 0) Try.f125 c125 [vl 0, vi a1] [] [⟨238, (.pair (.int .i64) (.pair (.int .i64) (.pair (.int .i64) (.pair (.int .i64) (.int .i64))))), a2, .ro⟩] K125 = L.szRuleS a1 a2 := by kernel_rfl
theorem good125 : Vm.Good Try.prog 125 E125 := by
  refine evF_good (G := G125) (c := c125) envNil_good Try.func125 (by kernel_rfl) (by kernel_rfl) (0, 0) (fun args bs rs out t h h2 => ?_)
  unfold E125 at h
  split at h
  · injection h with h
    subst h
    exact ⟨rfl, loopNil, K125, (by intro x hx; simp [show loopsOf c125 = [] from by kernel_rfl] at hx), (fun r t h => by unfold K125 at h; split at h; (injection h with h; subst h; rfl); cases h), (ev125 _ _).trans h2⟩
  · cases h
/-! ### L.szConf -/
noncomputable def G61 : Env := (envCons 29 [] E29 (envCons 123 [] E123 (envCons 124 [] E124 (envCons 125 [] E125 envNil))))
noncomputable def c61 : Code := bodyOf Try.f61
noncomputable def L.szConf (a1 a2 a3 a4 : Int) (a5 : List Int) (a6 : List (List (Int × Int) × List (Int × Int) × (Int × Int × Int) × Int × Int)) (a7 : List (Int × Int × Int)) (a8 : List (Int × Int × Int × Int × Int)) : Option Int :=
(Option.bind (L.szLat a1 a4 a5) fun r9 =>
(bif (decide (r9 < 0)) then
(some (-1))
else
(Option.bind (L.szQueryS r9 a6) fun r11 =>
(bif (decide (r11 < 0)) then
(some (-1))
else
(Option.bind (L.szSubS r11 a7) fun r13 =>
(bif (decide (r13 < 0)) then
(some (-1))
else
(Option.bind (L.szRuleS r13 a8) fun r15 =>
(bif (decide (r15 < 0)) then
(some (-1))
else
(some r15)))))))))
noncomputable def R61 (x : Int) : Res := ⟨[.one (ai x)], [], []⟩
noncomputable def K61 (r : Res) : Option Int :=
  match r with
  | ⟨[.one (.val (.int .i64 v1))], [], []⟩ => some (v1)
  | _ => none
noncomputable def E61 : Fun2 := fun args bs rs =>
  match args, bs, rs with
  | [.s1 (.agg [.val (.int .i64 a1), .sl 0, .val (.int .i64 a2), .val (.int .i64 a3), .sl 1, .sl 2, .sl 3]), .s1 (.one (.val (.int .i64 a4)))], [], [⟨145, (.int .u64), a5, .ro⟩, ⟨231, (.pair (.sl 269 (.pair (.int .i64) (.int .i64))) (.pair (.sl 269 (.pair (.int .i64) (.int .i64))) (.pair (.pair (.int .i64) (.pair (.int .i64) (.int .i64))) (.pair (.int .i64) (.int .i64))))), a6, .ro⟩, ⟨236, (.pair (.int .i64) (.pair (.int .i64) (.int .i64))), a7, .ro⟩, ⟨238, (.pair (.int .i64) (.pair (.int .i64) (.pair (.int .i64) (.pair (.int .i64) (.int .i64))))), a8, .ro⟩] => some ⟨Int, L.szConf a1 a2 a3 a4 a5 a6 a7 a8, R61⟩
  | _, _, _ => none
theorem ev61 (a1 a2 a3 a4 : Int) (a5 : List Int) (a6 : List (List (Int × Int) × List (Int × Int) × (Int × Int × Int) × Int × Int)) (a7 : List (Int × Int × Int)) (a8 : List (Int × Int × Int × Int × Int)) : evF Try.prog G61 loopNil (0, 0) Try.f61 c61 [.s1 (.agg [ai a1, .sl 0, ai a2, ai a3, .sl 1, .sl 2, .sl 3]), vi a4] [] [⟨145, (.int .u64), a5, .ro⟩, ⟨231, (.pair (.sl 269 (.pair (.int .i64) (.int .i64))) (.pair (.sl 269 (.pair (.int .i64) (.int .i64))) (.pair (.pair (.int .i64) (.pair (.int .i64) (.int .i64))) (.pair (.int .i64) (.int .i64))))), a6, .ro⟩, ⟨236, (.pair (.int .i64) (.pair (.int .i64) (.int .i64))), a7, .ro⟩, ⟨238, (.pair (.int .i64) (.pair (.int .i64) (.pair (.int .i64) (.pair (.int .i64) (.int .i64))))), a8, .ro⟩] K61 = L.szConf a1 a2 a3 a4 a5 a6 a7 a8 := by kernel_rfl
theorem good61 : Vm.Good Try.prog 61 E61 := by
  refine evF_good (G := G61) (c := c61) (envCons_good good29 (envCons_good good123 (envCons_good good124 (envCons_good good125 envNil_good)))) Try.func61 (by kernel_rfl) (by kernel_rfl) (0, 0) (fun args bs rs out t h h2 => ?_)
  unfold E61 at h
  split at h
  · injection h with h
    subst h
    exact ⟨rfl, loopNil, K61, (by intro x hx; simp [show loopsOf c61 = [] from by kernel_rfl] at hx), (fun r t h => by unfold K61 at h; split at h; (injection h with h; subst h; rfl); cases h), (ev61 _ _ _ _ _ _ _ _).trans h2⟩
  · cases h
/-! ### L.toUint64S -/
noncomputable def G96 : Env := envNil
noncomputable def c96 : Code := bodyOf Try.f96
noncomputable def c96_3 : Code := (loopsOf c96).getD 0 .skip
noncomputable def L.toUint64S_l0 : Nat → (List Int → Option (List Int)) → Int → List Int → List Int → Option (List Int)
  | 0, _, _, _, _ => none
  | m + 1, e3_0, a4, a5, a6 =>
    (bif (decide (a4 < (a5.length : Int))) then
    (bif decide ((0 : Int) ≤ a4 ∧ a4 < (a5.length : Int)) then
    (bif decide ((0 : Int) ≤ a4 ∧ a4 < (a6.length : Int)) then
    (L.toUint64S_l0 m e3_0 (IntKind.wrap .i64 (a4 + 1)) a5 (a6.set (Int.toNat a4) (nthI a5 a4 (0 : Int))))
    else
    none)
    else
    none)
    else
    (e3_0 a6))
noncomputable def L.toUint64S (a1 : List Int) : Option (List Int) :=
(let v2 : Int := (a1.length : Int)
(bif decide ((0 : Int) ≤ v2 ∧ v2 ≤ v2 ∧ (8 : Int) * v2 ≤ 281474976710656 ∧ v2 ≤ 9223372036854775807) then
(L.toUint64S_l0 fu (fun y11 =>
(some y11)) 0 a1 (List.replicate (Int.toNat v2) (0 : Int)))
else
none))
noncomputable def H96_3 : LoopH := ⟨⟨((.one (.sl 0)) :: (hu 2 ((.one (.sl 1)) :: hh :: (hu 17 [])))), [], [(145, (.int .u64), .ro), (145, (.int .u64), .own)]⟩, [1, 2, 5, 6, 7, 8, 9, 10, 11, 12, 13, 14, 15, 16, 17, 18, 19, 20, 21], [], [0, 1, 4, 5, 6, 7, 8, 9, 10, 11, 12, 13, 14, 15, 16, 17, 18, 19, 20, 21]⟩
noncomputable def E96_3 (m : Nat) (ps : List Prm) (k : Kont (List Int)) : Option (List Int) :=
  match ps with
  | [.v (.int .i64 a4), .row (.int .u64) a5, .row (.int .u64) a6] => L.toUint64S_l0 m (fun z13 => k (.exit 0) (⟨(vu 3 ((vl 0) :: (vu 18 []))), [], [⟨145, (.int .u64), z13, .own⟩]⟩ : St)) a4 a5 a6
  | _ => none
noncomputable def S96_3 (a4 : Int) (a5 a6 : List Int) : St := (⟨((vl 0) :: (vu 2 ((vl 1) :: (vi a4) :: (vu 17 [])))), [], [⟨145, (.int .u64), a5, .ro⟩, ⟨145, (.int .u64), a6, .own⟩]⟩ : St)
theorem ev96_3 (m : Nat) (k : Kont (List Int)) (a4 : Int) (a5 a6 : List Int) : evC Try.prog G96 loopNil c96_3 (S96_3 a4 a5 a6) (turn Try.prog (0, 0) H96_3 (E96_3 m) k) = E96_3 (m + 1) [.v (.int .i64 a4), .row (.int .u64) a5, .row (.int .u64) a6] k := by kernel_rfl
theorem ok96_3 (m : Nat) : LoopOk Try.prog (0, 0) c96_3 (enter Try.prog (0, 0) H96_3 (E96_3 m)) := by
  refine loop_ok (G := G96) (L := loopNil) envNil_good (by intro x hx; simp [show loopsOf c96_3 = [] from by kernel_rfl] at hx) (fun ps k => by unfold E96_3; split <;> rfl) (fun m ps k r h => ?_) m
  have h0 := h
  unfold E96_3 at h
  split at h
  · exact ⟨S96_3 _ _ _, by kernel_rfl, (ev96_3 m k _ _ _).trans h0⟩
  · cases h
noncomputable def L96 : LEnv (List Int) := (loopCons 3 (enter Try.prog (0, 0) H96_3 (E96_3 fu)) loopNil)
theorem lq96 : loopsOf c96 = [c96_3] := by kernel_rfl
theorem fr96_3 : firstReg c96_3 = some 3 := by kernel_rfl
theorem le96_3 : L96 3 = enter Try.prog (0, 0) H96_3 (E96_3 fu) := by kernel_rfl
theorem lm96 : ∀ x ∈ [c96_3], ∀ id, firstReg x = some id → LoopOk Try.prog (0, 0) x (L96 id) := (loops_cons fr96_3 le96_3 (ok96_3 fu) loops_nil)
theorem lp96 : ∀ x ∈ loopsOf c96, ∀ id, firstReg x = some id → LoopOk Try.prog (0, 0) x (L96 id) := loops_eq lq96 lm96
noncomputable def R96 (x : List Int) : Res := ⟨[.one (.sl 0)], [], [⟨145, (.int .u64), x, .own⟩]⟩
noncomputable def K96 (r : Res) : Option (List Int) :=
  match r with
  | ⟨[.one (.sl 0)], [], [⟨145, (.int .u64), v1, .own⟩]⟩ => some (v1)
  | _ => none
noncomputable def E96 : Fun2 := fun args bs rs =>
  match args, bs, rs with
  | [.s1 (.one (.sl 0))], [], [⟨145, (.int .u64), a1, .ro⟩] => some ⟨List Int, L.toUint64S a1, R96⟩
  | _, _, _ => none
theorem ev96 (a1 : List Int) : evF Try.prog G96 L96 (0, 0) Try.f96 c96 [vl 0] [] [⟨145, (.int .u64), a1, .ro⟩] K96 = L.toUint64S a1 := by kernel_rfl
theorem good96 : Vm.Good Try.prog 96 E96 := by
  refine evF_good (G := G96) (c := c96) envNil_good Try.func96 (by kernel_rfl) (by kernel_rfl) (0, 0) (fun args bs rs out t h h2 => ?_)
  unfold E96 at h
  split at h
  · injection h with h
    subst h
    exact ⟨rfl, L96, K96, lp96, (fun r t h => by unfold K96 at h; split at h; (injection h with h; subst h; rfl); cases h), (ev96 _).trans h2⟩
  · cases h
/-! ### L.toLat -/
noncomputable def G32 : Env := (envCons 96 [] E96 envNil)
noncomputable def c32 : Code := bodyOf Try.f32
noncomputable def L.toLat (a1 : Int) (a2 : List Int) : Option (Int × List Int) :=
(Option.bind (L.toUint64S a2) fun r3 =>
(some (a1, r3)))
noncomputable def R32 (x : Int × List Int) : Res := ⟨[.agg [ai x.1, .sl 0]], [], [⟨145, (.int .u64), x.2, .own⟩]⟩
noncomputable def K32 (r : Res) : Option (Int × List Int) :=
  match r with
  | ⟨[.agg [.val (.int .i64 v1), .sl 0]], [], [⟨145, (.int .u64), v2, .own⟩]⟩ => some (v1, v2)
  | _ => none
noncomputable def E32 : Fun2 := fun args bs rs =>
  match args, bs, rs with
  | [.s1 (.agg [.val (.int .i64 a1), .sl 0])], [], [⟨145, (.int .u64), a2, .ro⟩] => some ⟨Int × List Int, L.toLat a1 a2, R32⟩
  | _, _, _ => none
theorem ev32 (a1 : Int) (a2 : List Int) : evF Try.prog G32 loopNil (0, 0) Try.f32 c32 [.s1 (.agg [ai a1, .sl 0])] [] [⟨145, (.int .u64), a2, .ro⟩] K32 = L.toLat a1 a2 := by kernel_rfl
theorem good32 : Vm.Good Try.prog 32 E32 := by
  refine evF_good (G := G32) (c := c32) (envCons_good good96 envNil_good) Try.func32 (by kernel_rfl) (by kernel_rfl) (0, 0) (fun args bs rs out t h h2 => ?_)
  unfold E32 at h
  split at h
  · injection h with h
    subst h
    exact ⟨rfl, loopNil, K32, (by intro x hx; simp [show loopsOf c32 = [] from by kernel_rfl] at hx), (fun r t h => by unfold K32 at h; split at h; (injection h with h; subst h; rfl); cases h), (ev32 _ _).trans h2⟩
  · cases h
/-! ### L.toTok -/
noncomputable def G226 : Env := envNil
noncomputable def c226 : Code := bodyOf Try.f226
noncomputable def L.toTok (a1 a2 : Int) : Option (Int × Int) :=
(some (a1, a2))
noncomputable def R226 (x : Int × Int) : Res := ⟨[.agg [ai x.1, ai x.2]], [], []⟩
noncomputable def K226 (r : Res) : Option (Int × Int) :=
  match r with
  | ⟨[.agg [.val (.int .i64 v1), .val (.int .i64 v2)]], [], []⟩ => some (v1, v2)
  | _ => none
noncomputable def E226 : Fun2 := fun args bs rs =>
  match args, bs, rs with
  | [.s1 (.agg [.val (.int .i64 a1), .val (.int .i64 a2)])], [], [] => some ⟨Int × Int, L.toTok a1 a2, R226⟩
  | _, _, _ => none
theorem ev226 (a1 a2 : Int) : evF Try.prog G226 loopNil (0, 0) Try.f226 c226 [.s1 (.agg [ai a1, ai a2])] [] [] K226 = L.toTok a1 a2 := by kernel_rfl
theorem good226 : Vm.Good Try.prog 226 E226 := by
  refine evF_good (G := G226) (c := c226) envNil_good Try.func226 (by kernel_rfl) (by kernel_rfl) (0, 0) (fun args bs rs out t h h2 => ?_)
  unfold E226 at h
  split at h
  · injection h with h
    subst h
    exact ⟨rfl, loopNil, K226, (by intro x hx; simp [show loopsOf c226 = [] from by kernel_rfl] at hx), (fun r t h => by unfold K226 at h; split at h; (injection h with h; subst h; rfl); cases h), (ev226 _ _).trans h2⟩
  · cases h
/-! ### L.toTokS -/
noncomputable def G206 : Env := (envCons 226 [] E226 envNil)
noncomputable def c206 : Code := bodyOf Try.f206
noncomputable def c206_3 : Code := (loopsOf c206).getD 0 .skip
noncomputable def L.toTokS_l0 : Nat → ((List (Int × Int)) → Option ((List (Int × Int)))) → Int → (List (Int × Int)) → (List (Int × Int)) → Option ((List (Int × Int)))
  | 0, _, _, _, _ => none
  | m + 1, e3_0, a4, a5, a6 =>
    (bif (decide (a4 < (a5.length : Int))) then
    (bif decide ((0 : Int) ≤ a4 ∧ a4 < (a5.length : Int)) then
    (Option.bind (L.toTok ((nthI a5 a4 ((0 : Int), (0 : Int))).1) ((nthI a5 a4 ((0 : Int), (0 : Int))).2)) fun r9 =>
    (bif decide ((0 : Int) ≤ a4 ∧ a4 < (a6.length : Int)) then
    (L.toTokS_l0 m e3_0 (IntKind.wrap .i64 (a4 + 1)) a5 (a6.set (Int.toNat a4) (r9.1, r9.2)))
    else
    none))
    else
    none)
    else
    (e3_0 a6))
noncomputable def L.toTokS (a1 : List (Int × Int)) : Option ((List (Int × Int))) :=
(let v2 : Int := (a1.length : Int)
(bif decide ((0 : Int) ≤ v2 ∧ v2 ≤ v2 ∧ (16 : Int) * v2 ≤ 281474976710656 ∧ v2 ≤ 9223372036854775807) then
(L.toTokS_l0 fu (fun y12 =>
(some y12)) 0 a1 (List.replicate (Int.toNat v2) (0, 0)))
else
none))
noncomputable def H206_3 : LoopH := ⟨⟨((.one (.sl 0)) :: (hu 2 ((.one (.sl 1)) :: hh :: (hu 18 [])))), [], [(269, (.pair (.int .i64) (.int .i64)), .ro), (260, (.pair (.int .i64) (.int .i64)), .own)]⟩, [1, 2, 5, 6, 7, 8, 9, 10, 11, 12, 13, 14, 15, 16, 17, 18, 19, 20, 21, 22], [], [0, 1, 4, 5, 6, 7, 8, 9, 10, 11, 12, 13, 14, 15, 16, 17, 18, 19, 20, 21, 22]⟩
noncomputable def E206_3 (m : Nat) (ps : List Prm) (k : Kont ((List (Int × Int)))) : Option ((List (Int × Int))) :=
  match ps with
  | [.v (.int .i64 a4), .row (.pair (.int .i64) (.int .i64)) a5, .row (.pair (.int .i64) (.int .i64)) a6] => L.toTokS_l0 m (fun z14 => k (.exit 0) (⟨(vu 3 ((vl 0) :: (vu 19 []))), [], [⟨260, (.pair (.int .i64) (.int .i64)), z14, .own⟩]⟩ : St)) a4 a5 a6
  | _ => none
noncomputable def S206_3 (a4 : Int) (a5 a6 : List (Int × Int)) : St := (⟨((vl 0) :: (vu 2 ((vl 1) :: (vi a4) :: (vu 18 [])))), [], [⟨269, (.pair (.int .i64) (.int .i64)), a5, .ro⟩, ⟨260, (.pair (.int .i64) (.int .i64)), a6, .own⟩]⟩ : St)
theorem ev206_3 (m : Nat) (k : Kont ((List (Int × Int)))) (a4 : Int) (a5 a6 : List (Int × Int)) : evC Try.prog G206 loopNil c206_3 (S206_3 a4 a5 a6) (turn Try.prog (0, 0) H206_3 (E206_3 m) k) = E206_3 (m + 1) [.v (.int .i64 a4), .row (.pair (.int .i64) (.int .i64)) a5, .row (.pair (.int .i64) (.int .i64)) a6] k := by kernel_rfl
theorem ok206_3 (m : Nat) : LoopOk Try.prog (0, 0) c206_3 (enter Try.prog (0, 0) H206_3 (E206_3 m)) := by
  refine loop_ok (G := G206) (L := loopNil) (envCons_good good226 envNil_good) (by intro x hx; simp [show loopsOf c206_3 = [] from by kernel_rfl] at hx) (fun ps k => by unfold E206_3; split <;> rfl) (fun m ps k r h => ?_) m
  have h0 := h
  unfold E206_3 at h
  split at h
  · exact ⟨S206_3 _ _ _, by kernel_rfl, (ev206_3 m k _ _ _).trans h0⟩
  · cases h
noncomputable def L206 : LEnv ((List (Int × Int))) := (loopCons 3 (enter Try.prog (0, 0) H206_3 (E206_3 fu)) loopNil)
theorem lq206 : loopsOf c206 = [c206_3] := by kernel_rfl
theorem fr206_3 : firstReg c206_3 = some 3 := by kernel_rfl
theorem le206_3 : L206 3 = enter Try.prog (0, 0) H206_3 (E206_3 fu) := by kernel_rfl
theorem lm206 : ∀ x ∈ [c206_3], ∀ id, firstReg x = some id → LoopOk Try.prog (0, 0) x (L206 id) := (loops_cons fr206_3 le206_3 (ok206_3 fu) loops_nil)
theorem lp206 : ∀ x ∈ loopsOf c206, ∀ id, firstReg x = some id → LoopOk Try.prog (0, 0) x (L206 id) := loops_eq lq206 lm206
noncomputable def R206 (x : (List (Int × Int))) : Res := ⟨[.one (.sl 0)], [], [⟨260, (.pair (.int .i64) (.int .i64)), x, .own⟩]⟩
noncomputable def K206 (r : Res) : Option ((List (Int × Int))) :=
  match r with
  | ⟨[.one (.sl 0)], [], [⟨260, (.pair (.int .i64) (.int .i64)), v1, .own⟩]⟩ => some (v1)
  | _ => none
noncomputable def E206 : Fun2 := fun args bs rs =>
  match args, bs, rs with
  | [.s1 (.one (.sl 0))], [], [⟨269, (.pair (.int .i64) (.int .i64)), a1, .ro⟩] => some ⟨(List (Int × Int)), L.toTokS a1, R206⟩
  | _, _, _ => none
theorem ev206 (a1 : List (Int × Int)) : evF Try.prog G206 L206 (0, 0) Try.f206 c206 [vl 0] [] [⟨269, (.pair (.int .i64) (.int .i64)), a1, .ro⟩] K206 = L.toTokS a1 := by kernel_rfl
theorem good206 : Vm.Good Try.prog 206 E206 := by
  refine evF_good (G := G206) (c := c206) (envCons_good good226 envNil_good) Try.func206 (by kernel_rfl) (by kernel_rfl) (0, 0) (fun args bs rs out t h h2 => ?_)
  unfold E206 at h
  split at h
  · injection h with h
    subst h
    exact ⟨rfl, L206, K206, lp206, (fun r t h => by unfold K206 at h; split at h; (injection h with h; subst h; rfl); cases h), (ev206 _).trans h2⟩
  · cases h
/-! ### L.toWinDef -/
noncomputable def G207 : Env := envNil
noncomputable def c207 : Code := bodyOf Try.f207
noncomputable def L.toWinDef (a1 a2 a3 : Int) : Option (Int × Int × Int) :=
(some (a1, a2, a3))
noncomputable def R207 (x : Int × Int × Int) : Res := ⟨[.agg [ai x.1, ai x.2.1, ai x.2.2]], [], []⟩
noncomputable def K207 (r : Res) : Option (Int × Int × Int) :=
  match r with
  | ⟨[.agg [.val (.int .i64 v1), .val (.int .i64 v2), .val (.int .i64 v3)]], [], []⟩ => some (v1, v2, v3)
  | _ => none
noncomputable def E207 : Fun2 := fun args bs rs =>
  match args, bs, rs with
  | [.s1 (.agg [.val (.int .i64 a1), .val (.int .i64 a2), .val (.int .i64 a3)])], [], [] => some ⟨Int × Int × Int, L.toWinDef a1 a2 a3, R207⟩
  | _, _, _ => none
theorem ev207 (a1 a2 a3 : Int) : evF Try.prog G207 loopNil (0, 0) Try.f207 c207 [.s1 (.agg [ai a1, ai a2, ai a3])] [] [] K207 = L.toWinDef a1 a2 a3 := by kernel_rfl
theorem good207 : Vm.Good Try.prog 207 E207 := by
  refine evF_good (G := G207) (c := c207) envNil_good Try.func207 (by kernel_rfl) (by kernel_rfl) (0, 0) (fun args bs rs out t h h2 => ?_)
  unfold E207 at h
  split at h
  · injection h with h
    subst h
    exact ⟨rfl, loopNil, K207, (by intro x hx; simp [show loopsOf c207 = [] from by kernel_rfl] at hx), (fun r t h => by unfold K207 at h; split at h; (injection h with h; subst h; rfl); cases h), (ev207 _ _ _).trans h2⟩
  · cases h
/-! ### L.toQuery -/
noncomputable def G182 : Env := (envCons 206 [] E206 (envCons 207 [] E207 envNil))
noncomputable def c182 : Code := bodyOf Try.f182
noncomputable def L.toQuery (a1 a2 a3 a4 a5 : Int) (a6 a7 : List (Int × Int)) : Option (Int × Int × Int × Int × Int × (List (Int × Int)) × (List (Int × Int))) :=
(Option.bind (L.toTokS a6) fun r8 =>
(Option.bind (L.toTokS a7) fun r9 =>
(Option.bind (L.toWinDef a1 a2 a3) fun r10 =>
(some (r10.1, r10.2.1, r10.2.2, a4, a5, r8, r9)))))
noncomputable def R182 (x : Int × Int × Int × Int × Int × (List (Int × Int)) × (List (Int × Int))) : Res := ⟨[.agg [.sl 0, .sl 1, ai x.1, ai x.2.1, ai x.2.2.1, ai x.2.2.2.1, ai x.2.2.2.2.1]], [], [⟨260, (.pair (.int .i64) (.int .i64)), x.2.2.2.2.2.1, .own⟩, ⟨260, (.pair (.int .i64) (.int .i64)), x.2.2.2.2.2.2, .own⟩]⟩
noncomputable def K182 (r : Res) : Option (Int × Int × Int × Int × Int × (List (Int × Int)) × (List (Int × Int))) :=
  match r with
  | ⟨[.agg [.sl 0, .sl 1, .val (.int .i64 v1), .val (.int .i64 v2), .val (.int .i64 v3), .val (.int .i64 v4), .val (.int .i64 v5)]], [], [⟨260, (.pair (.int .i64) (.int .i64)), v6, .own⟩, ⟨260, (.pair (.int .i64) (.int .i64)), v7, .own⟩]⟩ => some (v1, v2, v3, v4, v5, v6, v7)
  | _ => none
noncomputable def E182 : Fun2 := fun args bs rs =>
  match args, bs, rs with
  | [.s1 (.agg [.sl 0, .sl 1, .val (.int .i64 a1), .val (.int .i64 a2), .val (.int .i64 a3), .val (.int .i64 a4), .val (.int .i64 a5)])], [], [⟨269, (.pair (.int .i64) (.int .i64)), a6, .ro⟩, ⟨269, (.pair (.int .i64) (.int .i64)), a7, .ro⟩] => some ⟨Int × Int × Int × Int × Int × (List (Int × Int)) × (List (Int × Int)), L.toQuery a1 a2 a3 a4 a5 a6 a7, R182⟩
  | _, _, _ => none
theorem ev182 (a1 a2 a3 a4 a5 : Int) (a6 a7 : List (Int × Int)) : evF Try.prog G182 loopNil (0, 0) Try.f182 c182 [.s1 (.agg [.sl 0, .sl 1, ai a1, ai a2, ai a3, ai a4, ai a5])] [] [⟨269, (.pair (.int .i64) (.int .i64)), a6, .ro⟩, ⟨269, (.pair (.int .i64) (.int .i64)), a7, .ro⟩] K182 = L.toQuery a1 a2 a3 a4 a5 a6 a7 := by kernel_rfl
theorem good182 : Vm.Good Try.prog 182 E182 := by
  refine evF_good (G := G182) (c := c182) (envCons_good good206 (envCons_good good207 envNil_good)) Try.func182 (by kernel_rfl) (by kernel_rfl) (0, 0) (fun args bs rs out t h h2 => ?_)
  unfold E182 at h
  split at h
  · injection h with h
    subst h
    exact ⟨rfl, loopNil, K182, (by intro x hx; simp [show loopsOf c182 = [] from by kernel_rfl] at hx), (fun r t h => by unfold K182 at h; split at h; (injection h with h; subst h; rfl); cases h), (ev182 _ _ _ _ _ _ _).trans h2⟩
  · cases h
/-! ### L.toQueryS -/
noncomputable def G130 : Env := (envCons 182 [] E182 envNil)
noncomputable def c130 : Code := bodyOf Try.f130
noncomputable def c130_3 : Code := (loopsOf c130).getD 0 .skip
noncomputable def L.toQueryS_l0 : Nat → ((List (List (Int × Int) × List (Int × Int) × (Int × Int × Int) × Int × Int)) → Option ((List (List (Int × Int) × List (Int × Int) × (Int × Int × Int) × Int × Int)))) → Int → (List (List (Int × Int) × List (Int × Int) × (Int × Int × Int) × Int × Int)) → (List (List (Int × Int) × List (Int × Int) × (Int × Int × Int) × Int × Int)) → Option ((List (List (Int × Int) × List (Int × Int) × (Int × Int × Int) × Int × Int)))
  | 0, _, _, _, _ => none
  | m + 1, e3_0, a4, a5, a6 =>
    (bif (decide (a4 < (a5.length : Int))) then
    (bif decide ((0 : Int) ≤ a4 ∧ a4 < (a5.length : Int)) then
    (Option.bind (L.toQuery ((nthI a5 a4 ([], ([], (((0 : Int), ((0 : Int), (0 : Int))), ((0 : Int), (0 : Int)))))).2.2.1.1) ((nthI a5 a4 ([], ([], (((0 : Int), ((0 : Int), (0 : Int))), ((0 : Int), (0 : Int)))))).2.2.1.2.1) ((nthI a5 a4 ([], ([], (((0 : Int), ((0 : Int), (0 : Int))), ((0 : Int), (0 : Int)))))).2.2.1.2.2) ((nthI a5 a4 ([], ([], (((0 : Int), ((0 : Int), (0 : Int))), ((0 : Int), (0 : Int)))))).2.2.2.1) ((nthI a5 a4 ([], ([], (((0 : Int), ((0 : Int), (0 : Int))), ((0 : Int), (0 : Int)))))).2.2.2.2) ((nthI a5 a4 ([], ([], (((0 : Int), ((0 : Int), (0 : Int))), ((0 : Int), (0 : Int)))))).1) ((nthI a5 a4 ([], ([], (((0 : Int), ((0 : Int), (0 : Int))), ((0 : Int), (0 : Int)))))).2.1)) fun r9 =>
    (bif decide ((0 : Int) ≤ a4 ∧ a4 < (a6.length : Int)) then
    (let v10 : List (List (Int × Int) × List (Int × Int) × (Int × Int × Int) × Int × Int) := (a6.set (Int.toNat a4) (r9.2.2.2.2.2.1, (r9.2.2.2.2.2.2, ((r9.1, (r9.2.1, r9.2.2.1)), (r9.2.2.2.1, r9.2.2.2.2.1)))))
    (L.toQueryS_l0 m e3_0 (IntKind.wrap .i64 (a4 + 1)) a5 v10))
    else
    none))
    else
    none)
    else
    (e3_0 a6))
noncomputable def L.toQueryS (a1 : List (List (Int × Int) × List (Int × Int) × (Int × Int × Int) × Int × Int)) : Option ((List (List (Int × Int) × List (Int × Int) × (Int × Int × Int) × Int × Int))) :=
(let v2 : Int := (a1.length : Int)
(bif decide ((0 : Int) ≤ v2 ∧ v2 ≤ v2 ∧ (88 : Int) * v2 ≤ 281474976710656 ∧ v2 ≤ 9223372036854775807) then
(let v3 : List (List (Int × Int) × List (Int × Int) × (Int × Int × Int) × Int × Int) := (List.replicate (Int.toNat v2) ([], ([], ((0, (0, 0)), (0, 0)))))
(L.toQueryS_l0 fu (fun y12 =>
(some y12)) 0 a1 v3))
else
none))
noncomputable def H130_3 : LoopH := ⟨⟨((.one (.sl 0)) :: (hu 2 ((.one (.sl 1)) :: hh :: (hu 18 [])))), [], [(231, (.pair (.sl 269 (.pair (.int .i64) (.int .i64))) (.pair (.sl 269 (.pair (.int .i64) (.int .i64))) (.pair (.pair (.int .i64) (.pair (.int .i64) (.int .i64))) (.pair (.int .i64) (.int .i64))))), .ro), (173, (.pair (.sl 260 (.pair (.int .i64) (.int .i64))) (.pair (.sl 260 (.pair (.int .i64) (.int .i64))) (.pair (.pair (.int .i64) (.pair (.int .i64) (.int .i64))) (.pair (.int .i64) (.int .i64))))), .own)]⟩, [1, 2, 5, 6, 7, 8, 9, 10, 11, 12, 13, 14, 15, 16, 17, 18, 19, 20, 21, 22], [], [0, 1, 4, 5, 6, 7, 8, 9, 10, 11, 12, 13, 14, 15, 16, 17, 18, 19, 20, 21, 22]⟩
noncomputable def E130_3 (m : Nat) (ps : List Prm) (k : Kont ((List (List (Int × Int) × List (Int × Int) × (Int × Int × Int) × Int × Int)))) : Option ((List (List (Int × Int) × List (Int × Int) × (Int × Int × Int) × Int × Int))) :=
  match ps with
  | [.v (.int .i64 a4), .row (.pair (.sl 269 (.pair (.int .i64) (.int .i64))) (.pair (.sl 269 (.pair (.int .i64) (.int .i64))) (.pair (.pair (.int .i64) (.pair (.int .i64) (.int .i64))) (.pair (.int .i64) (.int .i64))))) a5, .row (.pair (.sl 260 (.pair (.int .i64) (.int .i64))) (.pair (.sl 260 (.pair (.int .i64) (.int .i64))) (.pair (.pair (.int .i64) (.pair (.int .i64) (.int .i64))) (.pair (.int .i64) (.int .i64))))) a6] => L.toQueryS_l0 m (fun z14 => k (.exit 0) (⟨(vu 3 ((vl 0) :: (vu 19 []))), [], [⟨173, (.pair (.sl 260 (.pair (.int .i64) (.int .i64))) (.pair (.sl 260 (.pair (.int .i64) (.int .i64))) (.pair (.pair (.int .i64) (.pair (.int .i64) (.int .i64))) (.pair (.int .i64) (.int .i64))))), z14, .own⟩]⟩ : St)) a4 a5 a6
  | _ => none
noncomputable def S130_3 (a4 : Int) (a5 a6 : List (List (Int × Int) × List (Int × Int) × (Int × Int × Int) × Int × Int)) : St := (⟨((vl 0) :: (vu 2 ((vl 1) :: (vi a4) :: (vu 18 [])))), [], [⟨231, (.pair (.sl 269 (.pair (.int .i64) (.int .i64))) (.pair (.sl 269 (.pair (.int .i64) (.int .i64))) (.pair (.pair (.int .i64) (.pair (.int .i64) (.int .i64))) (.pair (.int .i64) (.int .i64))))), a5, .ro⟩, ⟨173, (.pair (.sl 260 (.pair (.int .i64) (.int .i64))) (.pair (.sl 260 (.pair (.int .i64) (.int .i64))) (.pair (.pair (.int .i64) (.pair (.int .i64) (.int .i64))) (.pair (.int .i64) (.int .i64))))), a6, .own⟩]⟩ : St)
theorem ev130_3 (m : Nat) (k : Kont ((List (List (Int × Int) × List (Int × Int) × (Int × Int × Int) × Int × Int)))) (a4 : Int) (a5 a6 : List (List (Int × Int) × List (Int × Int) × (Int × Int × Int) × Int × Int)) : evC Try.prog G130 loopNil c130_3 (S130_3 a4 a5 a6) (turn Try.prog (0, 0) H130_3 (E130_3 m) k) = E130_3 (m + 1) [.v (.int .i64 a4), .row (.pair (.sl 269 (.pair (.int .i64) (.int .i64))) (.pair (.sl 269 (.pair (.int .i64) (.int .i64))) (.pair (.pair (.int .i64) (.pair (.int .i64) (.int .i64))) (.pair (.int .i64) (.int .i64))))) a5, .row (.pair (.sl 260 (.pair (.int .i64) (.int .i64))) (.pair (.sl 260 (.pair (.int .i64) (.int .i64))) (.pair (.pair (.int .i64) (.pair (.int .i64) (.int .i64))) (.pair (.int .i64) (.int .i64))))) a6] k := by kernel_rfl
theorem ok130_3 (m : Nat) : LoopOk Try.prog (0, 0) c130_3 (enter Try.prog (0, 0) H130_3 (E130_3 m)) := by
  refine loop_ok (G := G130) (L := loopNil) (envCons_good good182 envNil_good) (by intro x hx; simp [show loopsOf c130_3 = [] from by kernel_rfl] at hx) (fun ps k => by unfold E130_3; split <;> rfl) (fun m ps k r h => ?_) m
  have h0 := h
  unfold E130_3 at h
  split at h
  · exact ⟨S130_3 _ _ _, by kernel_rfl, (ev130_3 m k _ _ _).trans h0⟩
  · cases h
noncomputable def L130 : LEnv ((List (List (Int × Int) × List (Int × Int) × (Int × Int × Int) × Int × Int))) := (loopCons 3 (enter Try.prog (0, 0) H130_3 (E130_3 fu)) loopNil)
theorem lq130 : loopsOf c130 = [c130_3] := by kernel_rfl
theorem fr130_3 : firstReg c130_3 = some 3 := by kernel_rfl
theorem le130_3 : L130 3 = enter Try.prog (0, 0) H130_3 (E130_3 fu) := by kernel_rfl
theorem lm130 : ∀ x ∈ [c130_3], ∀ id, firstReg x = some id → LoopOk Try.prog (0, 0) x (L130 id) := (loops_cons fr130_3 le130_3 (ok130_3 fu) loops_nil)
theorem lp130 : ∀ x ∈ loopsOf c130, ∀ id, firstReg x = some id → LoopOk Try.prog (0, 0) x (L130 id) := loops_eq lq130 lm130
noncomputable def R130 (x : (List (List (Int × Int) × List (Int × Int) × (Int × Int × Int) × Int × Int))) : Res := ⟨[.one (.sl 0)], [], [⟨173, (.pair (.sl 260 (.pair (.int .i64) (.int .i64))) (.pair (.sl 260 (.pair (.int .i64) (.int .i64))) (.pair (.pair (.int .i64) (.pair (.int .i64) (.int .i64))) (.pair (.int .i64) (.int .i64))))), x, .own⟩]⟩
noncomputable def K130 (r : Res) : Option ((List (List (Int × Int) × List (Int × Int) × (Int × Int × Int) × Int × Int))) :=
  match r with
  | ⟨[.one (.sl 0)], [], [⟨173, (.pair (.sl 260 (.pair (.int .i64) (.int .i64))) (.pair (.sl 260 (.pair (.int .i64) (.int .i64))) (.pair (.pair (.int .i64) (.pair (.int .i64) (.int .i64))) (.pair (.int .i64) (.int .i64))))), v1, .own⟩]⟩ => some (v1)
  | _ => none
noncomputable def E130 : Fun2 := fun args bs rs =>
  match args, bs, rs with
  | [.s1 (.one (.sl 0))], [], [⟨231, (.pair (.sl 269 (.pair (.int .i64) (.int .i64))) (.pair (.sl 269 (.pair (.int .i64) (.int .i64))) (.pair (.pair (.int .i64) (.pair (.int .i64) (.int .i64))) (.pair (.int .i64) (.int .i64))))), a1, .ro⟩] => some ⟨(List (List (Int × Int) × List (Int × Int) × (Int × Int × Int) × Int × Int)), L.toQueryS a1, R130⟩
  | _, _, _ => none
theorem ev130 (a1 : List (List (Int × Int) × List (Int × Int) × (Int × Int × Int) × Int × Int)) : evF Try.prog G130 L130 (0, 0) Try.f130 c130 [vl 0] [] [⟨231, (.pair (.sl 269 (.pair (.int .i64) (.int .i64))) (.pair (.sl 269 (.pair (.int .i64) (.int .i64))) (.pair (.pair (.int .i64) (.pair (.int .i64) (.int .i64))) (.pair (.int .i64) (.int .i64))))), a1, .ro⟩] K130 = L.toQueryS a1 := by kernel_rfl
theorem good130 : Vm.Good Try.prog 130 E130 := by
  refine evF_good (G := G130) (c := c130) (envCons_good good182 envNil_good) Try.func130 (by kernel_rfl) (by kernel_rfl) (0, 0) (fun args bs rs out t h h2 => ?_)
  unfold E130 at h
  split at h
  · injection h with h
    subst h
    exact ⟨rfl, L130, K130, lp130, (fun r t h => by unfold K130 at h; split at h; (injection h with h; subst h; rfl); cases h), (ev130 _).trans h2⟩
  · cases h
/-! ### L.toSub -/
noncomputable def G183 : Env := envNil
noncomputable def c183 : Code := bodyOf Try.f183
noncomputable def L.toSub (a1 a2 a3 : Int) : Option (Int × Int × Int) :=
(some (a1, a2, a3))
noncomputable def R183 (x : Int × Int × Int) : Res := ⟨[.agg [ai x.1, ai x.2.1, ai x.2.2]], [], []⟩
noncomputable def K183 (r : Res) : Option (Int × Int × Int) :=
  match r with
  | ⟨[.agg [.val (.int .i64 v1), .val (.int .i64 v2), .val (.int .i64 v3)]], [], []⟩ => some (v1, v2, v3)
  | _ => none
noncomputable def E183 : Fun2 := fun args bs rs =>
  match args, bs, rs with
  | [.s1 (.agg [.val (.int .i64 a1), .val (.int .i64 a2), .val (.int .i64 a3)])], [], [] => some ⟨Int × Int × Int, L.toSub a1 a2 a3, R183⟩
  | _, _, _ => none
theorem ev183 (a1 a2 a3 : Int) : evF Try.prog G183 loopNil (0, 0) Try.f183 c183 [.s1 (.agg [ai a1, ai a2, ai a3])] [] [] K183 = L.toSub a1 a2 a3 := by kernel_rfl
theorem good183 : Vm.Good Try.prog 183 E183 := by
  refine evF_good (G := G183) (c := c183) envNil_good Try.func183 (by kernel_rfl) (by kernel_rfl) (0, 0) (fun args bs rs out t h h2 => ?_)
  unfold E183 at h
  split at h
  · injection h with h
    subst h
    exact ⟨rfl, loopNil, K183, (by intro x hx; simp [show loopsOf c183 = [] from by kernel_rfl] at hx), (fun r t h => by unfold K183 at h; split at h; (injection h with h; subst h; rfl); cases h), (ev183 _ _ _).trans h2⟩
  · cases h
/-! ### L.toSubS -/
noncomputable def G131 : Env := (envCons 183 [] E183 envNil)
noncomputable def c131 : Code := bodyOf Try.f131
noncomputable def c131_3 : Code := (loopsOf c131).getD 0 .skip
noncomputable def L.toSubS_l0 : Nat → ((List (Int × Int × Int)) → Option ((List (Int × Int × Int)))) → Int → (List (Int × Int × Int)) → (List (Int × Int × Int)) → Option ((List (Int × Int × Int)))
  | 0, _, _, _, _ => none
  | m + 1, e3_0, a4, a5, a6 =>
    (bif (decide (a4 < (a5.length : Int))) then
    (bif decide ((0 : Int) ≤ a4 ∧ a4 < (a5.length : Int)) then
    (Option.bind (L.toSub ((nthI a5 a4 ((0 : Int), ((0 : Int), (0 : Int)))).1) ((nthI a5 a4 ((0 : Int), ((0 : Int), (0 : Int)))).2.1) ((nthI a5 a4 ((0 : Int), ((0 : Int), (0 : Int)))).2.2)) fun r9 =>
    (bif decide ((0 : Int) ≤ a4 ∧ a4 < (a6.length : Int)) then
    (L.toSubS_l0 m e3_0 (IntKind.wrap .i64 (a4 + 1)) a5 (a6.set (Int.toNat a4) (r9.1, (r9.2.1, r9.2.2))))
    else
    none))
    else
    none)
    else
    (e3_0 a6))
noncomputable def L.toSubS (a1 : List (Int × Int × Int)) : Option ((List (Int × Int × Int))) :=
(let v2 : Int := (a1.length : Int)
(bif decide ((0 : Int) ≤ v2 ∧ v2 ≤ v2 ∧ (24 : Int) * v2 ≤ 281474976710656 ∧ v2 ≤ 9223372036854775807) then
(L.toSubS_l0 fu (fun y12 =>
(some y12)) 0 a1 (List.replicate (Int.toNat v2) (0, (0, 0))))
else
none))
noncomputable def H131_3 : LoopH := ⟨⟨((.one (.sl 0)) :: (hu 2 ((.one (.sl 1)) :: hh :: (hu 18 [])))), [], [(236, (.pair (.int .i64) (.pair (.int .i64) (.int .i64))), .ro), (175, (.pair (.int .i64) (.pair (.int .i64) (.int .i64))), .own)]⟩, [1, 2, 5, 6, 7, 8, 9, 10, 11, 12, 13, 14, 15, 16, 17, 18, 19, 20, 21, 22], [], [0, 1, 4, 5, 6, 7, 8, 9, 10, 11, 12, 13, 14, 15, 16, 17, 18, 19, 20, 21, 22]⟩
noncomputable def E131_3 (m : Nat) (ps : List Prm) (k : Kont ((List (Int × Int × Int)))) : Option ((List (Int × Int × Int))) :=
  match ps with
  | [.v (.int .i64 a4), .row (.pair (.int .i64) (.pair (.int .i64) (.int .i64))) a5, .row (.pair (.int .i64) (.pair (.int .i64) (.int .i64))) a6] => L.toSubS_l0 m (fun z14 => k (.exit 0) (⟨(vu 3 ((vl 0) :: (vu 19 []))), [], [⟨175, (.pair (.int .i64) (.pair (.int .i64) (.int .i64))), z14, .own⟩]⟩ : St)) a4 a5 a6
  | _ => none
noncomputable def S131_3 (a4 : Int) (a5 a6 : List (Int × Int × Int)) : St := (⟨((vl 0) :: (vu 2 ((vl 1) :: (vi a4) :: (vu 18 [])))), [], [⟨236, (.pair (.int .i64) (.pair (.int .i64) (.int .i64))), a5, .ro⟩, ⟨175, (.pair (.int .i64) (.pair (.int .i64) (.int .i64))), a6, .own⟩]⟩ : St)
theorem ev131_3 (m : Nat) (k : Kont ((List (Int × Int × Int)))) (a4 : Int) (a5 a6 : List (Int × Int × Int)) : evC Try.prog G131 loopNil c131_3 (S131_3 a4 a5 a6) (turn Try.prog (0, 0) H131_3 (E131_3 m) k) = E131_3 (m + 1) [.v (.int .i64 a4), .row (.pair (.int .i64) (.pair (.int .i64) (.int .i64))) a5, .row (.pair (.int .i64) (.pair (.int .i64) (.int .i64))) a6] k := by kernel_rfl
theorem ok131_3 (m : Nat) : LoopOk Try.prog (0, 0) c131_3 (enter Try.prog (0, 0) H131_3 (E131_3 m)) := by
  refine loop_ok (G := G131) (L := loopNil) (envCons_good good183 envNil_good) (by intro x hx; simp [show loopsOf c131_3 = [] from by kernel_rfl] at hx) (fun ps k => by unfold E131_3; split <;> rfl) (fun m ps k r h => ?_) m
  have h0 := h
  unfold E131_3 at h
  split at h
  · exact ⟨S131_3 _ _ _, by kernel_rfl, (ev131_3 m k _ _ _).trans h0⟩
  · cases h
noncomputable def L131 : LEnv ((List (Int × Int × Int))) := (loopCons 3 (enter Try.prog (0, 0) H131_3 (E131_3 fu)) loopNil)
theorem lq131 : loopsOf c131 = [c131_3] := by kernel_rfl
theorem fr131_3 : firstReg c131_3 = some 3 := by kernel_rfl
theorem le131_3 : L131 3 = enter Try.prog (0, 0) H131_3 (E131_3 fu) := by kernel_rfl
theorem lm131 : ∀ x ∈ [c131_3], ∀ id, firstReg x = some id → LoopOk Try.prog (0, 0) x (L131 id) := (loops_cons fr131_3 le131_3 (ok131_3 fu) loops_nil)
theorem lp131 : ∀ x ∈ loopsOf c131, ∀ id, firstReg x = some id → LoopOk Try.prog (0, 0) x (L131 id) := loops_eq lq131 lm131
noncomputable def R131 (x : (List (Int × Int × Int))) : Res := ⟨[.one (.sl 0)], [], [⟨175, (.pair (.int .i64) (.pair (.int .i64) (.int .i64))), x, .own⟩]⟩
noncomputable def K131 (r : Res) : Option ((List (Int × Int × Int))) :=
  match r with
  | ⟨[.one (.sl 0)], [], [⟨175, (.pair (.int .i64) (.pair (.int .i64) (.int .i64))), v1, .own⟩]⟩ => some (v1)
  | _ => none
noncomputable def E131 : Fun2 := fun args bs rs =>
  match args, bs, rs with
  | [.s1 (.one (.sl 0))], [], [⟨236, (.pair (.int .i64) (.pair (.int .i64) (.int .i64))), a1, .ro⟩] => some ⟨(List (Int × Int × Int)), L.toSubS a1, R131⟩
  | _, _, _ => none
theorem ev131 (a1 : List (Int × Int × Int)) : evF Try.prog G131 L131 (0, 0) Try.f131 c131 [vl 0] [] [⟨236, (.pair (.int .i64) (.pair (.int .i64) (.int .i64))), a1, .ro⟩] K131 = L.toSubS a1 := by kernel_rfl
theorem good131 : Vm.Good Try.prog 131 E131 := by
  refine evF_good (G := G131) (c := c131) (envCons_good good183 envNil_good) Try.func131 (by kernel_rfl) (by kernel_rfl) (0, 0) (fun args bs rs out t h h2 => ?_)
  unfold E131 at h
  split at h
  · injection h with h
    subst h
    exact ⟨rfl, L131, K131, lp131, (fun r t h => by unfold K131 at h; split at h; (injection h with h; subst h; rfl); cases h), (ev131 _).trans h2⟩
  · cases h
/-! ### L.toRule -/
noncomputable def G184 : Env := envNil
noncomputable def c184 : Code := bodyOf Try.f184
noncomputable def L.toRule (a1 a2 a3 a4 a5 : Int) : Option (Int × Int × Int × Int × Int) :=
(some (a1, a2, a3, a4, a5))
noncomputable def R184 (x : Int × Int × Int × Int × Int) : Res := ⟨[.agg [ai x.1, ai x.2.1, ai x.2.2.1, ai x.2.2.2.1, ai x.2.2.2.2]], [], []⟩
noncomputable def K184 (r : Res) : Option (Int × Int × Int × Int × Int) :=
  match r with
  | ⟨[.agg [.val (.int .i64 v1), .val (.int .i64 v2), .val (.int .i64 v3), .val (.int .i64 v4), .val (.int .i64 v5)]], [], []⟩ => some (v1, v2, v3, v4, v5)
  | _ => none
noncomputable def E184 : Fun2 := fun args bs rs =>
  match args, bs, rs with
  | [.s1 (.agg [.val (.int .i64 a1), .val (.int .i64 a2), .val (.int .i64 a3), .val (.int .i64 a4), .val (.int .i64 a5)])], [], [] => some ⟨Int × Int × Int × Int × Int, L.toRule a1 a2 a3 a4 a5, R184⟩
  | _, _, _ => none
theorem ev184 (a1 a2 a3 a4 a5 : Int) : evF Try.prog G184 loopNil (0, 0) Try.f184 c184 [.s1 (.agg [ai a1, ai a2, ai a3, ai a4, ai a5])] [] [] K184 = L.toRule a1 a2 a3 a4 a5 := by kernel_rfl
theorem good184 : Vm.Good Try.prog 184 E184 := by
  refine evF_good (G := G184) (c := c184) envNil_good Try.func184 (by kernel_rfl) (by kernel_rfl) (0, 0) (fun args bs rs out t h h2 => ?_)
  unfold E184 at h
  split at h
  · injection h with h
    subst h
    exact ⟨rfl, loopNil, K184, (by intro x hx; simp [show loopsOf c184 = [] from by kernel_rfl] at hx), (fun r t h => by unfold K184 at h; split at h; (injection h with h; subst h; rfl); cases h), (ev184 _ _ _ _ _).trans h2⟩
  · cases h
/-! ### L.toRuleS -/
noncomputable def G132 : Env := (envCons 184 [] E184 envNil)
noncomputable def c132 : Code := bodyOf Try.f132
noncomputable def c132_3 : Code := (loopsOf c132).getD 0 .skip
noncomputable def L.toRuleS_l0 : Nat → ((List (Int × Int × Int × Int × Int)) → Option ((List (Int × Int × Int × Int × Int)))) → Int → (List (Int × Int × Int × Int × Int)) → (List (Int × Int × Int × Int × Int)) → Option ((List (Int × Int × Int × Int × Int)))
  | 0, _, _, _, _ => none
  | m + 1, e3_0, a4, a5, a6 =>
    (bif (decide (a4 < (a5.length : Int))) then
    (bif decide ((0 : Int) ≤ a4 ∧ a4 < (a5.length : Int)) then
    (Option.bind (L.toRule ((nthI a5 a4 ((0 : Int), ((0 : Int), ((0 : Int), ((0 : Int), (0 : Int)))))).1) ((nthI a5 a4 ((0 : Int), ((0 : Int), ((0 : Int), ((0 : Int), (0 : Int)))))).2.1) ((nthI a5 a4 ((0 : Int), ((0 : Int), ((0 : Int), ((0 : Int), (0 : Int)))))).2.2.1) ((nthI a5 a4 ((0 : Int), ((0 : Int), ((0 : Int), ((0 : Int), (0 : Int)))))).2.2.2.1) ((nthI a5 a4 ((0 : Int), ((0 : Int), ((0 : Int), ((0 : Int), (0 : Int)))))).2.2.2.2)) fun r9 =>
    (bif decide ((0 : Int) ≤ a4 ∧ a4 < (a6.length : Int)) then
    (let v10 : List (Int × Int × Int × Int × Int) := (a6.set (Int.toNat a4) (r9.1, (r9.2.1, (r9.2.2.1, (r9.2.2.2.1, r9.2.2.2.2)))))
    (L.toRuleS_l0 m e3_0 (IntKind.wrap .i64 (a4 + 1)) a5 v10))
    else
    none))
    else
    none)
    else
    (e3_0 a6))
noncomputable def L.toRuleS (a1 : List (Int × Int × Int × Int × Int)) : Option ((List (Int × Int × Int × Int × Int))) :=
(let v2 : Int := (a1.length : Int)
(bif decide ((0 : Int) ≤ v2 ∧ v2 ≤ v2 ∧ (40 : Int) * v2 ≤ 281474976710656 ∧ v2 ≤ 9223372036854775807) then
(L.toRuleS_l0 fu (fun y12 =>
(some y12)) 0 a1 (List.replicate (Int.toNat v2) (0, (0, (0, (0, 0))))))
else
none))
noncomputable def H132_3 : LoopH := ⟨⟨((.one (.sl 0)) :: (hu 2 ((.one (.sl 1)) :: hh :: (hu 18 [])))), [], [(238, (.pair (.int .i64) (.pair (.int .i64) (.pair (.int .i64) (.pair (.int .i64) (.int .i64))))), .ro), (178, (.pair (.int .i64) (.pair (.int .i64) (.pair (.int .i64) (.pair (.int .i64) (.int .i64))))), .own)]⟩, [1, 2, 5, 6, 7, 8, 9, 10, 11, 12, 13, 14, 15, 16, 17, 18, 19, 20, 21, 22], [], [0, 1, 4, 5, 6, 7, 8, 9, 10, 11, 12, 13, 14, 15, 16, 17, 18, 19, 20, 21, 22]⟩
noncomputable def E132_3 (m : Nat) (ps : List Prm) (k : Kont ((List (Int × Int × Int × Int × Int)))) : Option ((List (Int × Int × Int × Int × Int))) :=
  match ps with
  | [.v (.int .i64 a4), .row (.pair (.int .i64) (.pair (.int .i64) (.pair (.int .i64) (.pair (.int .i64) (.int .i64))))) a5, .row (.pair (.int .i64) (.pair (.int .i64) (.pair (.int .i64) (.pair (.int .i64) (.int .i64))))) a6] => L.toRuleS_l0 m (fun z14 => k (.exit 0) (⟨(vu 3 ((vl 0) :: (vu 19 []))), [], [⟨178, (.pair (.int .i64) (.pair (.int .i64) (.pair (.int .i64) (.pair (.int .i64) (.int .i64))))), z14, .own⟩]⟩ : St)) a4 a5 a6
  | _ => none
noncomputable def S132_3 (a4 : Int) (a5 a6 : List (Int × Int × Int × Int × Int)) : St := (⟨((vl 0) :: (vu 2 ((vl 1) :: (vi a4) :: (vu 18 [])))), [], [⟨238, (.pair (.int .i64) (.pair (.int .i64) (.pair (.int .i64) (.pair (.int .i64) (.int .i64))))), a5, .ro⟩, ⟨178, (.pair (.int .i64) (.pair (.int .i64) (.pair (.int .i64) (.pair (.int .i64) (.int .i64))))), a6, .own⟩]⟩ : St)
theorem ev132_3 (m : Nat) (k : Kont ((List (Int × Int × Int × Int × Int)))) (a4 : Int) (a5 a6 : List (Int × Int × Int × Int × Int)) : evC Try.prog G132 loopNil c132_3 (S132_3 a4 a5 a6) (turn Try.prog (0, 0) H132_3 (E132_3 m) k) = E132_3 (m + 1) [.v (.int .i64 a4), .row (.pair (.int .i64) (.pair (.int .i64) (.pair (.int .i64) (.pair (.int .i64) (.int .i64))))) a5, .row (.pair (.int .i64) (.pair (.int .i64) (.pair (.int .i64) (.pair (.int .i64) (.int .i64))))) a6] k := by kernel_rfl
theorem ok132_3 (m : Nat) : LoopOk Try.prog (0, 0) c132_3 (enter Try.prog (0, 0) H132_3 (E132_3 m)) := by
  refine loop_ok (G := G132) (L := loopNil) (envCons_good good184 envNil_good) (by intro x hx; simp [show loopsOf c132_3 = [] from by kernel_rfl] at hx) (fun ps k => by unfold E132_3; split <;> rfl) (fun m ps k r h => ?_) m
  have h0 := h
  unfold E132_3 at h
  split at h
  · exact ⟨S132_3 _ _ _, by kernel_rfl, (ev132_3 m k _ _ _).trans h0⟩
  · cases h
noncomputable def L132 : LEnv ((List (Int × Int × Int × Int × Int))) := (loopCons 3 (enter Try.prog (0, 0) H132_3 (E132_3 fu)) loopNil)
theorem lq132 : loopsOf c132 = [c132_3] := by kernel_rfl
theorem fr132_3 : firstReg c132_3 = some 3 := by kernel_rfl
theorem le132_3 : L132 3 = enter Try.prog (0, 0) H132_3 (E132_3 fu) := by kernel_rfl
theorem lm132 : ∀ x ∈ [c132_3], ∀ id, firstReg x = some id → LoopOk Try.prog (0, 0) x (L132 id) := (loops_cons fr132_3 le132_3 (ok132_3 fu) loops_nil)
theorem lp132 : ∀ x ∈ loopsOf c132, ∀ id, firstReg x = some id → LoopOk Try.prog (0, 0) x (L132 id) := loops_eq lq132 lm132
noncomputable def R132 (x : (List (Int × Int × Int × Int × Int))) : Res := ⟨[.one (.sl 0)], [], [⟨178, (.pair (.int .i64) (.pair (.int .i64) (.pair (.int .i64) (.pair (.int .i64) (.int .i64))))), x, .own⟩]⟩
noncomputable def K132 (r : Res) : Option ((List (Int × Int × Int × Int × Int))) :=
  match r with
  | ⟨[.one (.sl 0)], [], [⟨178, (.pair (.int .i64) (.pair (.int .i64) (.pair (.int .i64) (.pair (.int .i64) (.int .i64))))), v1, .own⟩]⟩ => some (v1)
  | _ => none
noncomputable def E132 : Fun2 := fun args bs rs =>
  match args, bs, rs with
  | [.s1 (.one (.sl 0))], [], [⟨238, (.pair (.int .i64) (.pair (.int .i64) (.pair (.int .i64) (.pair (.int .i64) (.int .i64))))), a1, .ro⟩] => some ⟨(List (Int × Int × Int × Int × Int)), L.toRuleS a1, R132⟩
  | _, _, _ => none
theorem ev132 (a1 : List (Int × Int × Int × Int × Int)) : evF Try.prog G132 L132 (0, 0) Try.f132 c132 [vl 0] [] [⟨238, (.pair (.int .i64) (.pair (.int .i64) (.pair (.int .i64) (.pair (.int .i64) (.int .i64))))), a1, .ro⟩] K132 = L.toRuleS a1 := by kernel_rfl
theorem good132 : Vm.Good Try.prog 132 E132 := by
  refine evF_good (G := G132) (c := c132) (envCons_good good184 envNil_good) Try.func132 (by kernel_rfl) (by kernel_rfl) (0, 0) (fun args bs rs out t h h2 => ?_)
  unfold E132 at h
  split at h
  · injection h with h
    subst h
    exact ⟨rfl, L132, K132, lp132, (fun r t h => by unfold K132 at h; split at h; (injection h with h; subst h; rfl); cases h), (ev132 _).trans h2⟩
  · cases h
/-! ### L.toConf -/
noncomputable def G63 : Env := (envCons 32 [] E32 (envCons 130 [] E130 (envCons 131 [] E131 (envCons 132 [] E132 envNil))))
noncomputable def c63 : Code := bodyOf Try.f63
noncomputable def L.toConf (a1 a2 a3 : Int) (a4 : List Int) (a5 : List (List (Int × Int) × List (Int × Int) × (Int × Int × Int) × Int × Int)) (a6 : List (Int × Int × Int)) (a7 : List (Int × Int × Int × Int × Int)) : Option (Int × Int × Int × List Int × (List (List (Int × Int) × List (Int × Int) × (Int × Int × Int) × Int × Int)) × (List (Int × Int × Int)) × (List (Int × Int × Int × Int × Int))) :=
(Option.bind (L.toLat a1 a4) fun r8 =>
(Option.bind (L.toQueryS a5) fun r9 =>
(Option.bind (L.toSubS a6) fun r10 =>
(Option.bind (L.toRuleS a7) fun r11 =>
(some (r8.1, a2, a3, r8.2, r9, r10, r11))))))
noncomputable def R63 (x : Int × Int × Int × List Int × (List (List (Int × Int) × List (Int × Int) × (Int × Int × Int) × Int × Int)) × (List (Int × Int × Int)) × (List (Int × Int × Int × Int × Int))) : Res := ⟨[.agg [ai x.1, .sl 0, ai x.2.1, ai x.2.2.1, .sl 1, .sl 2, .sl 3]], [], [⟨145, (.int .u64), x.2.2.2.1, .own⟩, ⟨173, (.pair (.sl 260 (.pair (.int .i64) (.int .i64))) (.pair (.sl 260 (.pair (.int .i64) (.int .i64))) (.pair (.pair (.int .i64) (.pair (.int .i64) (.int .i64))) (.pair (.int .i64) (.int .i64))))), x.2.2.2.2.1, .own⟩, ⟨175, (.pair (.int .i64) (.pair (.int .i64) (.int .i64))), x.2.2.2.2.2.1, .own⟩, ⟨178, (.pair (.int .i64) (.pair (.int .i64) (.pair (.int .i64) (.pair (.int .i64) (.int .i64))))), x.2.2.2.2.2.2, .own⟩]⟩
noncomputable def K63 (r : Res) : Option (Int × Int × Int × List Int × (List (List (Int × Int) × List (Int × Int) × (Int × Int × Int) × Int × Int)) × (List (Int × Int × Int)) × (List (Int × Int × Int × Int × Int))) :=
  match r with
  | ⟨[.agg [.val (.int .i64 v1), .sl 0, .val (.int .i64 v2), .val (.int .i64 v3), .sl 1, .sl 2, .sl 3]], [], [⟨145, (.int .u64), v4, .own⟩, ⟨173, (.pair (.sl 260 (.pair (.int .i64) (.int .i64))) (.pair (.sl 260 (.pair (.int .i64) (.int .i64))) (.pair (.pair (.int .i64) (.pair (.int .i64) (.int .i64))) (.pair (.int .i64) (.int .i64))))), v5, .own⟩, ⟨175, (.pair (.int .i64) (.pair (.int .i64) (.int .i64))), v6, .own⟩, ⟨178, (.pair (.int .i64) (.pair (.int .i64) (.pair (.int .i64) (.pair (.int .i64) (.int .i64))))), v7, .own⟩]⟩ => some (v1, v2, v3, v4, v5, v6, v7)
  | _ => none
noncomputable def E63 : Fun2 := fun args bs rs =>
  match args, bs, rs with
  | [.s1 (.agg [.val (.int .i64 a1), .sl 0, .val (.int .i64 a2), .val (.int .i64 a3), .sl 1, .sl 2, .sl 3])], [], [⟨145, (.int .u64), a4, .ro⟩, ⟨231, (.pair (.sl 269 (.pair (.int .i64) (.int .i64))) (.pair (.sl 269 (.pair (.int .i64) (.int .i64))) (.pair (.pair (.int .i64) (.pair (.int .i64) (.int .i64))) (.pair (.int .i64) (.int .i64))))), a5, .ro⟩, ⟨236, (.pair (.int .i64) (.pair (.int .i64) (.int .i64))), a6, .ro⟩, ⟨238, (.pair (.int .i64) (.pair (.int .i64) (.pair (.int .i64) (.pair (.int .i64) (.int .i64))))), a7, .ro⟩] => some ⟨Int × Int × Int × List Int × (List (List (Int × Int) × List (Int × Int) × (Int × Int × Int) × Int × Int)) × (List (Int × Int × Int)) × (List (Int × Int × Int × Int × Int)), L.toConf a1 a2 a3 a4 a5 a6 a7, R63⟩
  | _, _, _ => none
theorem ev63 (a1 a2 a3 : Int) (a4 : List Int) (a5 : List (List (Int × Int) × List (Int × Int) × (Int × Int × Int) × Int × Int)) (a6 : List (Int × Int × Int)) (a7 : List (Int × Int × Int × Int × Int)) : evF Try.prog G63 loopNil (0, 0) Try.f63 c63 [.s1 (.agg [ai a1, .sl 0, ai a2, ai a3, .sl 1, .sl 2, .sl 3])] [] [⟨145, (.int .u64), a4, .ro⟩, ⟨231, (.pair (.sl 269 (.pair (.int .i64) (.int .i64))) (.pair (.sl 269 (.pair (.int .i64) (.int .i64))) (.pair (.pair (.int .i64) (.pair (.int .i64) (.int .i64))) (.pair (.int .i64) (.int .i64))))), a5, .ro⟩, ⟨236, (.pair (.int .i64) (.pair (.int .i64) (.int .i64))), a6, .ro⟩, ⟨238, (.pair (.int .i64) (.pair (.int .i64) (.pair (.int .i64) (.pair (.int .i64) (.int .i64))))), a7, .ro⟩] K63 = L.toConf a1 a2 a3 a4 a5 a6 a7 := by kernel_rfl
theorem good63 : Vm.Good Try.prog 63 E63 := by
  refine evF_good (G := G63) (c := c63) (envCons_good good32 (envCons_good good130 (envCons_good good131 (envCons_good good132 envNil_good)))) Try.func63 (by kernel_rfl) (by kernel_rfl) (0, 0) (fun args bs rs out t h h2 => ?_)
  unfold E63 at h
  split at h
  · injection h with h
    subst h
    exact ⟨rfl, loopNil, K63, (by intro x hx; simp [show loopsOf c63 = [] from by kernel_rfl] at hx), (fun r t h => by unfold K63 at h; split at h; (injection h with h; subst h; rfl); cases h), (ev63 _ _ _ _ _ _ _).trans h2⟩
  · cases h
/-! ### S.l01Bit -/
noncomputable def G154 : Env := envNil
noncomputable def c154 : Code := bodyOf Try.f154
noncomputable def S.l01Bit (a1 a2 : Int) : Option Bool :=
(let v3 : Int := (IntKind.wrap .u64 a2)
(bif decide ((0 : Int) ≤ v3) then
(some ((Go.bits .and .u64 (Int.fdiv a1 (2 ^ min (Int.toNat v3) (IntKind.bits .u64))) 1) == 1))
else
none))
noncomputable def R154 (x : Bool) : Res := ⟨[.one (ab x)], [], []⟩
noncomputable def K154 (r : Res) : Option Bool :=
  match r with
  | ⟨[.one (.val (.bool v1))], [], []⟩ => some (v1)
  | _ => none
noncomputable def E154 : Fun2 := fun args bs rs =>
  match args, bs, rs with
  | [.s1 (.one (.val (.int .u64 a1))), .s1 (.one (.val (.int .i64 a2)))], [], [] => some ⟨Bool, S.l01Bit a1 a2, R154⟩
  | _, _, _ => none
theorem ev154 (a1 a2 : Int) : evF Try.prog G154 loopNil (0, 0) Try.f154 c154 [vk .u64 a1, vi a2] [] [] K154 = S.l01Bit a1 a2 := by kernel_rfl
theorem good154 : Vm.Good Try.prog 154 E154 := by
  refine evF_good (G := G154) (c := c154) envNil_good Try.func154 (by kernel_rfl) (by kernel_rfl) (0, 0) (fun args bs rs out t h h2 => ?_)
  unfold E154 at h
  split at h
  · injection h with h
    subst h
    exact ⟨rfl, loopNil, K154, (by intro x hx; simp [show loopsOf c154 = [] from by kernel_rfl] at hx), (fun r t h => by unfold K154 at h; split at h; (injection h with h; subst h; rfl); cases h), (ev154 _ _).trans h2⟩
  · cases h
/-! ### S.l01Power -/
noncomputable def G155 : Env := envNil
noncomputable def c155 : Code := bodyOf Try.f155
noncomputable def c155_2 : Code := (loopsOf c155).getD 0 .skip
noncomputable def S.l01Power_l0 : Nat → (Int → Option Int) → Int → Int → Option Int
  | 0, _, _, _ => none
  | m + 1, e2_0, a2, a3 =>
    (bif (decide (0 < a2)) then
    (S.l01Power_l0 m e2_0 (IntKind.wrap .i64 (a2 - 1)) (IntKind.wrap .u64 (2 * a3)))
    else
    (e2_0 a3))
noncomputable def S.l01Power (a1 : Int) : Option Int :=
(S.l01Power_l0 fu (fun y7 =>
(some y7)) a1 1)
noncomputable def H155_2 : LoopH := ⟨⟨(hh :: (hu 2 (hh :: (hu 7 [])))), [], []⟩, [1, 2, 4, 5, 6, 7, 8, 9, 10], [], [0, 1, 4, 5, 6, 7, 8, 9, 10]⟩
noncomputable def E155_2 (m : Nat) (ps : List Prm) (k : Kont Int) : Option Int :=
  match ps with
  | [.v (.int .i64 a2), .v (.int .u64 a3)] => S.l01Power_l0 m (fun z9 => k (.exit 0) (⟨(vu 3 ((vk .u64 z9) :: (vu 7 []))), [], []⟩ : St)) a2 a3
  | _ => none
noncomputable def S155_2 (a2 a3 : Int) : St := (⟨((vi a2) :: (vu 2 ((vk .u64 a3) :: (vu 7 [])))), [], []⟩ : St)
theorem ev155_2 (m : Nat) (k : Kont Int) (a2 a3 : Int) : evC Try.prog G155 loopNil c155_2 (S155_2 a2 a3) (turn Try.prog (0, 0) H155_2 (E155_2 m) k) = E155_2 (m + 1) [.v (.int .i64 a2), .v (.int .u64 a3)] k := by kernel_rfl
theorem ok155_2 (m : Nat) : LoopOk Try.prog (0, 0) c155_2 (enter Try.prog (0, 0) H155_2 (E155_2 m)) := by
  refine loop_ok (G := G155) (L := loopNil) envNil_good (by intro x hx; simp [show loopsOf c155_2 = [] from by kernel_rfl] at hx) (fun ps k => by unfold E155_2; split <;> rfl) (fun m ps k r h => ?_) m
  have h0 := h
  unfold E155_2 at h
  split at h
  · exact ⟨S155_2 _ _, by kernel_rfl, (ev155_2 m k _ _).trans h0⟩
  · cases h
noncomputable def L155 : LEnv Int := (loopCons 2 (enter Try.prog (0, 0) H155_2 (E155_2 fu)) loopNil)
theorem lq155 : loopsOf c155 = [c155_2] := by kernel_rfl
theorem fr155_2 : firstReg c155_2 = some 2 := by kernel_rfl
theorem le155_2 : L155 2 = enter Try.prog (0, 0) H155_2 (E155_2 fu) := by kernel_rfl
theorem lm155 : ∀ x ∈ [c155_2], ∀ id, firstReg x = some id → LoopOk Try.prog (0, 0) x (L155 id) := (loops_cons fr155_2 le155_2 (ok155_2 fu) loops_nil)
theorem lp155 : ∀ x ∈ loopsOf c155, ∀ id, firstReg x = some id → LoopOk Try.prog (0, 0) x (L155 id) := loops_eq lq155 lm155
noncomputable def R155 (x : Int) : Res := ⟨[.one (ak .u64 x)], [], []⟩
noncomputable def K155 (r : Res) : Option Int :=
  match r with
  | ⟨[.one (.val (.int .u64 v1))], [], []⟩ => some (v1)
  | _ => none
noncomputable def E155 : Fun2 := fun args bs rs =>
  match args, bs, rs with
  | [.s1 (.one (.val (.int .i64 a1)))], [], [] => some ⟨Int, S.l01Power a1, R155⟩
  | _, _, _ => none
theorem ev155 (a1 : Int) : evF Try.prog G155 L155 (0, 0) Try.f155 c155 [vi a1] [] [] K155 = S.l01Power a1 := by kernel_rfl
theorem good155 : Vm.Good Try.prog 155 E155 := by
  refine evF_good (G := G155) (c := c155) envNil_good Try.func155 (by kernel_rfl) (by kernel_rfl) (0, 0) (fun args bs rs out t h h2 => ?_)
  unfold E155 at h
  split at h
  · injection h with h
    subst h
    exact ⟨rfl, L155, K155, lp155, (fun r t h => by unfold K155 at h; split at h; (injection h with h; subst h; rfl); cases h), (ev155 _).trans h2⟩
  · cases h
/-! ### S.l01Side -/
noncomputable def G156 : Env := (envCons 154 [] E154 envNil)
noncomputable def c156 : Code := bodyOf Try.f156
noncomputable def S.l01Side (a1 a2 a3 : Int) (a4 : Bool) (a5 : List Int) : Option Bool :=
(bif a4 then
(bif decide ((0 : Int) ≤ a2 ∧ a2 < (a5.length : Int)) then
(Option.bind (S.l01Bit (nthI a5 a2 (0 : Int)) a3) fun r6 =>
(some r6))
else
none)
else
(bif decide ((0 : Int) ≤ a3 ∧ a3 < (a5.length : Int)) then
(Option.bind (S.l01Bit (nthI a5 a3 (0 : Int)) a2) fun r7 =>
(some r7))
else
none))
noncomputable def R156 (x : Bool) : Res := ⟨[.one (ab x)], [], []⟩
noncomputable def K156 (r : Res) : Option Bool :=
  match r with
  | ⟨[.one (.val (.bool v1))], [], []⟩ => some (v1)
  | _ => none
noncomputable def E156 : Fun2 := fun args bs rs =>
  match args, bs, rs with
  | [.s1 (.agg [.val (.int .i64 a1), .sl 0]), .s1 (.one (.val (.int .i64 a2))), .s1 (.one (.val (.int .i64 a3))), .s1 (.one (.val (.bool a4)))], [], [⟨145, (.int .u64), a5, .ro⟩] => some ⟨Bool, S.l01Side a1 a2 a3 a4 a5, R156⟩
  | _, _, _ => none
theorem ev156 (a1 a2 a3 : Int) (a4 : Bool) (a5 : List Int) : evF Try.prog G156 loopNil (0, 0) Try.f156 c156 [.s1 (.agg [ai a1, .sl 0]), vi a2, vi a3, vb a4] [] [⟨145, (.int .u64), a5, .ro⟩] K156 = S.l01Side a1 a2 a3 a4 a5 := by kernel_rfl
theorem good156 : Vm.Good Try.prog 156 E156 := by
  refine evF_good (G := G156) (c := c156) (envCons_good good154 envNil_good) Try.func156 (by kernel_rfl) (by kernel_rfl) (0, 0) (fun args bs rs out t h h2 => ?_)
  unfold E156 at h
  split at h
  · injection h with h
    subst h
    exact ⟨rfl, loopNil, K156, (by intro x hx; simp [show loopsOf c156 = [] from by kernel_rfl] at hx), (fun r t h => by unfold K156 at h; split at h; (injection h with h; subst h; rfl); cases h), (ev156 _ _ _ _ _).trans h2⟩
  · cases h
/-! ### S.l01Bound -/
noncomputable def G95 : Env := (envCons 156 [] E156 envNil)
noncomputable def c95 : Code := bodyOf Try.f95
noncomputable def c95_2 : Code := (loopsOf c95).getD 0 .skip
noncomputable def c95_6 : Code := (loopsOf c95_2).getD 0 .skip
noncomputable def S.l01Bound_l1 : Nat → (Int → Int → Bool → Int → Bool → Int → List Int → Option Int) → Int → Int → Bool → Int → Bool → Int → Int → List Int → Option Int
  | 0, _, _, _, _, _, _, _, _, _ => none
  | m + 1, e6_0, a15, a16, a17, a18, a19, a20, a21, a22 =>
    (bif (decide (a20 < a21)) then
    (bif a19 then
    (Option.bind (S.l01Side a21 a15 a20 a17 a22) fun r24 =>
    (bif r24 then
    (Option.bind (S.l01Side a21 a16 a20 a17 a22) fun r25 =>
    (bif r25 then
    (Option.bind (S.l01Side a21 a18 a20 a17 a22) fun r26 =>
    (bif (!r26) then
    (S.l01Bound_l1 m e6_0 a15 a16 a17 a18 false (IntKind.wrap .i64 (a20 + 1)) a21 a22)
    else
    (S.l01Bound_l1 m e6_0 a15 a16 a17 a18 a19 (IntKind.wrap .i64 (a20 + 1)) a21 a22)))
    else
    (S.l01Bound_l1 m e6_0 a15 a16 a17 a18 a19 (IntKind.wrap .i64 (a20 + 1)) a21 a22)))
    else
    (S.l01Bound_l1 m e6_0 a15 a16 a17 a18 a19 (IntKind.wrap .i64 (a20 + 1)) a21 a22)))
    else
    (e6_0 a15 a16 a17 a18 a19 a21 a22))
    else
    (e6_0 a15 a16 a17 a18 a19 a21 a22))
noncomputable def S.l01Bound_l0 : Nat → (Int → Option Int) → (Option Int) → Int → Int → Bool → Int → Int → List Int → Option Int
  | 0, _, _, _, _, _, _, _, _ => none
  | m + 1, e2_0, e2_1, a6, a7, a8, a9, a10, a11 =>
    (bif (decide (a9 < a10)) then
    (Option.bind (S.l01Side a10 a6 a9 a8 a11) fun r13 =>
    (bif r13 then
    (Option.bind (S.l01Side a10 a7 a9 a8 a11) fun r14 =>
    (S.l01Bound_l1 fu (fun y31 y32 y33 y34 y35 y36 y37 =>
    (bif y35 then
    (e2_0 y34)
    else
    (S.l01Bound_l0 m e2_0 e2_1 y31 y32 y33 (IntKind.wrap .i64 (y34 + 1)) y36 y37))) a6 a7 a8 a9 r14 0 a10 a11))
    else
    (S.l01Bound_l1 fu (fun y39 y40 y41 y42 y43 y44 y45 =>
    (bif y43 then
    (e2_0 y42)
    else
    (S.l01Bound_l0 m e2_0 e2_1 y39 y40 y41 (IntKind.wrap .i64 (y42 + 1)) y44 y45))) a6 a7 a8 a9 false 0 a10 a11)))
    else
    e2_1)
noncomputable def S.l01Bound (a1 a2 a3 : Int) (a4 : Bool) (a5 : List Int) : Option Int :=
(S.l01Bound_l0 fu (fun y47 =>
(some y47)) (some (-1)) a2 a3 a4 0 a1 a5)
noncomputable def H95_6 : LoopH := ⟨⟨((.one (.unk)) :: hh :: hh :: hh :: (.one (.ptr 0 0)) :: (hu 4 (hh :: hh :: hh :: (hu 49 [])))), [(51, [.hole, .sl 0])], [(145, (.int .u64), .ro)]⟩, [0, 5, 6, 7, 8, 12, 13, 14, 15, 16, 17, 18, 19, 20, 21, 22, 23, 24, 25, 26, 27, 28, 29, 30, 31, 32, 33, 34, 35, 36, 37, 38, 39, 40, 41, 42, 43, 44, 45, 46, 47, 48, 49, 50, 51, 52, 53, 54, 55, 56, 57, 58, 59, 60], [], [0, 5, 6, 7, 11, 12, 13, 14, 15, 16, 17, 18, 19, 20, 21, 22, 23, 24, 25, 26, 27, 28, 29, 30, 31, 32, 33, 34, 35, 36, 37, 38, 39, 40, 41, 42, 43, 44, 45, 46, 47, 48, 49, 50, 51, 52, 53, 54, 55, 56, 57, 58, 59, 60]⟩
noncomputable def E95_6 (m : Nat) (ps : List Prm) (k : Kont Int) : Option Int :=
  match ps with
  | [.v (.int .i64 a15), .v (.int .i64 a16), .v (.bool a17), .v (.int .i64 a18), .v (.bool a19), .v (.int .i64 a20), .v (.int .i64 a21), .row (.int .u64) a22] => S.l01Bound_l1 m (fun z56 z57 z58 z59 z60 z61 z62 => k (.exit 2) (⟨((.s1 (.one (.unk))) :: (vi z56) :: (vi z57) :: (vb z58) :: (vp 0 0) :: (vu 4 ((vi z59) :: (vb z60) :: (vu 50 [])))), [(51, [ai z61, .sl 0])], [⟨145, (.int .u64), z62, .ro⟩]⟩ : St)) a15 a16 a17 a18 a19 a20 a21 a22
  | _ => none
noncomputable def S95_6 (a15 a16 : Int) (a17 : Bool) (a18 : Int) (a19 : Bool) (a20 a21 : Int) (a22 : List Int) : St := (⟨((.s1 (.one (.unk))) :: (vi a15) :: (vi a16) :: (vb a17) :: (vp 0 0) :: (vu 4 ((vi a18) :: (vb a19) :: (vi a20) :: (vu 49 [])))), [(51, [ai a21, .sl 0])], [⟨145, (.int .u64), a22, .ro⟩]⟩ : St)
theorem ev95_6 (m : Nat) (k : Kont Int) (a15 a16 : Int) (a17 : Bool) (a18 : Int) (a19 : Bool) (a20 a21 : Int) (a22 : List Int) : evC Try.prog G95 loopNil c95_6 (S95_6 a15 a16 a17 a18 a19 a20 a21 a22) (turn Try.prog (0, 0) H95_6 (E95_6 m) k) = E95_6 (m + 1) [.v (.int .i64 a15), .v (.int .i64 a16), .v (.bool a17), .v (.int .i64 a18), .v (.bool a19), .v (.int .i64 a20), .v (.int .i64 a21), .row (.int .u64) a22] k := by kernel_rfl
theorem ok95_6 (m : Nat) : LoopOk Try.prog (0, 0) c95_6 (enter Try.prog (0, 0) H95_6 (E95_6 m)) := by
  refine loop_ok (G := G95) (L := loopNil) (envCons_good good156 envNil_good) (by intro x hx; simp [show loopsOf c95_6 = [] from by kernel_rfl] at hx) (fun ps k => by unfold E95_6; split <;> rfl) (fun m ps k r h => ?_) m
  have h0 := h
  unfold E95_6 at h
  split at h
  · exact ⟨S95_6 _ _ _ _ _ _ _ _, by kernel_rfl, (ev95_6 m k _ _ _ _ _ _ _ _).trans h0⟩
  · cases h
noncomputable def L95_2 : LEnv Int := (loopCons 6 (enter Try.prog (0, 0) H95_6 (E95_6 fu)) loopNil)
theorem lq95_2 : loopsOf c95_2 = [c95_6] := by kernel_rfl
theorem fr95_6 : firstReg c95_6 = some 6 := by kernel_rfl
theorem le95_6 : L95_2 6 = enter Try.prog (0, 0) H95_6 (E95_6 fu) := by kernel_rfl
theorem lm95_2 : ∀ x ∈ [c95_6], ∀ id, firstReg x = some id → LoopOk Try.prog (0, 0) x (L95_2 id) := (loops_cons fr95_6 le95_6 (ok95_6 fu) loops_nil)
theorem lp95_2 : ∀ x ∈ loopsOf c95_2, ∀ id, firstReg x = some id → LoopOk Try.prog (0, 0) x (L95_2 id) := loops_eq lq95_2 lm95_2
noncomputable def H95_2 : LoopH := ⟨⟨((.one (.unk)) :: hh :: hh :: hh :: (.one (.ptr 0 0)) :: (hu 4 (hh :: (hu 51 [])))), [(51, [.hole, .sl 0])], [(145, (.int .u64), .ro)]⟩, [0, 5, 6, 7, 8, 10, 11, 12, 13, 14, 15, 16, 17, 18, 19, 20, 21, 22, 23, 24, 25, 26, 27, 28, 29, 30, 31, 32, 33, 34, 35, 36, 37, 38, 39, 40, 41, 42, 43, 44, 45, 46, 47, 48, 49, 50, 51, 52, 53, 54, 55, 56, 57, 58, 59, 60], [], [0, 1, 2, 3, 4, 5, 6, 7, 9, 10, 11, 12, 13, 14, 15, 16, 17, 18, 19, 20, 21, 22, 23, 24, 25, 26, 27, 28, 29, 30, 31, 32, 33, 34, 35, 36, 37, 38, 39, 40, 41, 42, 43, 44, 45, 46, 47, 48, 49, 50, 51, 52, 53, 54, 55, 56, 57, 58, 59, 60]⟩
noncomputable def E95_2 (m : Nat) (ps : List Prm) (k : Kont Int) : Option Int :=
  match ps with
  | [.v (.int .i64 a6), .v (.int .i64 a7), .v (.bool a8), .v (.int .i64 a9), .v (.int .i64 a10), .row (.int .u64) a11] => S.l01Bound_l0 m (fun z63 => k .ret (⟨(vu 8 ((vi z63) :: (vu 52 []))), [], []⟩ : St)) (k (.exit 0) (⟨(vu 61 []), [], []⟩ : St)) a6 a7 a8 a9 a10 a11
  | _ => none
noncomputable def S95_2 (a6 a7 : Int) (a8 : Bool) (a9 a10 : Int) (a11 : List Int) : St := (⟨((.s1 (.one (.unk))) :: (vi a6) :: (vi a7) :: (vb a8) :: (vp 0 0) :: (vu 4 ((vi a9) :: (vu 51 [])))), [(51, [ai a10, .sl 0])], [⟨145, (.int .u64), a11, .ro⟩]⟩ : St)
theorem ev95_2 (m : Nat) (k : Kont Int) (a6 a7 : Int) (a8 : Bool) (a9 a10 : Int) (a11 : List Int) : evC Try.prog G95 L95_2 c95_2 (S95_2 a6 a7 a8 a9 a10 a11) (turn Try.prog (0, 0) H95_2 (E95_2 m) k) = E95_2 (m + 1) [.v (.int .i64 a6), .v (.int .i64 a7), .v (.bool a8), .v (.int .i64 a9), .v (.int .i64 a10), .row (.int .u64) a11] k := by kernel_rfl
theorem ok95_2 (m : Nat) : LoopOk Try.prog (0, 0) c95_2 (enter Try.prog (0, 0) H95_2 (E95_2 m)) := by
  refine loop_ok (G := G95) (L := L95_2) (envCons_good good156 envNil_good) lp95_2 (fun ps k => by unfold E95_2; split <;> rfl) (fun m ps k r h => ?_) m
  have h0 := h
  unfold E95_2 at h
  split at h
  · exact ⟨S95_2 _ _ _ _ _ _, by kernel_rfl, (ev95_2 m k _ _ _ _ _ _).trans h0⟩
  · cases h
noncomputable def L95 : LEnv Int := (loopCons 2 (enter Try.prog (0, 0) H95_2 (E95_2 fu)) loopNil)
theorem lq95 : loopsOf c95 = [c95_2] := by kernel_rfl
theorem fr95_2 : firstReg c95_2 = some 2 := by kernel_rfl
theorem le95_2 : L95 2 = enter Try.prog (0, 0) H95_2 (E95_2 fu) := by kernel_rfl
theorem lm95 : ∀ x ∈ [c95_2], ∀ id, firstReg x = some id → LoopOk Try.prog (0, 0) x (L95 id) := (loops_cons fr95_2 le95_2 (ok95_2 fu) loops_nil)
theorem lp95 : ∀ x ∈ loopsOf c95, ∀ id, firstReg x = some id → LoopOk Try.prog (0, 0) x (L95 id) := loops_eq lq95 lm95
noncomputable def R95 (x : Int) : Res := ⟨[.one (ai x)], [], []⟩
noncomputable def K95 (r : Res) : Option Int :=
  match r with
  | ⟨[.one (.val (.int .i64 v1))], [], []⟩ => some (v1)
  | _ => none
noncomputable def E95 : Fun2 := fun args bs rs =>
  match args, bs, rs with
  | [.s1 (.agg [.val (.int .i64 a1), .sl 0]), .s1 (.one (.val (.int .i64 a2))), .s1 (.one (.val (.int .i64 a3))), .s1 (.one (.val (.bool a4)))], [], [⟨145, (.int .u64), a5, .ro⟩] => some ⟨Int, S.l01Bound a1 a2 a3 a4 a5, R95⟩
  | _, _, _ => none
theorem ev95 (a1 a2 a3 : Int) (a4 : Bool) (a5 : List Int) : evF Try.prog G95 L95 (0, 0) Try.f95 c95 [.s1 (.agg [ai a1, .sl 0]), vi a2, vi a3, vb a4] [] [⟨145, (.int .u64), a5, .ro⟩] K95 = S.l01Bound a1 a2 a3 a4 a5 := by kernel_rfl
theorem good95 : Vm.Good Try.prog 95 E95 := by
  refine evF_good (G := G95) (c := c95) (envCons_good good156 envNil_good) Try.func95 (by kernel_rfl) (by kernel_rfl) (0, 0) (fun args bs rs out t h h2 => ?_)
  unfold E95 at h
  split at h
  · injection h with h
    subst h
    exact ⟨rfl, L95, K95, lp95, (fun r t h => by unfold K95 at h; split at h; (injection h with h; subst h; rfl); cases h), (ev95 _ _ _ _ _).trans h2⟩
  · cases h
/-! ### S.LatOk -/
noncomputable def G93 : Env := (envCons 154 [] E154 (envCons 155 [] E155 (envCons 95 [] E95 envNil)))
noncomputable def c93 : Code := bodyOf Try.f93
noncomputable def c93_4 : Code := (loopsOf c93).getD 0 .skip
noncomputable def c93_9 : Code := (loopsOf c93_4).getD 0 .skip
noncomputable def c93_14 : Code := (loopsOf c93_9).getD 0 .skip
noncomputable def c93_19 : Code := (loopsOf c93).getD 1 .skip
noncomputable def c93_22 : Code := (loopsOf c93_19).getD 0 .skip
noncomputable def S.LatOk_l2 : Nat → (Bool → Int → Int → Int → List Int → Option Bool) → (Int → Int → Int → List Int → Option Bool) → Int → Int → Int → Int → List Int → Option Bool
  | 0, _, _, _, _, _, _, _ => none
  | m + 1, e14_0, e14_1, a20, a21, a22, a23, a24 =>
    (bif (decide (a22 < a23)) then
    (bif decide ((0 : Int) ≤ a20 ∧ a20 < (a24.length : Int)) then
    (Option.bind (S.l01Bit (nthI a24 a20 (0 : Int)) a21) fun r26 =>
    (bif r26 then
    (bif decide ((0 : Int) ≤ a21 ∧ a21 < (a24.length : Int)) then
    (Option.bind (S.l01Bit (nthI a24 a21 (0 : Int)) a22) fun r27 =>
    (bif r27 then
    (bif decide ((0 : Int) ≤ a20 ∧ a20 < (a24.length : Int)) then
    (Option.bind (S.l01Bit (nthI a24 a20 (0 : Int)) a22) fun r28 =>
    (bif (!r28) then
    (e14_0 false a20 a21 a23 a24)
    else
    (S.LatOk_l2 m e14_0 e14_1 a20 a21 (IntKind.wrap .i64 (a22 + 1)) a23 a24)))
    else
    none)
    else
    (S.LatOk_l2 m e14_0 e14_1 a20 a21 (IntKind.wrap .i64 (a22 + 1)) a23 a24)))
    else
    none)
    else
    (S.LatOk_l2 m e14_0 e14_1 a20 a21 (IntKind.wrap .i64 (a22 + 1)) a23 a24)))
    else
    none)
    else
    (e14_1 a20 a21 a23 a24))
noncomputable def S.LatOk_l1 : Nat → (Bool → Int → Int → List Int → Option Bool) → (Int → Int → List Int → Option Bool) → Int → Int → Int → List Int → Option Bool
  | 0, _, _, _, _, _, _ => none
  | m + 1, e9_0, e9_1, a13, a14, a15, a16 =>
    (bif (decide (a14 < a15)) then
    (bif (a13 != a14) then
    (bif decide ((0 : Int) ≤ a13 ∧ a13 < (a16.length : Int)) then
    (Option.bind (S.l01Bit (nthI a16 a13 (0 : Int)) a14) fun r18 =>
    (bif r18 then
    (bif decide ((0 : Int) ≤ a14 ∧ a14 < (a16.length : Int)) then
    (Option.bind (S.l01Bit (nthI a16 a14 (0 : Int)) a13) fun r19 =>
    (bif r19 then
    (e9_0 false a13 a15 a16)
    else
    (S.LatOk_l2 fu (fun y32 y33 y34 y35 y36 =>
    (e9_0 y32 y33 y35 y36)) (fun y37 y38 y39 y40 =>
    (S.LatOk_l1 m e9_0 e9_1 y37 (IntKind.wrap .i64 (y38 + 1)) y39 y40)) a13 a14 0 a15 a16)))
    else
    none)
    else
    (S.LatOk_l2 fu (fun y42 y43 y44 y45 y46 =>
    (e9_0 y42 y43 y45 y46)) (fun y47 y48 y49 y50 =>
    (S.LatOk_l1 m e9_0 e9_1 y47 (IntKind.wrap .i64 (y48 + 1)) y49 y50)) a13 a14 0 a15 a16)))
    else
    none)
    else
    (S.LatOk_l2 fu (fun y52 y53 y54 y55 y56 =>
    (e9_0 y52 y53 y55 y56)) (fun y57 y58 y59 y60 =>
    (S.LatOk_l1 m e9_0 e9_1 y57 (IntKind.wrap .i64 (y58 + 1)) y59 y60)) a13 a14 0 a15 a16))
    else
    (e9_1 a13 a15 a16))
noncomputable def S.LatOk_l0 : Nat → (Bool → Int → List Int → Option Bool) → (Int → List Int → Option Bool) → Int → Int → List Int → Option Bool
  | 0, _, _, _, _, _ => none
  | m + 1, e4_0, e4_1, a6, a7, a8 =>
    (bif (decide (a6 < a7)) then
    (bif decide ((0 : Int) ≤ a6 ∧ a6 < (a8.length : Int)) then
    (Option.bind (S.l01Bit (nthI a8 a6 (0 : Int)) a6) fun r10 =>
    (bif (!r10) then
    (e4_0 false a7 a8)
    else
    (bif decide ((0 : Int) ≤ a6 ∧ a6 < (a8.length : Int)) then
    (Option.bind (S.l01Power a7) fun r11 =>
    (bif (decide (r11 ≤ (nthI a8 a6 (0 : Int)))) then
    (e4_0 false a7 a8)
    else
    (S.LatOk_l1 fu (fun y62 y63 y64 y65 =>
    (e4_0 y62 y64 y65)) (fun y66 y67 y68 =>
    (S.LatOk_l0 m e4_0 e4_1 (IntKind.wrap .i64 (y66 + 1)) y67 y68)) a6 0 a7 a8)))
    else
    none)))
    else
    none)
    else
    (e4_1 a7 a8))
noncomputable def S.LatOk_l4 : Nat → (Bool → Int → Int → List Int → Option Bool) → (Int → Int → List Int → Option Bool) → Int → Int → Int → List Int → Option Bool
  | 0, _, _, _, _, _, _ => none
  | m + 1, e22_0, e22_1, a79, a80, a81, a82 =>
    (bif (decide (a80 < a79)) then
    (Option.bind (S.l01Bound a81 a79 a80 true a82) fun r84 =>
    (bif (decide (r84 < 0)) then
    (e22_0 false a79 a81 a82)
    else
    (Option.bind (S.l01Bound a81 a79 a80 false a82) fun r86 =>
    (bif (decide (r86 < 0)) then
    (e22_0 false a79 a81 a82)
    else
    (S.LatOk_l4 m e22_0 e22_1 a79 (IntKind.wrap .i64 (a80 + 1)) a81 a82)))))
    else
    (e22_1 a79 a81 a82))
noncomputable def S.LatOk_l3 : Nat → (Bool → Option Bool) → (Option Bool) → Int → Int → List Int → Option Bool
  | 0, _, _, _, _, _ => none
  | m + 1, e19_0, e19_1, a75, a76, a77 =>
    (bif (decide (a75 < a76)) then
    (S.LatOk_l4 fu (fun y89 y90 y91 y92 =>
    (e19_0 y89)) (fun y93 y94 y95 =>
    (S.LatOk_l3 m e19_0 e19_1 (IntKind.wrap .i64 (y93 + 1)) y94 y95)) a75 0 a76 a77)
    else
    e19_1)
noncomputable def S.LatOk (a1 : Int) (a2 : List Int) : Option Bool :=
(bif (decide (a1 < 1)) then
(some false)
else
(bif (decide (16 < a1)) then
(some false)
else
(bif ((a2.length : Int) != a1) then
(some false)
else
(S.LatOk_l0 fu (fun y70 y71 y72 =>
(some y70)) (fun y73 y74 =>
(S.LatOk_l3 fu (fun y97 =>
(some y97)) (some true) 0 y73 y74)) 0 a1 a2))))
noncomputable def H93_14 : LoopH := ⟨⟨((.one (.unk)) :: (.one (.ptr 0 0)) :: (.one (.unk)) :: hh :: hh :: hh :: (hu 125 [])), [(51, [.hole, .sl 0])], [(145, (.int .u64), .ro)]⟩, [0, 2, 6, 7, 8, 9, 10, 11, 12, 13, 14, 15, 16, 17, 18, 19, 20, 21, 22, 23, 24, 25, 26, 27, 28, 29, 30, 31, 32, 33, 34, 35, 36, 37, 38, 39, 40, 41, 42, 43, 44, 45, 46, 47, 48, 49, 50, 51, 52, 53, 54, 55, 56, 57, 58, 59, 60, 61, 62, 63, 64, 65, 66, 67, 68, 69, 70, 71, 72, 73, 74, 75, 76, 77, 78, 79, 80, 81, 82, 83, 84, 85, 86, 87, 88, 89, 90, 91, 92, 93, 94, 95, 96, 97, 98, 99, 100, 101, 102, 103, 104, 105, 106, 107, 108, 109, 110, 111, 112, 113, 114, 115, 116, 117, 118, 119, 120, 121, 122, 123, 124, 125, 126, 127, 128, 129, 130], [], [0, 5, 6, 7, 8, 9, 10, 11, 12, 13, 14, 15, 16, 17, 18, 19, 20, 21, 22, 23, 24, 25, 26, 27, 28, 29, 30, 31, 32, 33, 34, 35, 36, 37, 38, 39, 40, 41, 42, 43, 44, 45, 46, 47, 48, 49, 50, 51, 52, 53, 54, 55, 56, 57, 58, 59, 60, 61, 62, 63, 64, 65, 66, 67, 68, 69, 70, 71, 72, 73, 74, 75, 76, 77, 78, 79, 80, 81, 82, 83, 84, 85, 86, 87, 88, 89, 90, 91, 92, 93, 94, 95, 96, 97, 98, 99, 100, 101, 102, 103, 104, 105, 106, 107, 108, 109, 110, 111, 112, 113, 114, 115, 116, 117, 118, 119, 120, 121, 122, 123, 124, 125, 126, 127, 128, 129, 130]⟩
noncomputable def E93_14 (m : Nat) (ps : List Prm) (k : Kont Bool) : Option Bool :=
  match ps with
  | [.v (.int .i64 a20), .v (.int .i64 a21), .v (.int .i64 a22), .v (.int .i64 a23), .row (.int .u64) a24] => S.LatOk_l2 m (fun z127 z128 z129 z130 z131 => k .ret (⟨((.s1 (.one (.unk))) :: (vp 0 0) :: (vb z127) :: (vi z128) :: (vi z129) :: (vu 126 [])), [(51, [ai z130, .sl 0])], [⟨145, (.int .u64), z131, .ro⟩]⟩ : St)) (fun z132 z133 z134 z135 => k (.exit 4) (⟨((.s1 (.one (.unk))) :: (vp 0 0) :: (.s1 (.one (.unk))) :: (vi z132) :: (vi z133) :: (vu 126 [])), [(51, [ai z134, .sl 0])], [⟨145, (.int .u64), z135, .ro⟩]⟩ : St)) a20 a21 a22 a23 a24
  | _ => none
noncomputable def S93_14 (a20 a21 a22 a23 : Int) (a24 : List Int) : St := (⟨((.s1 (.one (.unk))) :: (vp 0 0) :: (.s1 (.one (.unk))) :: (vi a20) :: (vi a21) :: (vi a22) :: (vu 125 [])), [(51, [ai a23, .sl 0])], [⟨145, (.int .u64), a24, .ro⟩]⟩ : St)
theorem ev93_14 (m : Nat) (k : Kont Bool) (a20 a21 a22 a23 : Int) (a24 : List Int) : evC Try.prog G93 loopNil c93_14 (S93_14 a20 a21 a22 a23 a24) (turn Try.prog (0, 0) H93_14 (E93_14 m) k) = E93_14 (m + 1) [.v (.int .i64 a20), .v (.int .i64 a21), .v (.int .i64 a22), .v (.int .i64 a23), .row (.int .u64) a24] k := by kernel_rfl
theorem ok93_14 (m : Nat) : LoopOk Try.prog (0, 0) c93_14 (enter Try.prog (0, 0) H93_14 (E93_14 m)) := by
  refine loop_ok (G := G93) (L := loopNil) (envCons_good good154 (envCons_good good155 (envCons_good good95 envNil_good))) (by intro x hx; simp [show loopsOf c93_14 = [] from by kernel_rfl] at hx) (fun ps k => by unfold E93_14; split <;> rfl) (fun m ps k r h => ?_) m
  have h0 := h
  unfold E93_14 at h
  split at h
  · exact ⟨S93_14 _ _ _ _ _, by kernel_rfl, (ev93_14 m k _ _ _ _ _).trans h0⟩
  · cases h
noncomputable def L93_9 : LEnv Bool := (loopCons 14 (enter Try.prog (0, 0) H93_14 (E93_14 fu)) loopNil)
theorem lq93_9 : loopsOf c93_9 = [c93_14] := by kernel_rfl
theorem fr93_14 : firstReg c93_14 = some 14 := by kernel_rfl
theorem le93_14 : L93_9 14 = enter Try.prog (0, 0) H93_14 (E93_14 fu) := by kernel_rfl
theorem lm93_9 : ∀ x ∈ [c93_14], ∀ id, firstReg x = some id → LoopOk Try.prog (0, 0) x (L93_9 id) := (loops_cons fr93_14 le93_14 (ok93_14 fu) loops_nil)
theorem lp93_9 : ∀ x ∈ loopsOf c93_9, ∀ id, firstReg x = some id → LoopOk Try.prog (0, 0) x (L93_9 id) := loops_eq lq93_9 lm93_9
noncomputable def H93_9 : LoopH := ⟨⟨((.one (.unk)) :: (.one (.ptr 0 0)) :: (.one (.unk)) :: hh :: hh :: (hu 126 [])), [(51, [.hole, .sl 0])], [(145, (.int .u64), .ro)]⟩, [0, 2, 5, 6, 7, 8, 9, 10, 11, 12, 13, 14, 15, 16, 17, 18, 19, 20, 21, 22, 23, 24, 25, 26, 27, 28, 29, 30, 31, 32, 33, 34, 35, 36, 37, 38, 39, 40, 41, 42, 43, 44, 45, 46, 47, 48, 49, 50, 51, 52, 53, 54, 55, 56, 57, 58, 59, 60, 61, 62, 63, 64, 65, 66, 67, 68, 69, 70, 71, 72, 73, 74, 75, 76, 77, 78, 79, 80, 81, 82, 83, 84, 85, 86, 87, 88, 89, 90, 91, 92, 93, 94, 95, 96, 97, 98, 99, 100, 101, 102, 103, 104, 105, 106, 107, 108, 109, 110, 111, 112, 113, 114, 115, 116, 117, 118, 119, 120, 121, 122, 123, 124, 125, 126, 127, 128, 129, 130], [], [0, 4, 5, 6, 7, 8, 9, 10, 11, 12, 13, 14, 15, 16, 17, 18, 19, 20, 21, 22, 23, 24, 25, 26, 27, 28, 29, 30, 31, 32, 33, 34, 35, 36, 37, 38, 39, 40, 41, 42, 43, 44, 45, 46, 47, 48, 49, 50, 51, 52, 53, 54, 55, 56, 57, 58, 59, 60, 61, 62, 63, 64, 65, 66, 67, 68, 69, 70, 71, 72, 73, 74, 75, 76, 77, 78, 79, 80, 81, 82, 83, 84, 85, 86, 87, 88, 89, 90, 91, 92, 93, 94, 95, 96, 97, 98, 99, 100, 101, 102, 103, 104, 105, 106, 107, 108, 109, 110, 111, 112, 113, 114, 115, 116, 117, 118, 119, 120, 121, 122, 123, 124, 125, 126, 127, 128, 129, 130]⟩
noncomputable def E93_9 (m : Nat) (ps : List Prm) (k : Kont Bool) : Option Bool :=
  match ps with
  | [.v (.int .i64 a13), .v (.int .i64 a14), .v (.int .i64 a15), .row (.int .u64) a16] => S.LatOk_l1 m (fun z136 z137 z138 z139 => k .ret (⟨((.s1 (.one (.unk))) :: (vp 0 0) :: (vb z136) :: (vi z137) :: (vu 127 [])), [(51, [ai z138, .sl 0])], [⟨145, (.int .u64), z139, .ro⟩]⟩ : St)) (fun z140 z141 z142 => k (.exit 2) (⟨((.s1 (.one (.unk))) :: (vp 0 0) :: (.s1 (.one (.unk))) :: (vi z140) :: (vu 127 [])), [(51, [ai z141, .sl 0])], [⟨145, (.int .u64), z142, .ro⟩]⟩ : St)) a13 a14 a15 a16
  | _ => none
noncomputable def S93_9 (a13 a14 a15 : Int) (a16 : List Int) : St := (⟨((.s1 (.one (.unk))) :: (vp 0 0) :: (.s1 (.one (.unk))) :: (vi a13) :: (vi a14) :: (vu 126 [])), [(51, [ai a15, .sl 0])], [⟨145, (.int .u64), a16, .ro⟩]⟩ : St)
theorem ev93_9 (m : Nat) (k : Kont Bool) (a13 a14 a15 : Int) (a16 : List Int) : evC Try.prog G93 L93_9 c93_9 (S93_9 a13 a14 a15 a16) (turn Try.prog (0, 0) H93_9 (E93_9 m) k) = E93_9 (m + 1) [.v (.int .i64 a13), .v (.int .i64 a14), .v (.int .i64 a15), .row (.int .u64) a16] k := by kernel_rfl
theorem ok93_9 (m : Nat) : LoopOk Try.prog (0, 0) c93_9 (enter Try.prog (0, 0) H93_9 (E93_9 m)) := by
  refine loop_ok (G := G93) (L := L93_9) (envCons_good good154 (envCons_good good155 (envCons_good good95 envNil_good))) lp93_9 (fun ps k => by unfold E93_9; split <;> rfl) (fun m ps k r h => ?_) m
  have h0 := h
  unfold E93_9 at h
  split at h
  · exact ⟨S93_9 _ _ _ _, by kernel_rfl, (ev93_9 m k _ _ _ _).trans h0⟩
  · cases h
noncomputable def L93_4 : LEnv Bool := (loopCons 9 (enter Try.prog (0, 0) H93_9 (E93_9 fu)) loopNil)
theorem lq93_4 : loopsOf c93_4 = [c93_9] := by kernel_rfl
theorem fr93_9 : firstReg c93_9 = some 9 := by kernel_rfl
theorem le93_9 : L93_4 9 = enter Try.prog (0, 0) H93_9 (E93_9 fu) := by kernel_rfl
theorem lm93_4 : ∀ x ∈ [c93_9], ∀ id, firstReg x = some id → LoopOk Try.prog (0, 0) x (L93_4 id) := (loops_cons fr93_9 le93_9 (ok93_9 fu) loops_nil)
theorem lp93_4 : ∀ x ∈ loopsOf c93_4, ∀ id, firstReg x = some id → LoopOk Try.prog (0, 0) x (L93_4 id) := loops_eq lq93_4 lm93_4
noncomputable def H93_4 : LoopH := ⟨⟨((.one (.unk)) :: (.one (.ptr 0 0)) :: (.one (.unk)) :: hh :: (hu 127 [])), [(51, [.hole, .sl 0])], [(145, (.int .u64), .ro)]⟩, [0, 2, 4, 5, 6, 7, 8, 9, 10, 11, 12, 13, 14, 15, 16, 17, 18, 19, 20, 21, 22, 23, 24, 25, 26, 27, 28, 29, 30, 31, 32, 33, 34, 35, 36, 37, 38, 39, 40, 41, 42, 43, 44, 45, 46, 47, 48, 49, 50, 51, 52, 53, 54, 55, 56, 57, 58, 59, 60, 61, 62, 63, 64, 65, 66, 67, 68, 69, 70, 71, 72, 73, 74, 75, 76, 77, 78, 79, 80, 81, 82, 83, 84, 85, 86, 87, 88, 89, 90, 91, 92, 93, 94, 95, 96, 97, 98, 99, 100, 101, 102, 103, 104, 105, 106, 107, 108, 109, 110, 111, 112, 113, 114, 115, 116, 117, 118, 119, 120, 121, 122, 123, 124, 125, 126, 127, 128, 129, 130], [], [0, 3, 4, 5, 6, 7, 8, 9, 10, 11, 12, 13, 14, 15, 16, 17, 18, 19, 20, 21, 22, 23, 24, 25, 26, 27, 28, 29, 30, 31, 32, 33, 34, 35, 36, 37, 38, 39, 40, 41, 42, 43, 44, 45, 46, 47, 48, 49, 50, 51, 52, 53, 54, 55, 56, 57, 58, 59, 60, 61, 62, 63, 64, 65, 66, 67, 68, 69, 70, 71, 72, 73, 74, 75, 76, 77, 78, 79, 80, 81, 82, 83, 84, 85, 86, 87, 88, 89, 90, 91, 92, 93, 94, 95, 96, 97, 98, 99, 100, 101, 102, 103, 104, 105, 106, 107, 108, 109, 110, 111, 112, 113, 114, 115, 116, 117, 118, 119, 120, 121, 122, 123, 124, 125, 126, 127, 128, 129, 130]⟩
noncomputable def E93_4 (m : Nat) (ps : List Prm) (k : Kont Bool) : Option Bool :=
  match ps with
  | [.v (.int .i64 a6), .v (.int .i64 a7), .row (.int .u64) a8] => S.LatOk_l0 m (fun z143 z144 z145 => k .ret (⟨((.s1 (.one (.unk))) :: (vp 0 0) :: (vb z143) :: (vu 128 [])), [(51, [ai z144, .sl 0])], [⟨145, (.int .u64), z145, .ro⟩]⟩ : St)) (fun z146 z147 => k (.exit 0) (⟨((.s1 (.one (.unk))) :: (vp 0 0) :: (vu 129 [])), [(51, [ai z146, .sl 0])], [⟨145, (.int .u64), z147, .ro⟩]⟩ : St)) a6 a7 a8
  | _ => none
noncomputable def S93_4 (a6 a7 : Int) (a8 : List Int) : St := (⟨((.s1 (.one (.unk))) :: (vp 0 0) :: (.s1 (.one (.unk))) :: (vi a6) :: (vu 127 [])), [(51, [ai a7, .sl 0])], [⟨145, (.int .u64), a8, .ro⟩]⟩ : St)
theorem ev93_4 (m : Nat) (k : Kont Bool) (a6 a7 : Int) (a8 : List Int) : evC Try.prog G93 L93_4 c93_4 (S93_4 a6 a7 a8) (turn Try.prog (0, 0) H93_4 (E93_4 m) k) = E93_4 (m + 1) [.v (.int .i64 a6), .v (.int .i64 a7), .row (.int .u64) a8] k := by kernel_rfl
theorem ok93_4 (m : Nat) : LoopOk Try.prog (0, 0) c93_4 (enter Try.prog (0, 0) H93_4 (E93_4 m)) := by
  refine loop_ok (G := G93) (L := L93_4) (envCons_good good154 (envCons_good good155 (envCons_good good95 envNil_good))) lp93_4 (fun ps k => by unfold E93_4; split <;> rfl) (fun m ps k r h => ?_) m
  have h0 := h
  unfold E93_4 at h
  split at h
  · exact ⟨S93_4 _ _ _, by kernel_rfl, (ev93_4 m k _ _ _).trans h0⟩
  · cases h
noncomputable def H93_22 : LoopH := ⟨⟨((.one (.unk)) :: (.one (.ptr 0 0)) :: (hu 4 (hh :: hh :: (hu 123 [])))), [(51, [.hole, .sl 0])], [(145, (.int .u64), .ro)]⟩, [0, 2, 3, 4, 5, 8, 9, 10, 11, 12, 13, 14, 15, 16, 17, 18, 19, 20, 21, 22, 23, 24, 25, 26, 27, 28, 29, 30, 31, 32, 33, 34, 35, 36, 37, 38, 39, 40, 41, 42, 43, 44, 45, 46, 47, 48, 49, 50, 51, 52, 53, 54, 55, 56, 57, 58, 59, 60, 61, 62, 63, 64, 65, 66, 67, 68, 69, 70, 71, 72, 73, 74, 75, 76, 77, 78, 79, 80, 81, 82, 83, 84, 85, 86, 87, 88, 89, 90, 91, 92, 93, 94, 95, 96, 97, 98, 99, 100, 101, 102, 103, 104, 105, 106, 107, 108, 109, 110, 111, 112, 113, 114, 115, 116, 117, 118, 119, 120, 121, 122, 123, 124, 125, 126, 127, 128, 129, 130], [], [0, 3, 4, 5, 7, 8, 9, 10, 11, 12, 13, 14, 15, 16, 17, 18, 19, 20, 21, 22, 23, 24, 25, 26, 27, 28, 29, 30, 31, 32, 33, 34, 35, 36, 37, 38, 39, 40, 41, 42, 43, 44, 45, 46, 47, 48, 49, 50, 51, 52, 53, 54, 55, 56, 57, 58, 59, 60, 61, 62, 63, 64, 65, 66, 67, 68, 69, 70, 71, 72, 73, 74, 75, 76, 77, 78, 79, 80, 81, 82, 83, 84, 85, 86, 87, 88, 89, 90, 91, 92, 93, 94, 95, 96, 97, 98, 99, 100, 101, 102, 103, 104, 105, 106, 107, 108, 109, 110, 111, 112, 113, 114, 115, 116, 117, 118, 119, 120, 121, 122, 123, 124, 125, 126, 127, 128, 129, 130]⟩
noncomputable def E93_22 (m : Nat) (ps : List Prm) (k : Kont Bool) : Option Bool :=
  match ps with
  | [.v (.int .i64 a79), .v (.int .i64 a80), .v (.int .i64 a81), .row (.int .u64) a82] => S.LatOk_l4 m (fun z148 z149 z150 z151 => k .ret (⟨((.s1 (.one (.unk))) :: (vp 0 0) :: (vb z148) :: (vu 3 ((vi z149) :: (vu 124 [])))), [(51, [ai z150, .sl 0])], [⟨145, (.int .u64), z151, .ro⟩]⟩ : St)) (fun z152 z153 z154 => k (.exit 8) (⟨((.s1 (.one (.unk))) :: (vp 0 0) :: (vu 4 ((vi z152) :: (vu 124 [])))), [(51, [ai z153, .sl 0])], [⟨145, (.int .u64), z154, .ro⟩]⟩ : St)) a79 a80 a81 a82
  | _ => none
noncomputable def S93_22 (a79 a80 a81 : Int) (a82 : List Int) : St := (⟨((.s1 (.one (.unk))) :: (vp 0 0) :: (vu 4 ((vi a79) :: (vi a80) :: (vu 123 [])))), [(51, [ai a81, .sl 0])], [⟨145, (.int .u64), a82, .ro⟩]⟩ : St)
theorem ev93_22 (m : Nat) (k : Kont Bool) (a79 a80 a81 : Int) (a82 : List Int) : evC Try.prog G93 loopNil c93_22 (S93_22 a79 a80 a81 a82) (turn Try.prog (0, 0) H93_22 (E93_22 m) k) = E93_22 (m + 1) [.v (.int .i64 a79), .v (.int .i64 a80), .v (.int .i64 a81), .row (.int .u64) a82] k := by kernel_rfl
theorem ok93_22 (m : Nat) : LoopOk Try.prog (0, 0) c93_22 (enter Try.prog (0, 0) H93_22 (E93_22 m)) := by
  refine loop_ok (G := G93) (L := loopNil) (envCons_good good154 (envCons_good good155 (envCons_good good95 envNil_good))) (by intro x hx; simp [show loopsOf c93_22 = [] from by kernel_rfl] at hx) (fun ps k => by unfold E93_22; split <;> rfl) (fun m ps k r h => ?_) m
  have h0 := h
  unfold E93_22 at h
  split at h
  · exact ⟨S93_22 _ _ _ _, by kernel_rfl, (ev93_22 m k _ _ _ _).trans h0⟩
  · cases h
noncomputable def L93_19 : LEnv Bool := (loopCons 22 (enter Try.prog (0, 0) H93_22 (E93_22 fu)) loopNil)
theorem lq93_19 : loopsOf c93_19 = [c93_22] := by kernel_rfl
theorem fr93_22 : firstReg c93_22 = some 22 := by kernel_rfl
theorem le93_22 : L93_19 22 = enter Try.prog (0, 0) H93_22 (E93_22 fu) := by kernel_rfl
theorem lm93_19 : ∀ x ∈ [c93_22], ∀ id, firstReg x = some id → LoopOk Try.prog (0, 0) x (L93_19 id) := (loops_cons fr93_22 le93_22 (ok93_22 fu) loops_nil)
theorem lp93_19 : ∀ x ∈ loopsOf c93_19, ∀ id, firstReg x = some id → LoopOk Try.prog (0, 0) x (L93_19 id) := loops_eq lq93_19 lm93_19
noncomputable def H93_19 : LoopH := ⟨⟨((.one (.unk)) :: (.one (.ptr 0 0)) :: (hu 4 (hh :: (hu 124 [])))), [(51, [.hole, .sl 0])], [(145, (.int .u64), .ro)]⟩, [0, 2, 3, 4, 5, 7, 8, 9, 10, 11, 12, 13, 14, 15, 16, 17, 18, 19, 20, 21, 22, 23, 24, 25, 26, 27, 28, 29, 30, 31, 32, 33, 34, 35, 36, 37, 38, 39, 40, 41, 42, 43, 44, 45, 46, 47, 48, 49, 50, 51, 52, 53, 54, 55, 56, 57, 58, 59, 60, 61, 62, 63, 64, 65, 66, 67, 68, 69, 70, 71, 72, 73, 74, 75, 76, 77, 78, 79, 80, 81, 82, 83, 84, 85, 86, 87, 88, 89, 90, 91, 92, 93, 94, 95, 96, 97, 98, 99, 100, 101, 102, 103, 104, 105, 106, 107, 108, 109, 110, 111, 112, 113, 114, 115, 116, 117, 118, 119, 120, 121, 122, 123, 124, 125, 126, 127, 128, 129, 130], [], [0, 1, 3, 4, 5, 6, 7, 8, 9, 10, 11, 12, 13, 14, 15, 16, 17, 18, 19, 20, 21, 22, 23, 24, 25, 26, 27, 28, 29, 30, 31, 32, 33, 34, 35, 36, 37, 38, 39, 40, 41, 42, 43, 44, 45, 46, 47, 48, 49, 50, 51, 52, 53, 54, 55, 56, 57, 58, 59, 60, 61, 62, 63, 64, 65, 66, 67, 68, 69, 70, 71, 72, 73, 74, 75, 76, 77, 78, 79, 80, 81, 82, 83, 84, 85, 86, 87, 88, 89, 90, 91, 92, 93, 94, 95, 96, 97, 98, 99, 100, 101, 102, 103, 104, 105, 106, 107, 108, 109, 110, 111, 112, 113, 114, 115, 116, 117, 118, 119, 120, 121, 122, 123, 124, 125, 126, 127, 128, 129, 130]⟩
noncomputable def E93_19 (m : Nat) (ps : List Prm) (k : Kont Bool) : Option Bool :=
  match ps with
  | [.v (.int .i64 a75), .v (.int .i64 a76), .row (.int .u64) a77] => S.LatOk_l3 m (fun z155 => k .ret (⟨(vu 2 ((vb z155) :: (vu 128 []))), [], []⟩ : St)) (k (.exit 6) (⟨(vu 131 []), [], []⟩ : St)) a75 a76 a77
  | _ => none
noncomputable def S93_19 (a75 a76 : Int) (a77 : List Int) : St := (⟨((.s1 (.one (.unk))) :: (vp 0 0) :: (vu 4 ((vi a75) :: (vu 124 [])))), [(51, [ai a76, .sl 0])], [⟨145, (.int .u64), a77, .ro⟩]⟩ : St)
theorem ev93_19 (m : Nat) (k : Kont Bool) (a75 a76 : Int) (a77 : List Int) : evC Try.prog G93 L93_19 c93_19 (S93_19 a75 a76 a77) (turn Try.prog (0, 0) H93_19 (E93_19 m) k) = E93_19 (m + 1) [.v (.int .i64 a75), .v (.int .i64 a76), .row (.int .u64) a77] k := by kernel_rfl
theorem ok93_19 (m : Nat) : LoopOk Try.prog (0, 0) c93_19 (enter Try.prog (0, 0) H93_19 (E93_19 m)) := by
  refine loop_ok (G := G93) (L := L93_19) (envCons_good good154 (envCons_good good155 (envCons_good good95 envNil_good))) lp93_19 (fun ps k => by unfold E93_19; split <;> rfl) (fun m ps k r h => ?_) m
  have h0 := h
  unfold E93_19 at h
  split at h
  · exact ⟨S93_19 _ _ _, by kernel_rfl, (ev93_19 m k _ _ _).trans h0⟩
  · cases h
noncomputable def L93 : LEnv Bool := (loopCons 4 (enter Try.prog (0, 0) H93_4 (E93_4 fu)) (loopCons 19 (enter Try.prog (0, 0) H93_19 (E93_19 fu)) loopNil))
theorem lq93 : loopsOf c93 = [c93_4, c93_19] := by kernel_rfl
theorem fr93_4 : firstReg c93_4 = some 4 := by kernel_rfl
theorem le93_4 : L93 4 = enter Try.prog (0, 0) H93_4 (E93_4 fu) := by kernel_rfl
theorem fr93_19 : firstReg c93_19 = some 19 := by kernel_rfl
theorem le93_19 : L93 19 = enter Try.prog (0, 0) H93_19 (E93_19 fu) := by kernel_rfl
theorem lm93 : ∀ x ∈ [c93_4, c93_19], ∀ id, firstReg x = some id → LoopOk Try.prog (0, 0) x (L93 id) := (loops_cons fr93_4 le93_4 (ok93_4 fu) (loops_cons fr93_19 le93_19 (ok93_19 fu) loops_nil))
theorem lp93 : ∀ x ∈ loopsOf c93, ∀ id, firstReg x = some id → LoopOk Try.prog (0, 0) x (L93 id) := loops_eq lq93 lm93
noncomputable def R93 (x : Bool) : Res := ⟨[.one (ab x)], [], []⟩
noncomputable def K93 (r : Res) : Option Bool :=
  match r with
  | ⟨[.one (.val (.bool v1))], [], []⟩ => some (v1)
  | _ => none
noncomputable def E93 : Fun2 := fun args bs rs =>
  match args, bs, rs with
  | [.s1 (.agg [.val (.int .i64 a1), .sl 0])], [], [⟨145, (.int .u64), a2, .ro⟩] => some ⟨Bool, S.LatOk a1 a2, R93⟩
  | _, _, _ => none
theorem ev93 (a1 : Int) (a2 : List Int) : evF Try.prog G93 L93 (0, 0) Try.f93 c93 [.s1 (.agg [ai a1, .sl 0])] [] [⟨145, (.int .u64), a2, .ro⟩] K93 = S.LatOk a1 a2 := by kernel_rfl
theorem good93 : Vm.Good Try.prog 93 E93 := by
  refine evF_good (G := G93) (c := c93) (envCons_good good154 (envCons_good good155 (envCons_good good95 envNil_good))) Try.func93 (by kernel_rfl) (by kernel_rfl) (0, 0) (fun args bs rs out t h h2 => ?_)
  unfold E93 at h
  split at h
  · injection h with h
    subst h
    exact ⟨rfl, L93, K93, lp93, (fun r t h => by unfold K93 at h; split at h; (injection h with h; subst h; rfl); cases h), (ev93 _ _).trans h2⟩
  · cases h
/-! ### S.l03Takes -/
noncomputable def G225 : Env := envNil
noncomputable def c225 : Code := bodyOf Try.f225
noncomputable def S.l03Takes (a1 : Int) : Option Int :=
(bif (decide (a1 ≤ 3)) then
(some 0)
else
(bif (a1 == 11) then
(some 1)
else
(some 2)))
noncomputable def R225 (x : Int) : Res := ⟨[.one (ai x)], [], []⟩
noncomputable def K225 (r : Res) : Option Int :=
  match r with
  | ⟨[.one (.val (.int .i64 v1))], [], []⟩ => some (v1)
  | _ => none
noncomputable def E225 : Fun2 := fun args bs rs =>
  match args, bs, rs with
  | [.s1 (.one (.val (.int .i64 a1)))], [], [] => some ⟨Int, S.l03Takes a1, R225⟩
  | _, _, _ => none
theorem ev225 (a1 : Int) : evF Try.prog G225 loopNil (0, 0) Try.f225 c225 [vi a1] [] [] K225 = S.l03Takes a1 := by kernel_rfl
theorem good225 : Vm.Good Try.prog 225 E225 := by
  refine evF_good (G := G225) (c := c225) envNil_good Try.func225 (by kernel_rfl) (by kernel_rfl) (0, 0) (fun args bs rs out t h h2 => ?_)
  unfold E225 at h
  split at h
  · injection h with h
    subst h
    exact ⟨rfl, loopNil, K225, (by intro x hx; simp [show loopsOf c225 = [] from by kernel_rfl] at hx), (fun r t h => by unfold K225 at h; split at h; (injection h with h; subst h; rfl); cases h), (ev225 _).trans h2⟩
  · cases h
/-! ### S.l03Depth -/
noncomputable def G205 : Env := (envCons 225 [] E225 envNil)
noncomputable def c205 : Code := bodyOf Try.f205
noncomputable def c205_6 : Code := (loopsOf c205).getD 0 .skip
noncomputable def S.l03Depth_l0 : Nat → (Int → Int → Int → Option Int) → (Int → Int → Option Int) → Int → Int → Int → (List (Int × Int)) → Option Int
  | 0, _, _, _, _, _, _ => none
  | m + 1, e6_0, e6_1, a6, a7, a8, a9 =>
    (bif (decide (a8 < (a9.length : Int))) then
    (bif decide ((0 : Int) ≤ a8 ∧ a8 < (a9.length : Int)) then
    (bif (decide ((nthI a9 a8 ((0 : Int), (0 : Int))).1 < 0)) then
    (e6_0 (-1) a6 a7)
    else
    (bif decide ((0 : Int) ≤ a8 ∧ a8 < (a9.length : Int)) then
    (bif (decide (11 < (nthI a9 a8 ((0 : Int), (0 : Int))).1)) then
    (e6_0 (-1) a6 a7)
    else
    (bif decide ((0 : Int) ≤ a8 ∧ a8 < (a9.length : Int)) then
    (bif ((nthI a9 a8 ((0 : Int), (0 : Int))).1 != 0) then
    (bif decide ((0 : Int) ≤ a8 ∧ a8 < (a9.length : Int)) then
    (bif ((nthI a9 a8 ((0 : Int), (0 : Int))).2 != 0) then
    (e6_0 (-1) a6 a7)
    else
    (bif decide ((0 : Int) ≤ a8 ∧ a8 < (a9.length : Int)) then
    (Option.bind (S.l03Takes ((nthI a9 a8 ((0 : Int), (0 : Int))).1)) fun r16 =>
    (bif (decide (a6 < r16)) then
    (e6_0 (-1) a6 a7)
    else
    (bif decide ((0 : Int) ≤ a8 ∧ a8 < (a9.length : Int)) then
    (Option.bind (S.l03Takes ((nthI a9 a8 ((0 : Int), (0 : Int))).1)) fun r18 =>
    (let v20 : Int := (IntKind.wrap .i64 ((IntKind.wrap .i64 (a6 - r18)) + 1))
    (S.l03Depth_l0 m e6_0 e6_1 v20 (if v20 > a7 then v20 else a7) (IntKind.wrap .i64 (a8 + 1)) a9)))
    else
    none)))
    else
    none))
    else
    none)
    else
    (bif decide ((0 : Int) ≤ a8 ∧ a8 < (a9.length : Int)) then
    (Option.bind (S.l03Takes ((nthI a9 a8 ((0 : Int), (0 : Int))).1)) fun r23 =>
    (bif (decide (a6 < r23)) then
    (e6_0 (-1) a6 a7)
    else
    (bif decide ((0 : Int) ≤ a8 ∧ a8 < (a9.length : Int)) then
    (Option.bind (S.l03Takes ((nthI a9 a8 ((0 : Int), (0 : Int))).1)) fun r25 =>
    (let v27 : Int := (IntKind.wrap .i64 ((IntKind.wrap .i64 (a6 - r25)) + 1))
    (S.l03Depth_l0 m e6_0 e6_1 v27 (if v27 > a7 then v27 else a7) (IntKind.wrap .i64 (a8 + 1)) a9)))
    else
    none)))
    else
    none))
    else
    none))
    else
    none))
    else
    none)
    else
    (e6_1 a6 a7))
noncomputable def S.l03Depth (a1 : List (Int × Int)) : Option Int :=
(bif (decide ((a1.length : Int) < 1)) then
(some (-1))
else
(bif (decide (20 < (a1.length : Int))) then
(some (-1))
else
(S.l03Depth_l0 fu (fun y30 y31 y32 =>
(some y30)) (fun y33 y34 =>
(bif (y33 != 1) then
(some (-1))
else
(some y34))) 0 0 0 a1)))
noncomputable def H205_6 : LoopH := ⟨⟨((.one (.sl 0)) :: (hu 2 (hh :: hh :: hh :: (hu 69 [])))), [], [(260, (.pair (.int .i64) (.int .i64)), .ro)]⟩, [1, 2, 6, 7, 8, 9, 10, 11, 12, 13, 14, 15, 16, 17, 18, 19, 20, 21, 22, 23, 24, 25, 26, 27, 28, 29, 30, 31, 32, 33, 34, 35, 36, 37, 38, 39, 40, 41, 42, 43, 44, 45, 46, 47, 48, 49, 50, 51, 52, 53, 54, 55, 56, 57, 58, 59, 60, 61, 62, 63, 64, 65, 66, 67, 68, 69, 70, 71, 72, 73, 74], [], [0, 1, 5, 6, 7, 8, 9, 10, 11, 12, 13, 14, 15, 16, 17, 18, 19, 20, 21, 22, 23, 24, 25, 26, 27, 28, 29, 30, 31, 32, 33, 34, 35, 36, 37, 38, 39, 40, 41, 42, 43, 44, 45, 46, 47, 48, 49, 50, 51, 52, 53, 54, 55, 56, 57, 58, 59, 60, 61, 62, 63, 64, 65, 66, 67, 68, 69, 70, 71, 72, 73, 74]⟩
noncomputable def E205_6 (m : Nat) (ps : List Prm) (k : Kont Int) : Option Int :=
  match ps with
  | [.v (.int .i64 a6), .v (.int .i64 a7), .v (.int .i64 a8), .row (.pair (.int .i64) (.int .i64)) a9] => S.l03Depth_l0 m (fun z40 z41 z42 => k .ret (⟨(vu 2 ((vi z40) :: (vi z41) :: (vi z42) :: (vu 70 []))), [], []⟩ : St)) (fun z43 z44 => k (.exit 0) (⟨(vu 3 ((vi z43) :: (vi z44) :: (vu 70 []))), [], []⟩ : St)) a6 a7 a8 a9
  | _ => none
noncomputable def S205_6 (a6 a7 a8 : Int) (a9 : List (Int × Int)) : St := (⟨((vl 0) :: (vu 2 ((vi a6) :: (vi a7) :: (vi a8) :: (vu 69 [])))), [], [⟨260, (.pair (.int .i64) (.int .i64)), a9, .ro⟩]⟩ : St)
theorem ev205_6 (m : Nat) (k : Kont Int) (a6 a7 a8 : Int) (a9 : List (Int × Int)) : evC Try.prog G205 loopNil c205_6 (S205_6 a6 a7 a8 a9) (turn Try.prog (0, 0) H205_6 (E205_6 m) k) = E205_6 (m + 1) [.v (.int .i64 a6), .v (.int .i64 a7), .v (.int .i64 a8), .row (.pair (.int .i64) (.int .i64)) a9] k := by kernel_rfl
theorem ok205_6 (m : Nat) : LoopOk Try.prog (0, 0) c205_6 (enter Try.prog (0, 0) H205_6 (E205_6 m)) := by
  refine loop_ok (G := G205) (L := loopNil) (envCons_good good225 envNil_good) (by intro x hx; simp [show loopsOf c205_6 = [] from by kernel_rfl] at hx) (fun ps k => by unfold E205_6; split <;> rfl) (fun m ps k r h => ?_) m
  have h0 := h
  unfold E205_6 at h
  split at h
  · exact ⟨S205_6 _ _ _ _, by kernel_rfl, (ev205_6 m k _ _ _ _).trans h0⟩
  · cases h
noncomputable def L205 : LEnv Int := (loopCons 6 (enter Try.prog (0, 0) H205_6 (E205_6 fu)) loopNil)
theorem lq205 : loopsOf c205 = [c205_6] := by kernel_rfl
theorem fr205_6 : firstReg c205_6 = some 6 := by kernel_rfl
theorem le205_6 : L205 6 = enter Try.prog (0, 0) H205_6 (E205_6 fu) := by kernel_rfl
theorem lm205 : ∀ x ∈ [c205_6], ∀ id, firstReg x = some id → LoopOk Try.prog (0, 0) x (L205 id) := (loops_cons fr205_6 le205_6 (ok205_6 fu) loops_nil)
theorem lp205 : ∀ x ∈ loopsOf c205, ∀ id, firstReg x = some id → LoopOk Try.prog (0, 0) x (L205 id) := loops_eq lq205 lm205
noncomputable def R205 (x : Int) : Res := ⟨[.one (ai x)], [], []⟩
noncomputable def K205 (r : Res) : Option Int :=
  match r with
  | ⟨[.one (.val (.int .i64 v1))], [], []⟩ => some (v1)
  | _ => none
noncomputable def E205 : Fun2 := fun args bs rs =>
  match args, bs, rs with
  | [.s1 (.one (.sl 0))], [], [⟨260, (.pair (.int .i64) (.int .i64)), a1, .ro⟩] => some ⟨Int, S.l03Depth a1, R205⟩
  | _, _, _ => none
theorem ev205 (a1 : List (Int × Int)) : evF Try.prog G205 L205 (0, 0) Try.f205 c205 [vl 0] [] [⟨260, (.pair (.int .i64) (.int .i64)), a1, .ro⟩] K205 = S.l03Depth a1 := by kernel_rfl
theorem good205 : Vm.Good Try.prog 205 E205 := by
  refine evF_good (G := G205) (c := c205) (envCons_good good225 envNil_good) Try.func205 (by kernel_rfl) (by kernel_rfl) (0, 0) (fun args bs rs out t h h2 => ?_)
  unfold E205 at h
  split at h
  · injection h with h
    subst h
    exact ⟨rfl, L205, K205, lp205, (fun r t h => by unfold K205 at h; split at h; (injection h with h; subst h; rfl); cases h), (ev205 _).trans h2⟩
  · cases h
/-! ### S.ExprOk -/
noncomputable def G179 : Env := (envCons 205 [] E205 envNil)
noncomputable def c179 : Code := bodyOf Try.f179
noncomputable def S.ExprOk (a1 : List (Int × Int)) : Option Bool :=
(Option.bind (S.l03Depth a1) fun r2 =>
(some (decide (0 ≤ r2))))
noncomputable def R179 (x : Bool) : Res := ⟨[.one (ab x)], [], []⟩
noncomputable def K179 (r : Res) : Option Bool :=
  match r with
  | ⟨[.one (.val (.bool v1))], [], []⟩ => some (v1)
  | _ => none
noncomputable def E179 : Fun2 := fun args bs rs =>
  match args, bs, rs with
  | [.s1 (.one (.sl 0))], [], [⟨260, (.pair (.int .i64) (.int .i64)), a1, .ro⟩] => some ⟨Bool, S.ExprOk a1, R179⟩
  | _, _, _ => none
theorem ev179 (a1 : List (Int × Int)) : evF Try.prog G179 loopNil (0, 0) Try.f179 c179 [vl 0] [] [⟨260, (.pair (.int .i64) (.int .i64)), a1, .ro⟩] K179 = S.ExprOk a1 := by kernel_rfl
theorem good179 : Vm.Good Try.prog 179 E179 := by
  refine evF_good (G := G179) (c := c179) (envCons_good good205 envNil_good) Try.func179 (by kernel_rfl) (by kernel_rfl) (0, 0) (fun args bs rs out t h h2 => ?_)
  unfold E179 at h
  split at h
  · injection h with h
    subst h
    exact ⟨rfl, loopNil, K179, (by intro x hx; simp [show loopsOf c179 = [] from by kernel_rfl] at hx), (fun r t h => by unfold K179 at h; split at h; (injection h with h; subst h; rfl); cases h), (ev179 _).trans h2⟩
  · cases h
/-! ### S.WinOk -/
noncomputable def G180 : Env := envNil
noncomputable def c180 : Code := bodyOf Try.f180
noncomputable def S.WinOk (a1 a2 a3 : Int) : Option Bool :=
(bif (decide (a1 < 1)) then
(some false)
else
(bif (decide (3 < a1)) then
(some false)
else
(bif (decide (a2 < 1)) then
(some false)
else
(bif (decide (100 < a2)) then
(some false)
else
(bif (a1 != 2) then
(some (a3 == 0))
else
(bif (decide (1 ≤ a3)) then
(bif (decide (a3 ≤ a2)) then
(some (decide (a2 ≤ (IntKind.wrap .i64 (8 * a3)))))
else
(some false))
else
(some false)))))))
noncomputable def R180 (x : Bool) : Res := ⟨[.one (ab x)], [], []⟩
noncomputable def K180 (r : Res) : Option Bool :=
  match r with
  | ⟨[.one (.val (.bool v1))], [], []⟩ => some (v1)
  | _ => none
noncomputable def E180 : Fun2 := fun args bs rs =>
  match args, bs, rs with
  | [.s1 (.agg [.val (.int .i64 a1), .val (.int .i64 a2), .val (.int .i64 a3)])], [], [] => some ⟨Bool, S.WinOk a1 a2 a3, R180⟩
  | _, _, _ => none
theorem ev180 (a1 a2 a3 : Int) : evF Try.prog G180 loopNil (0, 0) Try.f180 c180 [.s1 (.agg [ai a1, ai a2, ai a3])] [] [] K180 = S.WinOk a1 a2 a3 := by kernel_rfl
theorem good180 : Vm.Good Try.prog 180 E180 := by
  refine evF_good (G := G180) (c := c180) envNil_good Try.func180 (by kernel_rfl) (by kernel_rfl) (0, 0) (fun args bs rs out t h h2 => ?_)
  unfold E180 at h
  split at h
  · injection h with h
    subst h
    exact ⟨rfl, loopNil, K180, (by intro x hx; simp [show loopsOf c180 = [] from by kernel_rfl] at hx), (fun r t h => by unfold K180 at h; split at h; (injection h with h; subst h; rfl); cases h), (ev180 _ _ _).trans h2⟩
  · cases h
/-! ### S.AggKind -/
noncomputable def G181 : Env := envNil
noncomputable def c181 : Code := bodyOf Try.f181
noncomputable def S.AggKind (a1 a2 : Int) : Option Bool :=
(bif (a1 == 6) then
(bif (decide (1 ≤ a2)) then
(some (decide (a2 ≤ 4)))
else
(some false))
else
(bif (decide (1 ≤ a1)) then
(bif (decide (a1 < 6)) then
(some (a2 == 0))
else
(some false))
else
(some false)))
noncomputable def R181 (x : Bool) : Res := ⟨[.one (ab x)], [], []⟩
noncomputable def K181 (r : Res) : Option Bool :=
  match r with
  | ⟨[.one (.val (.bool v1))], [], []⟩ => some (v1)
  | _ => none
noncomputable def E181 : Fun2 := fun args bs rs =>
  match args, bs, rs with
  | [.s1 (.one (.val (.int .i64 a1))), .s1 (.one (.val (.int .i64 a2)))], [], [] => some ⟨Bool, S.AggKind a1 a2, R181⟩
  | _, _, _ => none
theorem ev181 (a1 a2 : Int) : evF Try.prog G181 loopNil (0, 0) Try.f181 c181 [vi a1, vi a2] [] [] K181 = S.AggKind a1 a2 := by kernel_rfl
theorem good181 : Vm.Good Try.prog 181 E181 := by
  refine evF_good (G := G181) (c := c181) envNil_good Try.func181 (by kernel_rfl) (by kernel_rfl) (0, 0) (fun args bs rs out t h h2 => ?_)
  unfold E181 at h
  split at h
  · injection h with h
    subst h
    exact ⟨rfl, loopNil, K181, (by intro x hx; simp [show loopsOf c181 = [] from by kernel_rfl] at hx), (fun r t h => by unfold K181 at h; split at h; (injection h with h; subst h; rfl); cases h), (ev181 _ _).trans h2⟩
  · cases h
/-! ### S.QueryOk -/
noncomputable def G126 : Env := (envCons 179 [] E179 (envCons 180 [] E180 (envCons 181 [] E181 envNil)))
noncomputable def c126 : Code := bodyOf Try.f126
noncomputable def S.QueryOk (a1 a2 a3 a4 a5 : Int) (a6 a7 : List (Int × Int)) : Option Bool :=
(Option.bind (S.ExprOk a6) fun r8 =>
(bif r8 then
(Option.bind (S.ExprOk a7) fun r9 =>
(bif r9 then
(Option.bind (S.WinOk a1 a2 a3) fun r10 =>
(bif r10 then
(Option.bind (S.AggKind a4 a5) fun r11 =>
(some r11))
else
(some false)))
else
(some false)))
else
(some false)))
noncomputable def R126 (x : Bool) : Res := ⟨[.one (ab x)], [], []⟩
noncomputable def K126 (r : Res) : Option Bool :=
  match r with
  | ⟨[.one (.val (.bool v1))], [], []⟩ => some (v1)
  | _ => none
noncomputable def E126 : Fun2 := fun args bs rs =>
  match args, bs, rs with
  | [.s1 (.agg [.sl 0, .sl 1, .val (.int .i64 a1), .val (.int .i64 a2), .val (.int .i64 a3), .val (.int .i64 a4), .val (.int .i64 a5)])], [], [⟨260, (.pair (.int .i64) (.int .i64)), a6, .ro⟩, ⟨260, (.pair (.int .i64) (.int .i64)), a7, .ro⟩] => some ⟨Bool, S.QueryOk a1 a2 a3 a4 a5 a6 a7, R126⟩
  | _, _, _ => none
theorem ev126 (a1 a2 a3 a4 a5 : Int) (a6 a7 : List (Int × Int)) : evF Try.prog G126 loopNil (0, 0) Try.f126 c126 [.s1 (.agg [.sl 0, .sl 1, ai a1, ai a2, ai a3, ai a4, ai a5])] [] [⟨260, (.pair (.int .i64) (.int .i64)), a6, .ro⟩, ⟨260, (.pair (.int .i64) (.int .i64)), a7, .ro⟩] K126 = S.QueryOk a1 a2 a3 a4 a5 a6 a7 := by kernel_rfl
theorem good126 : Vm.Good Try.prog 126 E126 := by
  refine evF_good (G := G126) (c := c126) (envCons_good good179 (envCons_good good180 (envCons_good good181 envNil_good))) Try.func126 (by kernel_rfl) (by kernel_rfl) (0, 0) (fun args bs rs out t h h2 => ?_)
  unfold E126 at h
  split at h
  · injection h with h
    subst h
    exact ⟨rfl, loopNil, K126, (by intro x hx; simp [show loopsOf c126 = [] from by kernel_rfl] at hx), (fun r t h => by unfold K126 at h; split at h; (injection h with h; subst h; rfl); cases h), (ev126 _ _ _ _ _ _ _).trans h2⟩
  · cases h
/-! ### S.l01Here -/
noncomputable def G127 : Env := envNil
noncomputable def c127 : Code := bodyOf Try.f127
noncomputable def S.l01Here (a1 a2 : Int) (a3 : List Int) : Option Bool :=
(bif (decide (0 ≤ a2)) then
(some (decide (a2 < a1)))
else
(some false))
noncomputable def R127 (x : Bool) : Res := ⟨[.one (ab x)], [], []⟩
noncomputable def K127 (r : Res) : Option Bool :=
  match r with
  | ⟨[.one (.val (.bool v1))], [], []⟩ => some (v1)
  | _ => none
noncomputable def E127 : Fun2 := fun args bs rs =>
  match args, bs, rs with
  | [.s1 (.agg [.val (.int .i64 a1), .sl 0]), .s1 (.one (.val (.int .i64 a2)))], [], [⟨145, (.int .u64), a3, .ro⟩] => some ⟨Bool, S.l01Here a1 a2 a3, R127⟩
  | _, _, _ => none
theorem ev127 (a1 a2 : Int) (a3 : List Int) : evF Try.prog G127 loopNil (0, 0) Try.f127 c127 [.s1 (.agg [ai a1, .sl 0]), vi a2] [] [⟨145, (.int .u64), a3, .ro⟩] K127 = S.l01Here a1 a2 a3 := by kernel_rfl
theorem good127 : Vm.Good Try.prog 127 E127 := by
  refine evF_good (G := G127) (c := c127) envNil_good Try.func127 (by kernel_rfl) (by kernel_rfl) (0, 0) (fun args bs rs out t h h2 => ?_)
  unfold E127 at h
  split at h
  · injection h with h
    subst h
    exact ⟨rfl, loopNil, K127, (by intro x hx; simp [show loopsOf c127 = [] from by kernel_rfl] at hx), (fun r t h => by unfold K127 at h; split at h; (injection h with h; subst h; rfl); cases h), (ev127 _ _ _).trans h2⟩
  · cases h
/-! ### S.l10Cap -/
noncomputable def G128 : Env := envNil
noncomputable def c128 : Code := bodyOf Try.f128
noncomputable def S.l10Cap (a1 : Int) : Option Bool :=
(bif (decide (1 ≤ a1)) then
(some (decide (a1 ≤ 50)))
else
(some false))
noncomputable def R128 (x : Bool) : Res := ⟨[.one (ab x)], [], []⟩
noncomputable def K128 (r : Res) : Option Bool :=
  match r with
  | ⟨[.one (.val (.bool v1))], [], []⟩ => some (v1)
  | _ => none
noncomputable def E128 : Fun2 := fun args bs rs =>
  match args, bs, rs with
  | [.s1 (.one (.val (.int .i64 a1)))], [], [] => some ⟨Bool, S.l10Cap a1, R128⟩
  | _, _, _ => none
theorem ev128 (a1 : Int) : evF Try.prog G128 loopNil (0, 0) Try.f128 c128 [vi a1] [] [] K128 = S.l10Cap a1 := by kernel_rfl
theorem good128 : Vm.Good Try.prog 128 E128 := by
  refine evF_good (G := G128) (c := c128) envNil_good Try.func128 (by kernel_rfl) (by kernel_rfl) (0, 0) (fun args bs rs out t h h2 => ?_)
  unfold E128 at h
  split at h
  · injection h with h
    subst h
    exact ⟨rfl, loopNil, K128, (by intro x hx; simp [show loopsOf c128 = [] from by kernel_rfl] at hx), (fun r t h => by unfold K128 at h; split at h; (injection h with h; subst h; rfl); cases h), (ev128 _).trans h2⟩
  · cases h
/-! ### S.l11Query -/
noncomputable def G129 : Env := envNil
noncomputable def c129 : Code := bodyOf Try.f129
noncomputable def S.l11Query (a1 a2 a3 a4 : Int) (a5 : List Int) (a6 : List (List (Int × Int) × List (Int × Int) × (Int × Int × Int) × Int × Int)) (a7 : List (Int × Int × Int)) (a8 : List (Int × Int × Int × Int × Int)) : Option Bool :=
(bif (decide (0 ≤ a1)) then
(some (decide (a1 < (a6.length : Int))))
else
(some false))
noncomputable def R129 (x : Bool) : Res := ⟨[.one (ab x)], [], []⟩
noncomputable def K129 (r : Res) : Option Bool :=
  match r with
  | ⟨[.one (.val (.bool v1))], [], []⟩ => some (v1)
  | _ => none
noncomputable def E129 : Fun2 := fun args bs rs =>
  match args, bs, rs with
  | [.s1 (.one (.val (.int .i64 a1))), .s1 (.agg [.val (.int .i64 a2), .sl 0, .val (.int .i64 a3), .val (.int .i64 a4), .sl 1, .sl 2, .sl 3])], [], [⟨145, (.int .u64), a5, .ro⟩, ⟨173, (.pair (.sl 260 (.pair (.int .i64) (.int .i64))) (.pair (.sl 260 (.pair (.int .i64) (.int .i64))) (.pair (.pair (.int .i64) (.pair (.int .i64) (.int .i64))) (.pair (.int .i64) (.int .i64))))), a6, .ro⟩, ⟨175, (.pair (.int .i64) (.pair (.int .i64) (.int .i64))), a7, .ro⟩, ⟨178, (.pair (.int .i64) (.pair (.int .i64) (.pair (.int .i64) (.pair (.int .i64) (.int .i64))))), a8, .ro⟩] => some ⟨Bool, S.l11Query a1 a2 a3 a4 a5 a6 a7 a8, R129⟩
  | _, _, _ => none
theorem ev129 (a1 a2 a3 a4 : Int) (a5 : List Int) (a6 : List (List (Int × Int) × List (Int × Int) × (Int × Int × Int) × Int × Int)) (a7 : List (Int × Int × Int)) (a8 : List (Int × Int × Int × Int × Int)) : evF Try.prog G129 loopNil (0, 0) Try.f129 c129 [vi a1, .s1 (.agg [ai a2, .sl 0, ai a3, ai a4, .sl 1, .sl 2, .sl 3])] [] [⟨145, (.int .u64), a5, .ro⟩, ⟨173, (.pair (.sl 260 (.pair (.int .i64) (.int .i64))) (.pair (.sl 260 (.pair (.int .i64) (.int .i64))) (.pair (.pair (.int .i64) (.pair (.int .i64) (.int .i64))) (.pair (.int .i64) (.int .i64))))), a6, .ro⟩, ⟨175, (.pair (.int .i64) (.pair (.int .i64) (.int .i64))), a7, .ro⟩, ⟨178, (.pair (.int .i64) (.pair (.int .i64) (.pair (.int .i64) (.pair (.int .i64) (.int .i64))))), a8, .ro⟩] K129 = S.l11Query a1 a2 a3 a4 a5 a6 a7 a8 := by kernel_rfl
theorem good129 : Vm.Good Try.prog 129 E129 := by
  refine evF_good (G := G129) (c := c129) envNil_good Try.func129 (by kernel_rfl) (by kernel_rfl) (0, 0) (fun args bs rs out t h h2 => ?_)
  unfold E129 at h
  split at h
  · injection h with h
    subst h
    exact ⟨rfl, loopNil, K129, (by intro x hx; simp [show loopsOf c129 = [] from by kernel_rfl] at hx), (fun r t h => by unfold K129 at h; split at h; (injection h with h; subst h; rfl); cases h), (ev129 _ _ _ _ _ _ _ _).trans h2⟩
  · cases h
/-! ### S.ConfOk -/
noncomputable def G62 : Env := (envCons 93 [] E93 (envCons 126 [] E126 (envCons 127 [] E127 (envCons 128 [] E128 (envCons 129 [] E129 envNil)))))
noncomputable def c62 : Code := bodyOf Try.f62
noncomputable def c62_6 : Code := (loopsOf c62).getD 0 .skip
noncomputable def c62_11 : Code := (loopsOf c62).getD 1 .skip
noncomputable def c62_17 : Code := (loopsOf c62).getD 2 .skip
noncomputable def S.ConfOk_l0 : Nat → (Bool → Int → Int → Int → List Int → (List (List (Int × Int) × List (Int × Int) × (Int × Int × Int) × Int × Int)) → (List (Int × Int × Int)) → (List (Int × Int × Int × Int × Int)) → Option Bool) → (Int → Int → Int → List Int → (List (List (Int × Int) × List (Int × Int) × (Int × Int × Int) × Int × Int)) → (List (Int × Int × Int)) → (List (Int × Int × Int × Int × Int)) → Option Bool) → Int → Int → Int → Int → List Int → (List (List (Int × Int) × List (Int × Int) × (Int × Int × Int) × Int × Int)) → (List (Int × Int × Int)) → (List (Int × Int × Int × Int × Int)) → Option Bool
  | 0, _, _, _, _, _, _, _, _, _, _ => none
  | m + 1, e6_0, e6_1, a23, a24, a25, a26, a27, a28, a29, a30 =>
    (bif (decide (a23 < (a28.length : Int))) then
    (bif decide ((0 : Int) ≤ a23 ∧ a23 < (a28.length : Int)) then
    (Option.bind (S.QueryOk ((nthI a28 a23 ([], ([], (((0 : Int), ((0 : Int), (0 : Int))), ((0 : Int), (0 : Int)))))).2.2.1.1) ((nthI a28 a23 ([], ([], (((0 : Int), ((0 : Int), (0 : Int))), ((0 : Int), (0 : Int)))))).2.2.1.2.1) ((nthI a28 a23 ([], ([], (((0 : Int), ((0 : Int), (0 : Int))), ((0 : Int), (0 : Int)))))).2.2.1.2.2) ((nthI a28 a23 ([], ([], (((0 : Int), ((0 : Int), (0 : Int))), ((0 : Int), (0 : Int)))))).2.2.2.1) ((nthI a28 a23 ([], ([], (((0 : Int), ((0 : Int), (0 : Int))), ((0 : Int), (0 : Int)))))).2.2.2.2) ((nthI a28 a23 ([], ([], (((0 : Int), ((0 : Int), (0 : Int))), ((0 : Int), (0 : Int)))))).1) ((nthI a28 a23 ([], ([], (((0 : Int), ((0 : Int), (0 : Int))), ((0 : Int), (0 : Int)))))).2.1)) fun r33 =>
    (bif (!r33) then
    (e6_0 false a24 a25 a26 a27 a28 a29 a30)
    else
    (S.ConfOk_l0 m e6_0 e6_1 (IntKind.wrap .i64 (a23 + 1)) a24 a25 a26 a27 a28 a29 a30)))
    else
    none)
    else
    (e6_1 a24 a25 a26 a27 a28 a29 a30))
noncomputable def S.ConfOk_l1 : Nat → (Bool → Int → Int → Int → List Int → (List (List (Int × Int) × List (Int × Int) × (Int × Int × Int) × Int × Int)) → (List (Int × Int × Int)) → (List (Int × Int × Int × Int × Int)) → Option Bool) → (Int → Int → Int → List Int → (List (List (Int × Int) × List (Int × Int) × (Int × Int × Int) × Int × Int)) → (List (Int × Int × Int)) → (List (Int × Int × Int × Int × Int)) → Option Bool) → Int → Int → Int → Int → List Int → (List (List (Int × Int) × List (Int × Int) × (Int × Int × Int) × Int × Int)) → (List (Int × Int × Int)) → (List (Int × Int × Int × Int × Int)) → Option Bool
  | 0, _, _, _, _, _, _, _, _, _, _ => none
  | m + 1, e11_0, e11_1, a50, a51, a52, a53, a54, a55, a56, a57 =>
    (bif (decide (a50 < (a56.length : Int))) then
    (bif decide ((0 : Int) ≤ a50 ∧ a50 < (a56.length : Int)) then
    (Option.bind (S.l01Here a51 ((nthI a56 a50 ((0 : Int), ((0 : Int), (0 : Int)))).1) a54) fun r60 =>
    (bif (!r60) then
    (e11_0 false a51 a52 a53 a54 a55 a56 a57)
    else
    (Option.bind (S.l10Cap ((nthI a56 a50 ((0 : Int), ((0 : Int), (0 : Int)))).2.1)) fun r61 =>
    (bif (!r61) then
    (e11_0 false a51 a52 a53 a54 a55 a56 a57)
    else
    (Option.bind (S.l10Cap ((nthI a56 a50 ((0 : Int), ((0 : Int), (0 : Int)))).2.2)) fun r62 =>
    (bif (!r62) then
    (e11_0 false a51 a52 a53 a54 a55 a56 a57)
    else
    (S.ConfOk_l1 m e11_0 e11_1 (IntKind.wrap .i64 (a50 + 1)) a51 a52 a53 a54 a55 a56 a57)))))))
    else
    none)
    else
    (e11_1 a51 a52 a53 a54 a55 a56 a57))
noncomputable def S.ConfOk_l2 : Nat → (Bool → Option Bool) → (Option Bool) → Int → Int → Int → Int → List Int → (List (List (Int × Int) × List (Int × Int) × (Int × Int × Int) × Int × Int)) → (List (Int × Int × Int)) → (List (Int × Int × Int × Int × Int)) → Option Bool
  | 0, _, _, _, _, _, _, _, _, _, _ => none
  | m + 1, e17_0, e17_1, a79, a80, a81, a82, a83, a84, a85, a86 =>
    (bif (decide (a79 < (a86.length : Int))) then
    (bif decide ((0 : Int) ≤ a79 ∧ a79 < (a86.length : Int)) then
    (Option.bind (S.l11Query ((nthI a86 a79 ((0 : Int), ((0 : Int), ((0 : Int), ((0 : Int), (0 : Int)))))).1) a80 a81 a82 a83 a84 a85 a86) fun r89 =>
    (bif (!r89) then
    (e17_0 false)
    else
    (Option.bind (S.l01Here a80 ((nthI a86 a79 ((0 : Int), ((0 : Int), ((0 : Int), ((0 : Int), (0 : Int)))))).2.1) a83) fun r90 =>
    (bif (!r90) then
    (e17_0 false)
    else
    (Option.bind (S.l01Here a80 ((nthI a86 a79 ((0 : Int), ((0 : Int), ((0 : Int), ((0 : Int), (0 : Int)))))).2.2.1) a83) fun r91 =>
    (bif (!r91) then
    (e17_0 false)
    else
    (let v92 : Bool := (decide ((nthI a86 a79 ((0 : Int), ((0 : Int), ((0 : Int), ((0 : Int), (0 : Int)))))).2.2.2.1 < 1))
    (bif v92 then
    (e17_0 false)
    else
    (let v93 : Bool := (decide (1000000 < (nthI a86 a79 ((0 : Int), ((0 : Int), ((0 : Int), ((0 : Int), (0 : Int)))))).2.2.2.1))
    (bif v93 then
    (e17_0 false)
    else
    (let v94 : Bool := (decide ((nthI a86 a79 ((0 : Int), ((0 : Int), ((0 : Int), ((0 : Int), (0 : Int)))))).2.2.2.2 < 0))
    (bif v94 then
    (e17_0 false)
    else
    (let v95 : Bool := (decide (20 < (nthI a86 a79 ((0 : Int), ((0 : Int), ((0 : Int), ((0 : Int), (0 : Int)))))).2.2.2.2))
    (bif v95 then
    (e17_0 false)
    else
    (S.ConfOk_l2 m e17_0 e17_1 (IntKind.wrap .i64 (a79 + 1)) a80 a81 a82 a83 a84 a85 a86)))))))))))))))
    else
    none)
    else
    e17_1)
noncomputable def S.ConfOk (a1 a2 a3 : Int) (a4 : List Int) (a5 : List (List (Int × Int) × List (Int × Int) × (Int × Int × Int) × Int × Int)) (a6 : List (Int × Int × Int)) (a7 : List (Int × Int × Int × Int × Int)) : Option Bool :=
(Option.bind (S.LatOk a1 a4) fun r8 =>
(bif (!r8) then
(some false)
else
(bif (decide (a2 < 1)) then
(some false)
else
(bif (decide (4 < a2)) then
(some false)
else
(bif (decide (a3 < 1)) then
(some false)
else
(bif (decide (30 < a3)) then
(some false)
else
(bif (decide ((a5.length : Int) < 1)) then
(some false)
else
(bif (decide (4 < (a5.length : Int))) then
(some false)
else
(bif (decide ((a6.length : Int) < 1)) then
(some false)
else
(bif (decide (4 < (a6.length : Int))) then
(some false)
else
(bif (decide (3 < (a7.length : Int))) then
(some false)
else
(S.ConfOk_l0 fu (fun y35 y36 y37 y38 y39 y40 y41 y42 =>
(some y35)) (fun y43 y44 y45 y46 y47 y48 y49 =>
(S.ConfOk_l1 fu (fun y64 y65 y66 y67 y68 y69 y70 y71 =>
(some y64)) (fun y72 y73 y74 y75 y76 y77 y78 =>
(S.ConfOk_l2 fu (fun y97 =>
(some y97)) (some true) 0 y72 y73 y74 y75 y76 y77 y78)) 0 y43 y44 y45 y46 y47 y48 y49)) 0 a1 a2 a3 a4 a5 a6 a7))))))))))))
noncomputable def H62_6 : LoopH := ⟨⟨((.one (.unk)) :: (.one (.ptr 0 0)) :: (.one (.unk)) :: hh :: (hu 153 [])), [(97, [.hole, .sl 0, .hole, .hole, .sl 1, .sl 2, .sl 3])], [(145, (.int .u64), .ro), (173, (.pair (.sl 260 (.pair (.int .i64) (.int .i64))) (.pair (.sl 260 (.pair (.int .i64) (.int .i64))) (.pair (.pair (.int .i64) (.pair (.int .i64) (.int .i64))) (.pair (.int .i64) (.int .i64))))), .ro), (175, (.pair (.int .i64) (.pair (.int .i64) (.int .i64))), .ro), (178, (.pair (.int .i64) (.pair (.int .i64) (.pair (.int .i64) (.pair (.int .i64) (.int .i64))))), .ro)]⟩, [0, 2, 4, 5, 6, 7, 8, 9, 10, 11, 12, 13, 14, 15, 16, 17, 18, 19, 20, 21, 22, 23, 24, 25, 26, 27, 28, 29, 30, 31, 32, 33, 34, 35, 36, 37, 38, 39, 40, 41, 42, 43, 44, 45, 46, 47, 48, 49, 50, 51, 52, 53, 54, 55, 56, 57, 58, 59, 60, 61, 62, 63, 64, 65, 66, 67, 68, 69, 70, 71, 72, 73, 74, 75, 76, 77, 78, 79, 80, 81, 82, 83, 84, 85, 86, 87, 88, 89, 90, 91, 92, 93, 94, 95, 96, 97, 98, 99, 100, 101, 102, 103, 104, 105, 106, 107, 108, 109, 110, 111, 112, 113, 114, 115, 116, 117, 118, 119, 120, 121, 122, 123, 124, 125, 126, 127, 128, 129, 130, 131, 132, 133, 134, 135, 136, 137, 138, 139, 140, 141, 142, 143, 144, 145, 146, 147, 148, 149, 150, 151, 152, 153, 154, 155, 156], [], [0, 3, 4, 5, 6, 7, 8, 9, 10, 11, 12, 13, 14, 15, 16, 17, 18, 19, 20, 21, 22, 23, 24, 25, 26, 27, 28, 29, 30, 31, 32, 33, 34, 35, 36, 37, 38, 39, 40, 41, 42, 43, 44, 45, 46, 47, 48, 49, 50, 51, 52, 53, 54, 55, 56, 57, 58, 59, 60, 61, 62, 63, 64, 65, 66, 67, 68, 69, 70, 71, 72, 73, 74, 75, 76, 77, 78, 79, 80, 81, 82, 83, 84, 85, 86, 87, 88, 89, 90, 91, 92, 93, 94, 95, 96, 97, 98, 99, 100, 101, 102, 103, 104, 105, 106, 107, 108, 109, 110, 111, 112, 113, 114, 115, 116, 117, 118, 119, 120, 121, 122, 123, 124, 125, 126, 127, 128, 129, 130, 131, 132, 133, 134, 135, 136, 137, 138, 139, 140, 141, 142, 143, 144, 145, 146, 147, 148, 149, 150, 151, 152, 153, 154, 155, 156]⟩
noncomputable def E62_6 (m : Nat) (ps : List Prm) (k : Kont Bool) : Option Bool :=
  match ps with
  | [.v (.int .i64 a23), .v (.int .i64 a24), .v (.int .i64 a25), .v (.int .i64 a26), .row (.int .u64) a27, .row (.pair (.sl 260 (.pair (.int .i64) (.int .i64))) (.pair (.sl 260 (.pair (.int .i64) (.int .i64))) (.pair (.pair (.int .i64) (.pair (.int .i64) (.int .i64))) (.pair (.int .i64) (.int .i64))))) a28, .row (.pair (.int .i64) (.pair (.int .i64) (.int .i64))) a29, .row (.pair (.int .i64) (.pair (.int .i64) (.pair (.int .i64) (.pair (.int .i64) (.int .i64))))) a30] => S.ConfOk_l0 m (fun z129 z130 z131 z132 z133 z134 z135 z136 => k .ret (⟨((.s1 (.one (.unk))) :: (vp 0 0) :: (vb z129) :: (vu 154 [])), [(97, [ai z130, .sl 0, ai z131, ai z132, .sl 1, .sl 2, .sl 3])], [⟨145, (.int .u64), z133, .ro⟩, ⟨173, (.pair (.sl 260 (.pair (.int .i64) (.int .i64))) (.pair (.sl 260 (.pair (.int .i64) (.int .i64))) (.pair (.pair (.int .i64) (.pair (.int .i64) (.int .i64))) (.pair (.int .i64) (.int .i64))))), z134, .ro⟩, ⟨175, (.pair (.int .i64) (.pair (.int .i64) (.int .i64))), z135, .ro⟩, ⟨178, (.pair (.int .i64) (.pair (.int .i64) (.pair (.int .i64) (.pair (.int .i64) (.int .i64))))), z136, .ro⟩]⟩ : St)) (fun z137 z138 z139 z140 z141 z142 z143 => k (.exit 0) (⟨((.s1 (.one (.unk))) :: (vp 0 0) :: (vu 155 [])), [(97, [ai z137, .sl 0, ai z138, ai z139, .sl 1, .sl 2, .sl 3])], [⟨145, (.int .u64), z140, .ro⟩, ⟨173, (.pair (.sl 260 (.pair (.int .i64) (.int .i64))) (.pair (.sl 260 (.pair (.int .i64) (.int .i64))) (.pair (.pair (.int .i64) (.pair (.int .i64) (.int .i64))) (.pair (.int .i64) (.int .i64))))), z141, .ro⟩, ⟨175, (.pair (.int .i64) (.pair (.int .i64) (.int .i64))), z142, .ro⟩, ⟨178, (.pair (.int .i64) (.pair (.int .i64) (.pair (.int .i64) (.pair (.int .i64) (.int .i64))))), z143, .ro⟩]⟩ : St)) a23 a24 a25 a26 a27 a28 a29 a30
  | _ => none
noncomputable def S62_6 (a23 a24 a25 a26 : Int) (a27 : List Int) (a28 : List (List (Int × Int) × List (Int × Int) × (Int × Int × Int) × Int × Int)) (a29 : List (Int × Int × Int)) (a30 : List (Int × Int × Int × Int × Int)) : St := (⟨((.s1 (.one (.unk))) :: (vp 0 0) :: (.s1 (.one (.unk))) :: (vi a23) :: (vu 153 [])), [(97, [ai a24, .sl 0, ai a25, ai a26, .sl 1, .sl 2, .sl 3])], [⟨145, (.int .u64), a27, .ro⟩, ⟨173, (.pair (.sl 260 (.pair (.int .i64) (.int .i64))) (.pair (.sl 260 (.pair (.int .i64) (.int .i64))) (.pair (.pair (.int .i64) (.pair (.int .i64) (.int .i64))) (.pair (.int .i64) (.int .i64))))), a28, .ro⟩, ⟨175, (.pair (.int .i64) (.pair (.int .i64) (.int .i64))), a29, .ro⟩, ⟨178, (.pair (.int .i64) (.pair (.int .i64) (.pair (.int .i64) (.pair (.int .i64) (.int .i64))))), a30, .ro⟩]⟩ : St)
theorem ev62_6 (m : Nat) (k : Kont Bool) (a23 a24 a25 a26 : Int) (a27 : List Int) (a28 : List (List (Int × Int) × List (Int × Int) × (Int × Int × Int) × Int × Int)) (a29 : List (Int × Int × Int)) (a30 : List (Int × Int × Int × Int × Int)) : evC Try.prog G62 loopNil c62_6 (S62_6 a23 a24 a25 a26 a27 a28 a29 a30) (turn Try.prog (0, 0) H62_6 (E62_6 m) k) = E62_6 (m + 1) [.v (.int .i64 a23), .v (.int .i64 a24), .v (.int .i64 a25), .v (.int .i64 a26), .row (.int .u64) a27, .row (.pair (.sl 260 (.pair (.int .i64) (.int .i64))) (.pair (.sl 260 (.pair (.int .i64) (.int .i64))) (.pair (.pair (.int .i64) (.pair (.int .i64) (.int .i64))) (.pair (.int .i64) (.int .i64))))) a28, .row (.pair (.int .i64) (.pair (.int .i64) (.int .i64))) a29, .row (.pair (.int .i64) (.pair (.int .i64) (.pair (.int .i64) (.pair (.int .i64) (.int .i64))))) a30] k := by kernel_rfl
theorem ok62_6 (m : Nat) : LoopOk Try.prog (0, 0) c62_6 (enter Try.prog (0, 0) H62_6 (E62_6 m)) := by
  refine loop_ok (G := G62) (L := loopNil) (envCons_good good93 (envCons_good good126 (envCons_good good127 (envCons_good good128 (envCons_good good129 envNil_good))))) (by intro x hx; simp [show loopsOf c62_6 = [] from by kernel_rfl] at hx) (fun ps k => by unfold E62_6; split <;> rfl) (fun m ps k r h => ?_) m
  have h0 := h
  unfold E62_6 at h
  split at h
  · exact ⟨S62_6 _ _ _ _ _ _ _ _, by kernel_rfl, (ev62_6 m k _ _ _ _ _ _ _ _).trans h0⟩
  · cases h
noncomputable def H62_11 : LoopH := ⟨⟨((.one (.unk)) :: (.one (.ptr 0 0)) :: (hu 2 (hh :: (hu 152 [])))), [(97, [.hole, .sl 0, .hole, .hole, .sl 1, .sl 2, .sl 3])], [(145, (.int .u64), .ro), (173, (.pair (.sl 260 (.pair (.int .i64) (.int .i64))) (.pair (.sl 260 (.pair (.int .i64) (.int .i64))) (.pair (.pair (.int .i64) (.pair (.int .i64) (.int .i64))) (.pair (.int .i64) (.int .i64))))), .ro), (175, (.pair (.int .i64) (.pair (.int .i64) (.int .i64))), .ro), (178, (.pair (.int .i64) (.pair (.int .i64) (.pair (.int .i64) (.pair (.int .i64) (.int .i64))))), .ro)]⟩, [0, 2, 3, 5, 6, 7, 8, 9, 10, 11, 12, 13, 14, 15, 16, 17, 18, 19, 20, 21, 22, 23, 24, 25, 26, 27, 28, 29, 30, 31, 32, 33, 34, 35, 36, 37, 38, 39, 40, 41, 42, 43, 44, 45, 46, 47, 48, 49, 50, 51, 52, 53, 54, 55, 56, 57, 58, 59, 60, 61, 62, 63, 64, 65, 66, 67, 68, 69, 70, 71, 72, 73, 74, 75, 76, 77, 78, 79, 80, 81, 82, 83, 84, 85, 86, 87, 88, 89, 90, 91, 92, 93, 94, 95, 96, 97, 98, 99, 100, 101, 102, 103, 104, 105, 106, 107, 108, 109, 110, 111, 112, 113, 114, 115, 116, 117, 118, 119, 120, 121, 122, 123, 124, 125, 126, 127, 128, 129, 130, 131, 132, 133, 134, 135, 136, 137, 138, 139, 140, 141, 142, 143, 144, 145, 146, 147, 148, 149, 150, 151, 152, 153, 154, 155, 156], [], [0, 3, 4, 5, 6, 7, 8, 9, 10, 11, 12, 13, 14, 15, 16, 17, 18, 19, 20, 21, 22, 23, 24, 25, 26, 27, 28, 29, 30, 31, 32, 33, 34, 35, 36, 37, 38, 39, 40, 41, 42, 43, 44, 45, 46, 47, 48, 49, 50, 51, 52, 53, 54, 55, 56, 57, 58, 59, 60, 61, 62, 63, 64, 65, 66, 67, 68, 69, 70, 71, 72, 73, 74, 75, 76, 77, 78, 79, 80, 81, 82, 83, 84, 85, 86, 87, 88, 89, 90, 91, 92, 93, 94, 95, 96, 97, 98, 99, 100, 101, 102, 103, 104, 105, 106, 107, 108, 109, 110, 111, 112, 113, 114, 115, 116, 117, 118, 119, 120, 121, 122, 123, 124, 125, 126, 127, 128, 129, 130, 131, 132, 133, 134, 135, 136, 137, 138, 139, 140, 141, 142, 143, 144, 145, 146, 147, 148, 149, 150, 151, 152, 153, 154, 155, 156]⟩
noncomputable def E62_11 (m : Nat) (ps : List Prm) (k : Kont Bool) : Option Bool :=
  match ps with
  | [.v (.int .i64 a50), .v (.int .i64 a51), .v (.int .i64 a52), .v (.int .i64 a53), .row (.int .u64) a54, .row (.pair (.sl 260 (.pair (.int .i64) (.int .i64))) (.pair (.sl 260 (.pair (.int .i64) (.int .i64))) (.pair (.pair (.int .i64) (.pair (.int .i64) (.int .i64))) (.pair (.int .i64) (.int .i64))))) a55, .row (.pair (.int .i64) (.pair (.int .i64) (.int .i64))) a56, .row (.pair (.int .i64) (.pair (.int .i64) (.pair (.int .i64) (.pair (.int .i64) (.int .i64))))) a57] => S.ConfOk_l1 m (fun z144 z145 z146 z147 z148 z149 z150 z151 => k .ret (⟨((.s1 (.one (.unk))) :: (vp 0 0) :: (vb z144) :: (vu 154 [])), [(97, [ai z145, .sl 0, ai z146, ai z147, .sl 1, .sl 2, .sl 3])], [⟨145, (.int .u64), z148, .ro⟩, ⟨173, (.pair (.sl 260 (.pair (.int .i64) (.int .i64))) (.pair (.sl 260 (.pair (.int .i64) (.int .i64))) (.pair (.pair (.int .i64) (.pair (.int .i64) (.int .i64))) (.pair (.int .i64) (.int .i64))))), z149, .ro⟩, ⟨175, (.pair (.int .i64) (.pair (.int .i64) (.int .i64))), z150, .ro⟩, ⟨178, (.pair (.int .i64) (.pair (.int .i64) (.pair (.int .i64) (.pair (.int .i64) (.int .i64))))), z151, .ro⟩]⟩ : St)) (fun z152 z153 z154 z155 z156 z157 z158 => k (.exit 2) (⟨((.s1 (.one (.unk))) :: (vp 0 0) :: (vu 155 [])), [(97, [ai z152, .sl 0, ai z153, ai z154, .sl 1, .sl 2, .sl 3])], [⟨145, (.int .u64), z155, .ro⟩, ⟨173, (.pair (.sl 260 (.pair (.int .i64) (.int .i64))) (.pair (.sl 260 (.pair (.int .i64) (.int .i64))) (.pair (.pair (.int .i64) (.pair (.int .i64) (.int .i64))) (.pair (.int .i64) (.int .i64))))), z156, .ro⟩, ⟨175, (.pair (.int .i64) (.pair (.int .i64) (.int .i64))), z157, .ro⟩, ⟨178, (.pair (.int .i64) (.pair (.int .i64) (.pair (.int .i64) (.pair (.int .i64) (.int .i64))))), z158, .ro⟩]⟩ : St)) a50 a51 a52 a53 a54 a55 a56 a57
  | _ => none
noncomputable def S62_11 (a50 a51 a52 a53 : Int) (a54 : List Int) (a55 : List (List (Int × Int) × List (Int × Int) × (Int × Int × Int) × Int × Int)) (a56 : List (Int × Int × Int)) (a57 : List (Int × Int × Int × Int × Int)) : St := (⟨((.s1 (.one (.unk))) :: (vp 0 0) :: (vu 2 ((vi a50) :: (vu 152 [])))), [(97, [ai a51, .sl 0, ai a52, ai a53, .sl 1, .sl 2, .sl 3])], [⟨145, (.int .u64), a54, .ro⟩, ⟨173, (.pair (.sl 260 (.pair (.int .i64) (.int .i64))) (.pair (.sl 260 (.pair (.int .i64) (.int .i64))) (.pair (.pair (.int .i64) (.pair (.int .i64) (.int .i64))) (.pair (.int .i64) (.int .i64))))), a55, .ro⟩, ⟨175, (.pair (.int .i64) (.pair (.int .i64) (.int .i64))), a56, .ro⟩, ⟨178, (.pair (.int .i64) (.pair (.int .i64) (.pair (.int .i64) (.pair (.int .i64) (.int .i64))))), a57, .ro⟩]⟩ : St)
theorem ev62_11 (m : Nat) (k : Kont Bool) (a50 a51 a52 a53 : Int) (a54 : List Int) (a55 : List (List (Int × Int) × List (Int × Int) × (Int × Int × Int) × Int × Int)) (a56 : List (Int × Int × Int)) (a57 : List (Int × Int × Int × Int × Int)) : evC Try.prog G62 loopNil c62_11 (S62_11 a50 a51 a52 a53 a54 a55 a56 a57) (turn Try.prog (0, 0) H62_11 (E62_11 m) k) = E62_11 (m + 1) [.v (.int .i64 a50), .v (.int .i64 a51), .v (.int .i64 a52), .v (.int .i64 a53), .row (.int .u64) a54, .row (.pair (.sl 260 (.pair (.int .i64) (.int .i64))) (.pair (.sl 260 (.pair (.int .i64) (.int .i64))) (.pair (.pair (.int .i64) (.pair (.int .i64) (.int .i64))) (.pair (.int .i64) (.int .i64))))) a55, .row (.pair (.int .i64) (.pair (.int .i64) (.int .i64))) a56, .row (.pair (.int .i64) (.pair (.int .i64) (.pair (.int .i64) (.pair (.int .i64) (.int .i64))))) a57] k := by kernel_rfl
theorem ok62_11 (m : Nat) : LoopOk Try.prog (0, 0) c62_11 (enter Try.prog (0, 0) H62_11 (E62_11 m)) := by
  refine loop_ok (G := G62) (L := loopNil) (envCons_good good93 (envCons_good good126 (envCons_good good127 (envCons_good good128 (envCons_good good129 envNil_good))))) (by intro x hx; simp [show loopsOf c62_11 = [] from by kernel_rfl] at hx) (fun ps k => by unfold E62_11; split <;> rfl) (fun m ps k r h => ?_) m
  have h0 := h
  unfold E62_11 at h
  split at h
  · exact ⟨S62_11 _ _ _ _ _ _ _ _, by kernel_rfl, (ev62_11 m k _ _ _ _ _ _ _ _).trans h0⟩
  · cases h
noncomputable def H62_17 : LoopH := ⟨⟨((.one (.unk)) :: (.one (.ptr 0 0)) :: (hu 4 (hh :: (hu 150 [])))), [(97, [.hole, .sl 0, .hole, .hole, .sl 1, .sl 2, .sl 3])], [(145, (.int .u64), .ro), (173, (.pair (.sl 260 (.pair (.int .i64) (.int .i64))) (.pair (.sl 260 (.pair (.int .i64) (.int .i64))) (.pair (.pair (.int .i64) (.pair (.int .i64) (.int .i64))) (.pair (.int .i64) (.int .i64))))), .ro), (175, (.pair (.int .i64) (.pair (.int .i64) (.int .i64))), .ro), (178, (.pair (.int .i64) (.pair (.int .i64) (.pair (.int .i64) (.pair (.int .i64) (.int .i64))))), .ro)]⟩, [0, 2, 3, 4, 5, 7, 8, 9, 10, 11, 12, 13, 14, 15, 16, 17, 18, 19, 20, 21, 22, 23, 24, 25, 26, 27, 28, 29, 30, 31, 32, 33, 34, 35, 36, 37, 38, 39, 40, 41, 42, 43, 44, 45, 46, 47, 48, 49, 50, 51, 52, 53, 54, 55, 56, 57, 58, 59, 60, 61, 62, 63, 64, 65, 66, 67, 68, 69, 70, 71, 72, 73, 74, 75, 76, 77, 78, 79, 80, 81, 82, 83, 84, 85, 86, 87, 88, 89, 90, 91, 92, 93, 94, 95, 96, 97, 98, 99, 100, 101, 102, 103, 104, 105, 106, 107, 108, 109, 110, 111, 112, 113, 114, 115, 116, 117, 118, 119, 120, 121, 122, 123, 124, 125, 126, 127, 128, 129, 130, 131, 132, 133, 134, 135, 136, 137, 138, 139, 140, 141, 142, 143, 144, 145, 146, 147, 148, 149, 150, 151, 152, 153, 154, 155, 156], [], [0, 1, 3, 4, 5, 6, 7, 8, 9, 10, 11, 12, 13, 14, 15, 16, 17, 18, 19, 20, 21, 22, 23, 24, 25, 26, 27, 28, 29, 30, 31, 32, 33, 34, 35, 36, 37, 38, 39, 40, 41, 42, 43, 44, 45, 46, 47, 48, 49, 50, 51, 52, 53, 54, 55, 56, 57, 58, 59, 60, 61, 62, 63, 64, 65, 66, 67, 68, 69, 70, 71, 72, 73, 74, 75, 76, 77, 78, 79, 80, 81, 82, 83, 84, 85, 86, 87, 88, 89, 90, 91, 92, 93, 94, 95, 96, 97, 98, 99, 100, 101, 102, 103, 104, 105, 106, 107, 108, 109, 110, 111, 112, 113, 114, 115, 116, 117, 118, 119, 120, 121, 122, 123, 124, 125, 126, 127, 128, 129, 130, 131, 132, 133, 134, 135, 136, 137, 138, 139, 140, 141, 142, 143, 144, 145, 146, 147, 148, 149, 150, 151, 152, 153, 154, 155, 156]⟩
noncomputable def E62_17 (m : Nat) (ps : List Prm) (k : Kont Bool) : Option Bool :=
  match ps with
  | [.v (.int .i64 a79), .v (.int .i64 a80), .v (.int .i64 a81), .v (.int .i64 a82), .row (.int .u64) a83, .row (.pair (.sl 260 (.pair (.int .i64) (.int .i64))) (.pair (.sl 260 (.pair (.int .i64) (.int .i64))) (.pair (.pair (.int .i64) (.pair (.int .i64) (.int .i64))) (.pair (.int .i64) (.int .i64))))) a84, .row (.pair (.int .i64) (.pair (.int .i64) (.int .i64))) a85, .row (.pair (.int .i64) (.pair (.int .i64) (.pair (.int .i64) (.pair (.int .i64) (.int .i64))))) a86] => S.ConfOk_l2 m (fun z159 => k .ret (⟨(vu 2 ((vb z159) :: (vu 154 []))), [], []⟩ : St)) (k (.exit 4) (⟨(vu 157 []), [], []⟩ : St)) a79 a80 a81 a82 a83 a84 a85 a86
  | _ => none
noncomputable def S62_17 (a79 a80 a81 a82 : Int) (a83 : List Int) (a84 : List (List (Int × Int) × List (Int × Int) × (Int × Int × Int) × Int × Int)) (a85 : List (Int × Int × Int)) (a86 : List (Int × Int × Int × Int × Int)) : St := (⟨((.s1 (.one (.unk))) :: (vp 0 0) :: (vu 4 ((vi a79) :: (vu 150 [])))), [(97, [ai a80, .sl 0, ai a81, ai a82, .sl 1, .sl 2, .sl 3])], [⟨145, (.int .u64), a83, .ro⟩, ⟨173, (.pair (.sl 260 (.pair (.int .i64) (.int .i64))) (.pair (.sl 260 (.pair (.int .i64) (.int .i64))) (.pair (.pair (.int .i64) (.pair (.int .i64) (.int .i64))) (.pair (.int .i64) (.int .i64))))), a84, .ro⟩, ⟨175, (.pair (.int .i64) (.pair (.int .i64) (.int .i64))), a85, .ro⟩, ⟨178, (.pair (.int .i64) (.pair (.int .i64) (.pair (.int .i64) (.pair (.int .i64) (.int .i64))))), a86, .ro⟩]⟩ : St)
theorem ev62_17 (m : Nat) (k : Kont Bool) (a79 a80 a81 a82 : Int) (a83 : List Int) (a84 : List (List (Int × Int) × List (Int × Int) × (Int × Int × Int) × Int × Int)) (a85 : List (Int × Int × Int)) (a86 : List (Int × Int × Int × Int × Int)) : evC Try.prog G62 loopNil c62_17 (S62_17 a79 a80 a81 a82 a83 a84 a85 a86) (turn Try.prog (0, 0) H62_17 (E62_17 m) k) = E62_17 (m + 1) [.v (.int .i64 a79), .v (.int .i64 a80), .v (.int .i64 a81), .v (.int .i64 a82), .row (.int .u64) a83, .row (.pair (.sl 260 (.pair (.int .i64) (.int .i64))) (.pair (.sl 260 (.pair (.int .i64) (.int .i64))) (.pair (.pair (.int .i64) (.pair (.int .i64) (.int .i64))) (.pair (.int .i64) (.int .i64))))) a84, .row (.pair (.int .i64) (.pair (.int .i64) (.int .i64))) a85, .row (.pair (.int .i64) (.pair (.int .i64) (.pair (.int .i64) (.pair (.int .i64) (.int .i64))))) a86] k := by kernel_rfl
theorem ok62_17 (m : Nat) : LoopOk Try.prog (0, 0) c62_17 (enter Try.prog (0, 0) H62_17 (E62_17 m)) := by
  refine loop_ok (G := G62) (L := loopNil) (envCons_good good93 (envCons_good good126 (envCons_good good127 (envCons_good good128 (envCons_good good129 envNil_good))))) (by intro x hx; simp [show loopsOf c62_17 = [] from by kernel_rfl] at hx) (fun ps k => by unfold E62_17; split <;> rfl) (fun m ps k r h => ?_) m
  have h0 := h
  unfold E62_17 at h
  split at h
  · exact ⟨S62_17 _ _ _ _ _ _ _ _, by kernel_rfl, (ev62_17 m k _ _ _ _ _ _ _ _).trans h0⟩
  · cases h
noncomputable def L62 : LEnv Bool := (loopCons 6 (enter Try.prog (0, 0) H62_6 (E62_6 fu)) (loopCons 11 (enter Try.prog (0, 0) H62_11 (E62_11 fu)) (loopCons 17 (enter Try.prog (0, 0) H62_17 (E62_17 fu)) loopNil)))
theorem lq62 : loopsOf c62 = [c62_6, c62_11, c62_17] := by kernel_rfl
theorem fr62_6 : firstReg c62_6 = some 6 := by kernel_rfl
theorem le62_6 : L62 6 = enter Try.prog (0, 0) H62_6 (E62_6 fu) := by kernel_rfl
theorem fr62_11 : firstReg c62_11 = some 11 := by kernel_rfl
theorem le62_11 : L62 11 = enter Try.prog (0, 0) H62_11 (E62_11 fu) := by kernel_rfl
theorem fr62_17 : firstReg c62_17 = some 17 := by kernel_rfl
theorem le62_17 : L62 17 = enter Try.prog (0, 0) H62_17 (E62_17 fu) := by kernel_rfl
theorem lm62 : ∀ x ∈ [c62_6, c62_11, c62_17], ∀ id, firstReg x = some id → LoopOk Try.prog (0, 0) x (L62 id) := (loops_cons fr62_6 le62_6 (ok62_6 fu) (loops_cons fr62_11 le62_11 (ok62_11 fu) (loops_cons fr62_17 le62_17 (ok62_17 fu) loops_nil)))
theorem lp62 : ∀ x ∈ loopsOf c62, ∀ id, firstReg x = some id → LoopOk Try.prog (0, 0) x (L62 id) := loops_eq lq62 lm62
noncomputable def R62 (x : Bool) : Res := ⟨[.one (ab x)], [], []⟩
noncomputable def K62 (r : Res) : Option Bool :=
  match r with
  | ⟨[.one (.val (.bool v1))], [], []⟩ => some (v1)
  | _ => none
noncomputable def E62 : Fun2 := fun args bs rs =>
  match args, bs, rs with
  | [.s1 (.agg [.val (.int .i64 a1), .sl 0, .val (.int .i64 a2), .val (.int .i64 a3), .sl 1, .sl 2, .sl 3])], [], [⟨145, (.int .u64), a4, .ro⟩, ⟨173, (.pair (.sl 260 (.pair (.int .i64) (.int .i64))) (.pair (.sl 260 (.pair (.int .i64) (.int .i64))) (.pair (.pair (.int .i64) (.pair (.int .i64) (.int .i64))) (.pair (.int .i64) (.int .i64))))), a5, .ro⟩, ⟨175, (.pair (.int .i64) (.pair (.int .i64) (.int .i64))), a6, .ro⟩, ⟨178, (.pair (.int .i64) (.pair (.int .i64) (.pair (.int .i64) (.pair (.int .i64) (.int .i64))))), a7, .ro⟩] => some ⟨Bool, S.ConfOk a1 a2 a3 a4 a5 a6 a7, R62⟩
  | _, _, _ => none
theorem ev62 (a1 a2 a3 : Int) (a4 : List Int) (a5 : List (List (Int × Int) × List (Int × Int) × (Int × Int × Int) × Int × Int)) (a6 : List (Int × Int × Int)) (a7 : List (Int × Int × Int × Int × Int)) : evF Try.prog G62 L62 (0, 0) Try.f62 c62 [.s1 (.agg [ai a1, .sl 0, ai a2, ai a3, .sl 1, .sl 2, .sl 3])] [] [⟨145, (.int .u64), a4, .ro⟩, ⟨173, (.pair (.sl 260 (.pair (.int .i64) (.int .i64))) (.pair (.sl 260 (.pair (.int .i64) (.int .i64))) (.pair (.pair (.int .i64) (.pair (.int .i64) (.int .i64))) (.pair (.int .i64) (.int .i64))))), a5, .ro⟩, ⟨175, (.pair (.int .i64) (.pair (.int .i64) (.int .i64))), a6, .ro⟩, ⟨178, (.pair (.int .i64) (.pair (.int .i64) (.pair (.int .i64) (.pair (.int .i64) (.int .i64))))), a7, .ro⟩] K62 = S.ConfOk a1 a2 a3 a4 a5 a6 a7 := by kernel_rfl
theorem good62 : Vm.Good Try.prog 62 E62 := by
  refine evF_good (G := G62) (c := c62) (envCons_good good93 (envCons_good good126 (envCons_good good127 (envCons_good good128 (envCons_good good129 envNil_good))))) Try.func62 (by kernel_rfl) (by kernel_rfl) (0, 0) (fun args bs rs out t h h2 => ?_)
  unfold E62 at h
  split at h
  · injection h with h
    subst h
    exact ⟨rfl, L62, K62, lp62, (fun r t h => by unfold K62 at h; split at h; (injection h with h; subst h; rfl); cases h), (ev62 _ _ _ _ _ _ _).trans h2⟩
  · cases h
/-! ### S.ConfSessions -/
noncomputable def G66 : Env := (envCons 62 [] E62 envNil)
noncomputable def c66 : Code := bodyOf Try.f66
noncomputable def c66_3 : Code := (loopsOf c66).getD 0 .skip
noncomputable def S.ConfSessions_l0 : Nat → (List Int → Option (List Int)) → Int → Int → Int → Int → List Int → List Int → (List (List (Int × Int) × List (Int × Int) × (Int × Int × Int) × Int × Int)) → (List (Int × Int × Int)) → (List (Int × Int × Int × Int × Int)) → Option (List Int)
  | 0, _, _, _, _, _, _, _, _, _, _ => none
  | m + 1, e3_0, a8, a9, a10, a11, a12, a13, a14, a15, a16 =>
    (Option.bind (S.ConfOk a9 a10 a11 a13 a14 a15 a16) fun r17 =>
    (bif r17 then
    (bif (decide (a8 < (a14.length : Int))) then
    (bif decide ((0 : Int) ≤ a8 ∧ a8 < (a14.length : Int)) then
    (let v20 : Bool := ((nthI a14 a8 ([], ([], (((0 : Int), ((0 : Int), (0 : Int))), ((0 : Int), (0 : Int)))))).2.2.1.1 == 3)
    (bif v20 then
    (bif decide ((a12.length + [a8].length) * 8 ≤ 140737488355328) then
    (S.ConfSessions_l0 m e3_0 (IntKind.wrap .i64 (a8 + 1)) a9 a10 a11 (a12 ++ [a8]) a13 a14 a15 a16)
    else
    none)
    else
    (S.ConfSessions_l0 m e3_0 (IntKind.wrap .i64 (a8 + 1)) a9 a10 a11 a12 a13 a14 a15 a16)))
    else
    none)
    else
    (e3_0 a12))
    else
    (e3_0 a12)))
noncomputable def S.ConfSessions (a1 a2 a3 : Int) (a4 : List Int) (a5 : List (List (Int × Int) × List (Int × Int) × (Int × Int × Int) × Int × Int)) (a6 : List (Int × Int × Int)) (a7 : List (Int × Int × Int × Int × Int)) : Option (List Int) :=
(S.ConfSessions_l0 fu (fun y23 =>
(some y23)) 0 a1 a2 a3 [] a4 a5 a6 a7)
noncomputable def H66_3 : LoopH := ⟨⟨((.one (.unk)) :: (.one (.ptr 0 0)) :: (.one (.unk)) :: (.one (.sl 0)) :: hh :: (hu 25 [])), [(97, [.hole, .sl 1, .hole, .hole, .sl 2, .sl 3, .sl 4])], [(3, (.int .i64), .own), (145, (.int .u64), .ro), (173, (.pair (.sl 260 (.pair (.int .i64) (.int .i64))) (.pair (.sl 260 (.pair (.int .i64) (.int .i64))) (.pair (.pair (.int .i64) (.pair (.int .i64) (.int .i64))) (.pair (.int .i64) (.int .i64))))), .ro), (175, (.pair (.int .i64) (.pair (.int .i64) (.int .i64))), .ro), (178, (.pair (.int .i64) (.pair (.int .i64) (.pair (.int .i64) (.pair (.int .i64) (.int .i64))))), .ro)]⟩, [0, 2, 5, 6, 7, 8, 9, 10, 11, 12, 13, 14, 15, 16, 17, 18, 19, 20, 21, 22, 23, 24, 25, 26, 27, 28, 29], [], [0, 1, 4, 5, 6, 7, 8, 9, 10, 11, 12, 13, 14, 15, 16, 17, 18, 19, 20, 21, 22, 23, 24, 25, 26, 27, 28, 29]⟩
noncomputable def E66_3 (m : Nat) (ps : List Prm) (k : Kont (List Int)) : Option (List Int) :=
  match ps with
  | [.v (.int .i64 a8), .v (.int .i64 a9), .v (.int .i64 a10), .v (.int .i64 a11), .row (.int .i64) a12, .row (.int .u64) a13, .row (.pair (.sl 260 (.pair (.int .i64) (.int .i64))) (.pair (.sl 260 (.pair (.int .i64) (.int .i64))) (.pair (.pair (.int .i64) (.pair (.int .i64) (.int .i64))) (.pair (.int .i64) (.int .i64))))) a14, .row (.pair (.int .i64) (.pair (.int .i64) (.int .i64))) a15, .row (.pair (.int .i64) (.pair (.int .i64) (.pair (.int .i64) (.pair (.int .i64) (.int .i64))))) a16] => S.ConfSessions_l0 m (fun z25 => k (.exit 0) (⟨(vu 3 ((vl 0) :: (vu 26 []))), [], [⟨3, (.int .i64), z25, .own⟩]⟩ : St)) a8 a9 a10 a11 a12 a13 a14 a15 a16
  | _ => none
noncomputable def S66_3 (a8 a9 a10 a11 : Int) (a12 a13 : List Int) (a14 : List (List (Int × Int) × List (Int × Int) × (Int × Int × Int) × Int × Int)) (a15 : List (Int × Int × Int)) (a16 : List (Int × Int × Int × Int × Int)) : St := (⟨((.s1 (.one (.unk))) :: (vp 0 0) :: (.s1 (.one (.unk))) :: (vl 0) :: (vi a8) :: (vu 25 [])), [(97, [ai a9, .sl 1, ai a10, ai a11, .sl 2, .sl 3, .sl 4])], [⟨3, (.int .i64), a12, .own⟩, ⟨145, (.int .u64), a13, .ro⟩, ⟨173, (.pair (.sl 260 (.pair (.int .i64) (.int .i64))) (.pair (.sl 260 (.pair (.int .i64) (.int .i64))) (.pair (.pair (.int .i64) (.pair (.int .i64) (.int .i64))) (.pair (.int .i64) (.int .i64))))), a14, .ro⟩, ⟨175, (.pair (.int .i64) (.pair (.int .i64) (.int .i64))), a15, .ro⟩, ⟨178, (.pair (.int .i64) (.pair (.int .i64) (.pair (.int .i64) (.pair (.int .i64) (.int .i64))))), a16, .ro⟩]⟩ : St)
theorem ev66_3 (m : Nat) (k : Kont (List Int)) (a8 a9 a10 a11 : Int) (a12 a13 : List Int) (a14 : List (List (Int × Int) × List (Int × Int) × (Int × Int × Int) × Int × Int)) (a15 : List (Int × Int × Int)) (a16 : List (Int × Int × Int × Int × Int)) : evC Try.prog G66 loopNil c66_3 (S66_3 a8 a9 a10 a11 a12 a13 a14 a15 a16) (turn Try.prog (0, 0) H66_3 (E66_3 m) k) = E66_3 (m + 1) [.v (.int .i64 a8), .v (.int .i64 a9), .v (.int .i64 a10), .v (.int .i64 a11), .row (.int .i64) a12, .row (.int .u64) a13, .row (.pair (.sl 260 (.pair (.int .i64) (.int .i64))) (.pair (.sl 260 (.pair (.int .i64) (.int .i64))) (.pair (.pair (.int .i64) (.pair (.int .i64) (.int .i64))) (.pair (.int .i64) (.int .i64))))) a14, .row (.pair (.int .i64) (.pair (.int .i64) (.int .i64))) a15, .row (.pair (.int .i64) (.pair (.int .i64) (.pair (.int .i64) (.pair (.int .i64) (.int .i64))))) a16] k := by kernel_rfl
theorem ok66_3 (m : Nat) : LoopOk Try.prog (0, 0) c66_3 (enter Try.prog (0, 0) H66_3 (E66_3 m)) := by
  refine loop_ok (G := G66) (L := loopNil) (envCons_good good62 envNil_good) (by intro x hx; simp [show loopsOf c66_3 = [] from by kernel_rfl] at hx) (fun ps k => by unfold E66_3; split <;> rfl) (fun m ps k r h => ?_) m
  have h0 := h
  unfold E66_3 at h
  split at h
  · exact ⟨S66_3 _ _ _ _ _ _ _ _ _, by kernel_rfl, (ev66_3 m k _ _ _ _ _ _ _ _ _).trans h0⟩
  · cases h
noncomputable def L66 : LEnv (List Int) := (loopCons 3 (enter Try.prog (0, 0) H66_3 (E66_3 fu)) loopNil)
theorem lq66 : loopsOf c66 = [c66_3] := by kernel_rfl
theorem fr66_3 : firstReg c66_3 = some 3 := by kernel_rfl
theorem le66_3 : L66 3 = enter Try.prog (0, 0) H66_3 (E66_3 fu) := by kernel_rfl
theorem lm66 : ∀ x ∈ [c66_3], ∀ id, firstReg x = some id → LoopOk Try.prog (0, 0) x (L66 id) := (loops_cons fr66_3 le66_3 (ok66_3 fu) loops_nil)
theorem lp66 : ∀ x ∈ loopsOf c66, ∀ id, firstReg x = some id → LoopOk Try.prog (0, 0) x (L66 id) := loops_eq lq66 lm66
noncomputable def R66 (x : List Int) : Res := ⟨[.one (.sl 0)], [], [⟨3, (.int .i64), x, .own⟩]⟩
noncomputable def K66 (r : Res) : Option (List Int) :=
  match r with
  | ⟨[.one (.sl 0)], [], [⟨3, (.int .i64), v1, .own⟩]⟩ => some (v1)
  | _ => none
noncomputable def E66 : Fun2 := fun args bs rs =>
  match args, bs, rs with
  | [.s1 (.agg [.val (.int .i64 a1), .sl 0, .val (.int .i64 a2), .val (.int .i64 a3), .sl 1, .sl 2, .sl 3])], [], [⟨145, (.int .u64), a4, .ro⟩, ⟨173, (.pair (.sl 260 (.pair (.int .i64) (.int .i64))) (.pair (.sl 260 (.pair (.int .i64) (.int .i64))) (.pair (.pair (.int .i64) (.pair (.int .i64) (.int .i64))) (.pair (.int .i64) (.int .i64))))), a5, .ro⟩, ⟨175, (.pair (.int .i64) (.pair (.int .i64) (.int .i64))), a6, .ro⟩, ⟨178, (.pair (.int .i64) (.pair (.int .i64) (.pair (.int .i64) (.pair (.int .i64) (.int .i64))))), a7, .ro⟩] => some ⟨List Int, S.ConfSessions a1 a2 a3 a4 a5 a6 a7, R66⟩
  | _, _, _ => none
theorem ev66 (a1 a2 a3 : Int) (a4 : List Int) (a5 : List (List (Int × Int) × List (Int × Int) × (Int × Int × Int) × Int × Int)) (a6 : List (Int × Int × Int)) (a7 : List (Int × Int × Int × Int × Int)) : evF Try.prog G66 L66 (0, 0) Try.f66 c66 [.s1 (.agg [ai a1, .sl 0, ai a2, ai a3, .sl 1, .sl 2, .sl 3])] [] [⟨145, (.int .u64), a4, .ro⟩, ⟨173, (.pair (.sl 260 (.pair (.int .i64) (.int .i64))) (.pair (.sl 260 (.pair (.int .i64) (.int .i64))) (.pair (.pair (.int .i64) (.pair (.int .i64) (.int .i64))) (.pair (.int .i64) (.int .i64))))), a5, .ro⟩, ⟨175, (.pair (.int .i64) (.pair (.int .i64) (.int .i64))), a6, .ro⟩, ⟨178, (.pair (.int .i64) (.pair (.int .i64) (.pair (.int .i64) (.pair (.int .i64) (.int .i64))))), a7, .ro⟩] K66 = S.ConfSessions a1 a2 a3 a4 a5 a6 a7 := by kernel_rfl
theorem good66 : Vm.Good Try.prog 66 E66 := by
  refine evF_good (G := G66) (c := c66) (envCons_good good62 envNil_good) Try.func66 (by kernel_rfl) (by kernel_rfl) (0, 0) (fun args bs rs out t h h2 => ?_)
  unfold E66 at h
  split at h
  · injection h with h
    subst h
    exact ⟨rfl, L66, K66, lp66, (fun r t h => by unfold K66 at h; split at h; (injection h with h; subst h; rfl); cases h), (ev66 _ _ _ _ _ _ _).trans h2⟩
  · cases h
/-! ### I.in -/
noncomputable def G151 : Env := envNil
noncomputable def c151 : Code := bodyOf Try.f151
noncomputable def I.in (a1 a2 a3 : Int) : Option Bool :=
(bif (decide (a2 ≤ a1)) then
(some (decide (a1 ≤ a3)))
else
(some false))
noncomputable def R151 (x : Bool) : Res := ⟨[.one (ab x)], [], []⟩
noncomputable def K151 (r : Res) : Option Bool :=
  match r with
  | ⟨[.one (.val (.bool v1))], [], []⟩ => some (v1)
  | _ => none
noncomputable def E151 : Fun2 := fun args bs rs =>
  match args, bs, rs with
  | [.s1 (.one (.val (.int .i64 a1))), .s1 (.one (.val (.int .i64 a2))), .s1 (.one (.val (.int .i64 a3)))], [], [] => some ⟨Bool, I.in a1 a2 a3, R151⟩
  | _, _, _ => none
theorem ev151 (a1 a2 a3 : Int) : evF Try.prog G151 loopNil (0, 0) Try.f151 c151 [vi a1, vi a2, vi a3] [] [] K151 = I.in a1 a2 a3 := by kernel_rfl
theorem good151 : Vm.Good Try.prog 151 E151 := by
  refine evF_good (G := G151) (c := c151) envNil_good Try.func151 (by kernel_rfl) (by kernel_rfl) (0, 0) (fun args bs rs out t h h2 => ?_)
  unfold E151 at h
  split at h
  · injection h with h
    subst h
    exact ⟨rfl, loopNil, K151, (by intro x hx; simp [show loopsOf c151 = [] from by kernel_rfl] at hx), (fun r t h => by unfold K151 at h; split at h; (injection h with h; subst h; rfl); cases h), (ev151 _ _ _).trans h2⟩
  · cases h
/-! ### I.Lat_le -/
noncomputable def G144 : Env := envNil
noncomputable def c144 : Code := bodyOf Try.f144
noncomputable def I.Lat_le (a1 a2 a3 : Int) (a4 : List Int) : Option Bool :=
(bif decide ((0 : Int) ≤ a2 ∧ a2 < (a4.length : Int)) then
(bif decide ((0 : Int) ≤ a3) then
(let v5 : Int := (Int.fdiv (nthI a4 a2 (0 : Int)) (2 ^ min (Int.toNat a3) (IntKind.bits .u64)))
(some ((Go.bits .and .u64 v5 1) == 1)))
else
none)
else
none)
noncomputable def R144 (x : Bool) : Res := ⟨[.one (ab x)], [], []⟩
noncomputable def K144 (r : Res) : Option Bool :=
  match r with
  | ⟨[.one (.val (.bool v1))], [], []⟩ => some (v1)
  | _ => none
noncomputable def E144 : Fun2 := fun args bs rs =>
  match args, bs, rs with
  | [.s1 (.agg [.val (.int .i64 a1), .sl 0]), .s1 (.one (.val (.int .i64 a2))), .s1 (.one (.val (.int .i64 a3)))], [], [⟨145, (.int .u64), a4, .ro⟩] => some ⟨Bool, I.Lat_le a1 a2 a3 a4, R144⟩
  | _, _, _ => none
theorem ev144 (a1 a2 a3 : Int) (a4 : List Int) : evF Try.prog G144 loopNil (0, 0) Try.f144 c144 [.s1 (.agg [ai a1, .sl 0]), vi a2, vi a3] [] [⟨145, (.int .u64), a4, .ro⟩] K144 = I.Lat_le a1 a2 a3 a4 := by kernel_rfl
theorem good144 : Vm.Good Try.prog 144 E144 := by
  refine evF_good (G := G144) (c := c144) envNil_good Try.func144 (by kernel_rfl) (by kernel_rfl) (0, 0) (fun args bs rs out t h h2 => ?_)
  unfold E144 at h
  split at h
  · injection h with h
    subst h
    exact ⟨rfl, loopNil, K144, (by intro x hx; simp [show loopsOf c144 = [] from by kernel_rfl] at hx), (fun r t h => by unfold K144 at h; split at h; (injection h with h; subst h; rfl); cases h), (ev144 _ _ _ _).trans h2⟩
  · cases h
/-! ### I.Lat_isOrder -/
noncomputable def G157 : Env := (envCons 144 [] E144 envNil)
noncomputable def c157 : Code := bodyOf Try.f157
noncomputable def c157_2 : Code := (loopsOf c157).getD 0 .skip
noncomputable def c157_7 : Code := (loopsOf c157_2).getD 0 .skip
noncomputable def c157_12 : Code := (loopsOf c157_7).getD 0 .skip
noncomputable def I.Lat_isOrder_l2 : Nat → (Bool → Int → Int → Int → Int → Int → Int → List Int → Option Bool) → (Int → Int → Int → Int → Int → Int → List Int → Option Bool) → Int → Int → Int → Int → Int → Int → Int → Int → Int → List Int → Option Bool
  | 0, _, _, _, _, _, _, _, _, _, _, _, _ => none
  | m + 1, e12_0, e12_1, a19, a20, a21, a22, a23, a24, a25, a26, a27, a28 =>
    (bif (decide (a26 < a25)) then
    (Option.bind (I.Lat_le a27 a19 a20 a28) fun r30 =>
    (bif r30 then
    (Option.bind (I.Lat_le a27 a20 a26 a28) fun r31 =>
    (bif r31 then
    (Option.bind (I.Lat_le a27 a19 a26 a28) fun r32 =>
    (bif (!r32) then
    (e12_0 false a19 a21 a22 a23 a24 a27 a28)
    else
    (I.Lat_isOrder_l2 m e12_0 e12_1 a19 a20 a21 a22 a23 a24 a25 (IntKind.wrap .i64 (a26 + 1)) a27 a28)))
    else
    (I.Lat_isOrder_l2 m e12_0 e12_1 a19 a20 a21 a22 a23 a24 a25 (IntKind.wrap .i64 (a26 + 1)) a27 a28)))
    else
    (I.Lat_isOrder_l2 m e12_0 e12_1 a19 a20 a21 a22 a23 a24 a25 (IntKind.wrap .i64 (a26 + 1)) a27 a28)))
    else
    (e12_1 a19 a21 a22 a23 a24 a27 a28))
noncomputable def I.Lat_isOrder_l1 : Nat → (Bool → Int → Int → Int → List Int → Option Bool) → (Int → Int → Int → List Int → Option Bool) → Int → Int → Int → Int → Int → Int → List Int → Option Bool
  | 0, _, _, _, _, _, _, _, _, _ => none
  | m + 1, e7_0, e7_1, a9, a10, a11, a12, a13, a14, a15 =>
    (bif (decide (a13 < a12)) then
    (bif (a9 != a13) then
    (Option.bind (I.Lat_le a14 a9 a13 a15) fun r17 =>
    (bif r17 then
    (Option.bind (I.Lat_le a14 a13 a9 a15) fun r18 =>
    (bif r18 then
    (e7_0 false a10 a11 a14 a15)
    else
    (I.Lat_isOrder_l2 fu (fun y36 y37 y38 y39 y40 y41 y42 y43 =>
    (e7_0 y36 y38 y39 y42 y43)) (fun y44 y45 y46 y47 y48 y49 y50 =>
    (I.Lat_isOrder_l1 m e7_0 e7_1 y44 y45 y46 y47 (IntKind.wrap .i64 (y48 + 1)) y49 y50)) a9 a13 a10 a11 a12 a13 a14 0 a14 a15)))
    else
    (I.Lat_isOrder_l2 fu (fun y52 y53 y54 y55 y56 y57 y58 y59 =>
    (e7_0 y52 y54 y55 y58 y59)) (fun y60 y61 y62 y63 y64 y65 y66 =>
    (I.Lat_isOrder_l1 m e7_0 e7_1 y60 y61 y62 y63 (IntKind.wrap .i64 (y64 + 1)) y65 y66)) a9 a13 a10 a11 a12 a13 a14 0 a14 a15)))
    else
    (I.Lat_isOrder_l2 fu (fun y68 y69 y70 y71 y72 y73 y74 y75 =>
    (e7_0 y68 y70 y71 y74 y75)) (fun y76 y77 y78 y79 y80 y81 y82 =>
    (I.Lat_isOrder_l1 m e7_0 e7_1 y76 y77 y78 y79 (IntKind.wrap .i64 (y80 + 1)) y81 y82)) a9 a13 a10 a11 a12 a13 a14 0 a14 a15))
    else
    (e7_1 a10 a11 a14 a15))
noncomputable def I.Lat_isOrder_l0 : Nat → (Bool → Option Bool) → (Option Bool) → Int → Int → Int → List Int → Option Bool
  | 0, _, _, _, _, _, _ => none
  | m + 1, e2_0, e2_1, a3, a4, a5, a6 =>
    (bif (decide (a4 < a3)) then
    (Option.bind (I.Lat_le a5 a4 a4 a6) fun r8 =>
    (bif (!r8) then
    (e2_0 false)
    else
    (I.Lat_isOrder_l1 fu (fun y84 y85 y86 y87 y88 =>
    (e2_0 y84)) (fun y89 y90 y91 y92 =>
    (I.Lat_isOrder_l0 m e2_0 e2_1 y89 (IntKind.wrap .i64 (y90 + 1)) y91 y92)) a4 a3 a4 a5 0 a5 a6)))
    else
    e2_1)
noncomputable def I.Lat_isOrder (a1 : Int) (a2 : List Int) : Option Bool :=
(I.Lat_isOrder_l0 fu (fun y94 =>
(some y94)) (some true) a1 0 a1 a2)
noncomputable def H157_12 : LoopH := ⟨⟨((.one (.unk)) :: (.one (.ptr 0 0)) :: (.one (.unk)) :: hh :: hh :: (hu 2 (hh :: hh :: (hu 8 (hh :: hh :: (hu 18 (hh :: hh :: (hu 22 [])))))))), [(51, [.hole, .sl 0])], [(145, (.int .u64), .ro)]⟩, [0, 2, 5, 6, 9, 10, 11, 12, 13, 14, 15, 16, 19, 20, 21, 22, 23, 24, 25, 26, 27, 28, 29, 30, 31, 32, 33, 34, 35, 36, 39, 40, 41, 42, 43, 44, 45, 46, 47, 48, 49, 50, 51, 52, 53, 54, 55, 56, 57, 58, 59, 60], [], [0, 4, 5, 6, 9, 10, 11, 12, 13, 14, 15, 16, 19, 20, 21, 22, 23, 24, 25, 26, 27, 28, 29, 30, 31, 32, 33, 34, 35, 36, 37, 38, 39, 40, 41, 42, 43, 44, 45, 46, 47, 48, 49, 50, 51, 52, 53, 54, 55, 56, 57, 58, 59, 60]⟩
noncomputable def E157_12 (m : Nat) (ps : List Prm) (k : Kont Bool) : Option Bool :=
  match ps with
  | [.v (.int .i64 a19), .v (.int .i64 a20), .v (.int .i64 a21), .v (.int .i64 a22), .v (.int .i64 a23), .v (.int .i64 a24), .v (.int .i64 a25), .v (.int .i64 a26), .v (.int .i64 a27), .row (.int .u64) a28] => I.Lat_isOrder_l2 m (fun z120 z121 z122 z123 z124 z125 z126 z127 => k .ret (⟨((.s1 (.one (.unk))) :: (vp 0 0) :: (vb z120) :: (vi z121) :: (vu 3 ((vi z122) :: (vi z123) :: (vu 8 ((vi z124) :: (vi z125) :: (vu 42 [])))))), [(51, [ai z126, .sl 0])], [⟨145, (.int .u64), z127, .ro⟩]⟩ : St)) (fun z128 z129 z130 z131 z132 z133 z134 => k (.exit 4) (⟨((.s1 (.one (.unk))) :: (vp 0 0) :: (.s1 (.one (.unk))) :: (vi z128) :: (vu 3 ((vi z129) :: (vi z130) :: (vu 8 ((vi z131) :: (vi z132) :: (vu 42 [])))))), [(51, [ai z133, .sl 0])], [⟨145, (.int .u64), z134, .ro⟩]⟩ : St)) a19 a20 a21 a22 a23 a24 a25 a26 a27 a28
  | _ => none
noncomputable def S157_12 (a19 a20 a21 a22 a23 a24 a25 a26 a27 : Int) (a28 : List Int) : St := (⟨((.s1 (.one (.unk))) :: (vp 0 0) :: (.s1 (.one (.unk))) :: (vi a19) :: (vi a20) :: (vu 2 ((vi a21) :: (vi a22) :: (vu 8 ((vi a23) :: (vi a24) :: (vu 18 ((vi a25) :: (vi a26) :: (vu 22 [])))))))), [(51, [ai a27, .sl 0])], [⟨145, (.int .u64), a28, .ro⟩]⟩ : St)
theorem ev157_12 (m : Nat) (k : Kont Bool) (a19 a20 a21 a22 a23 a24 a25 a26 a27 : Int) (a28 : List Int) : evC Try.prog G157 loopNil c157_12 (S157_12 a19 a20 a21 a22 a23 a24 a25 a26 a27 a28) (turn Try.prog (0, 0) H157_12 (E157_12 m) k) = E157_12 (m + 1) [.v (.int .i64 a19), .v (.int .i64 a20), .v (.int .i64 a21), .v (.int .i64 a22), .v (.int .i64 a23), .v (.int .i64 a24), .v (.int .i64 a25), .v (.int .i64 a26), .v (.int .i64 a27), .row (.int .u64) a28] k := by kernel_rfl
theorem ok157_12 (m : Nat) : LoopOk Try.prog (0, 0) c157_12 (enter Try.prog (0, 0) H157_12 (E157_12 m)) := by
  refine loop_ok (G := G157) (L := loopNil) (envCons_good good144 envNil_good) (by intro x hx; simp [show loopsOf c157_12 = [] from by kernel_rfl] at hx) (fun ps k => by unfold E157_12; split <;> rfl) (fun m ps k r h => ?_) m
  have h0 := h
  unfold E157_12 at h
  split at h
  · exact ⟨S157_12 _ _ _ _ _ _ _ _ _ _, by kernel_rfl, (ev157_12 m k _ _ _ _ _ _ _ _ _ _).trans h0⟩
  · cases h
noncomputable def L157_7 : LEnv Bool := (loopCons 12 (enter Try.prog (0, 0) H157_12 (E157_12 fu)) loopNil)
theorem lq157_7 : loopsOf c157_7 = [c157_12] := by kernel_rfl
theorem fr157_12 : firstReg c157_12 = some 12 := by kernel_rfl
theorem le157_12 : L157_7 12 = enter Try.prog (0, 0) H157_12 (E157_12 fu) := by kernel_rfl
theorem lm157_7 : ∀ x ∈ [c157_12], ∀ id, firstReg x = some id → LoopOk Try.prog (0, 0) x (L157_7 id) := (loops_cons fr157_12 le157_12 (ok157_12 fu) loops_nil)
theorem lp157_7 : ∀ x ∈ loopsOf c157_7, ∀ id, firstReg x = some id → LoopOk Try.prog (0, 0) x (L157_7 id) := loops_eq lq157_7 lm157_7
noncomputable def H157_7 : LoopH := ⟨⟨((.one (.unk)) :: (.one (.ptr 0 0)) :: (.one (.unk)) :: hh :: (hu 3 (hh :: hh :: (hu 8 (hh :: hh :: (hu 42 [])))))), [(51, [.hole, .sl 0])], [(145, (.int .u64), .ro)]⟩, [0, 2, 4, 5, 6, 9, 10, 11, 12, 13, 14, 15, 16, 19, 20, 21, 22, 23, 24, 25, 26, 27, 28, 29, 30, 31, 32, 33, 34, 35, 36, 37, 38, 39, 40, 41, 42, 43, 44, 45, 46, 47, 48, 49, 50, 51, 52, 53, 54, 55, 56, 57, 58, 59, 60], [], [0, 3, 4, 5, 6, 9, 10, 11, 12, 13, 14, 15, 16, 17, 18, 19, 20, 21, 22, 23, 24, 25, 26, 27, 28, 29, 30, 31, 32, 33, 34, 35, 36, 37, 38, 39, 40, 41, 42, 43, 44, 45, 46, 47, 48, 49, 50, 51, 52, 53, 54, 55, 56, 57, 58, 59, 60]⟩
noncomputable def E157_7 (m : Nat) (ps : List Prm) (k : Kont Bool) : Option Bool :=
  match ps with
  | [.v (.int .i64 a9), .v (.int .i64 a10), .v (.int .i64 a11), .v (.int .i64 a12), .v (.int .i64 a13), .v (.int .i64 a14), .row (.int .u64) a15] => I.Lat_isOrder_l1 m (fun z135 z136 z137 z138 z139 => k .ret (⟨((.s1 (.one (.unk))) :: (vp 0 0) :: (vb z135) :: (vu 4 ((vi z136) :: (vi z137) :: (vu 52 [])))), [(51, [ai z138, .sl 0])], [⟨145, (.int .u64), z139, .ro⟩]⟩ : St)) (fun z140 z141 z142 z143 => k (.exit 2) (⟨((.s1 (.one (.unk))) :: (vp 0 0) :: (vu 5 ((vi z140) :: (vi z141) :: (vu 52 [])))), [(51, [ai z142, .sl 0])], [⟨145, (.int .u64), z143, .ro⟩]⟩ : St)) a9 a10 a11 a12 a13 a14 a15
  | _ => none
noncomputable def S157_7 (a9 a10 a11 a12 a13 a14 : Int) (a15 : List Int) : St := (⟨((.s1 (.one (.unk))) :: (vp 0 0) :: (.s1 (.one (.unk))) :: (vi a9) :: (vu 3 ((vi a10) :: (vi a11) :: (vu 8 ((vi a12) :: (vi a13) :: (vu 42 [])))))), [(51, [ai a14, .sl 0])], [⟨145, (.int .u64), a15, .ro⟩]⟩ : St)
theorem ev157_7 (m : Nat) (k : Kont Bool) (a9 a10 a11 a12 a13 a14 : Int) (a15 : List Int) : evC Try.prog G157 L157_7 c157_7 (S157_7 a9 a10 a11 a12 a13 a14 a15) (turn Try.prog (0, 0) H157_7 (E157_7 m) k) = E157_7 (m + 1) [.v (.int .i64 a9), .v (.int .i64 a10), .v (.int .i64 a11), .v (.int .i64 a12), .v (.int .i64 a13), .v (.int .i64 a14), .row (.int .u64) a15] k := by kernel_rfl
theorem ok157_7 (m : Nat) : LoopOk Try.prog (0, 0) c157_7 (enter Try.prog (0, 0) H157_7 (E157_7 m)) := by
  refine loop_ok (G := G157) (L := L157_7) (envCons_good good144 envNil_good) lp157_7 (fun ps k => by unfold E157_7; split <;> rfl) (fun m ps k r h => ?_) m
  have h0 := h
  unfold E157_7 at h
  split at h
  · exact ⟨S157_7 _ _ _ _ _ _ _, by kernel_rfl, (ev157_7 m k _ _ _ _ _ _ _).trans h0⟩
  · cases h
noncomputable def L157_2 : LEnv Bool := (loopCons 7 (enter Try.prog (0, 0) H157_7 (E157_7 fu)) loopNil)
theorem lq157_2 : loopsOf c157_2 = [c157_7] := by kernel_rfl
theorem fr157_7 : firstReg c157_7 = some 7 := by kernel_rfl
theorem le157_7 : L157_2 7 = enter Try.prog (0, 0) H157_7 (E157_7 fu) := by kernel_rfl
theorem lm157_2 : ∀ x ∈ [c157_7], ∀ id, firstReg x = some id → LoopOk Try.prog (0, 0) x (L157_2 id) := (loops_cons fr157_7 le157_7 (ok157_7 fu) loops_nil)
theorem lp157_2 : ∀ x ∈ loopsOf c157_2, ∀ id, firstReg x = some id → LoopOk Try.prog (0, 0) x (L157_2 id) := loops_eq lq157_2 lm157_2
noncomputable def H157_2 : LoopH := ⟨⟨((.one (.unk)) :: (.one (.ptr 0 0)) :: (hu 5 (hh :: hh :: (hu 52 [])))), [(51, [.hole, .sl 0])], [(145, (.int .u64), .ro)]⟩, [0, 2, 3, 4, 5, 6, 9, 10, 11, 12, 13, 14, 15, 16, 17, 18, 19, 20, 21, 22, 23, 24, 25, 26, 27, 28, 29, 30, 31, 32, 33, 34, 35, 36, 37, 38, 39, 40, 41, 42, 43, 44, 45, 46, 47, 48, 49, 50, 51, 52, 53, 54, 55, 56, 57, 58, 59, 60], [], [0, 1, 3, 4, 5, 6, 7, 8, 9, 10, 11, 12, 13, 14, 15, 16, 17, 18, 19, 20, 21, 22, 23, 24, 25, 26, 27, 28, 29, 30, 31, 32, 33, 34, 35, 36, 37, 38, 39, 40, 41, 42, 43, 44, 45, 46, 47, 48, 49, 50, 51, 52, 53, 54, 55, 56, 57, 58, 59, 60]⟩
noncomputable def E157_2 (m : Nat) (ps : List Prm) (k : Kont Bool) : Option Bool :=
  match ps with
  | [.v (.int .i64 a3), .v (.int .i64 a4), .v (.int .i64 a5), .row (.int .u64) a6] => I.Lat_isOrder_l0 m (fun z144 => k .ret (⟨(vu 2 ((vb z144) :: (vu 58 []))), [], []⟩ : St)) (k (.exit 0) (⟨(vu 61 []), [], []⟩ : St)) a3 a4 a5 a6
  | _ => none
noncomputable def S157_2 (a3 a4 a5 : Int) (a6 : List Int) : St := (⟨((.s1 (.one (.unk))) :: (vp 0 0) :: (vu 5 ((vi a3) :: (vi a4) :: (vu 52 [])))), [(51, [ai a5, .sl 0])], [⟨145, (.int .u64), a6, .ro⟩]⟩ : St)
theorem ev157_2 (m : Nat) (k : Kont Bool) (a3 a4 a5 : Int) (a6 : List Int) : evC Try.prog G157 L157_2 c157_2 (S157_2 a3 a4 a5 a6) (turn Try.prog (0, 0) H157_2 (E157_2 m) k) = E157_2 (m + 1) [.v (.int .i64 a3), .v (.int .i64 a4), .v (.int .i64 a5), .row (.int .u64) a6] k := by kernel_rfl
theorem ok157_2 (m : Nat) : LoopOk Try.prog (0, 0) c157_2 (enter Try.prog (0, 0) H157_2 (E157_2 m)) := by
  refine loop_ok (G := G157) (L := L157_2) (envCons_good good144 envNil_good) lp157_2 (fun ps k => by unfold E157_2; split <;> rfl) (fun m ps k r h => ?_) m
  have h0 := h
  unfold E157_2 at h
  split at h
  · exact ⟨S157_2 _ _ _ _, by kernel_rfl, (ev157_2 m k _ _ _ _).trans h0⟩
  · cases h
noncomputable def L157 : LEnv Bool := (loopCons 2 (enter Try.prog (0, 0) H157_2 (E157_2 fu)) loopNil)
theorem lq157 : loopsOf c157 = [c157_2] := by kernel_rfl
theorem fr157_2 : firstReg c157_2 = some 2 := by kernel_rfl
theorem le157_2 : L157 2 = enter Try.prog (0, 0) H157_2 (E157_2 fu) := by kernel_rfl
theorem lm157 : ∀ x ∈ [c157_2], ∀ id, firstReg x = some id → LoopOk Try.prog (0, 0) x (L157 id) := (loops_cons fr157_2 le157_2 (ok157_2 fu) loops_nil)
theorem lp157 : ∀ x ∈ loopsOf c157, ∀ id, firstReg x = some id → LoopOk Try.prog (0, 0) x (L157 id) := loops_eq lq157 lm157
noncomputable def R157 (x : Bool) : Res := ⟨[.one (ab x)], [], []⟩
noncomputable def K157 (r : Res) : Option Bool :=
  match r with
  | ⟨[.one (.val (.bool v1))], [], []⟩ => some (v1)
  | _ => none
noncomputable def E157 : Fun2 := fun args bs rs =>
  match args, bs, rs with
  | [.s1 (.agg [.val (.int .i64 a1), .sl 0])], [], [⟨145, (.int .u64), a2, .ro⟩] => some ⟨Bool, I.Lat_isOrder a1 a2, R157⟩
  | _, _, _ => none
theorem ev157 (a1 : Int) (a2 : List Int) : evF Try.prog G157 L157 (0, 0) Try.f157 c157 [.s1 (.agg [ai a1, .sl 0])] [] [⟨145, (.int .u64), a2, .ro⟩] K157 = I.Lat_isOrder a1 a2 := by kernel_rfl
theorem good157 : Vm.Good Try.prog 157 E157 := by
  refine evF_good (G := G157) (c := c157) (envCons_good good144 envNil_good) Try.func157 (by kernel_rfl) (by kernel_rfl) (0, 0) (fun args bs rs out t h h2 => ?_)
  unfold E157 at h
  split at h
  · injection h with h
    subst h
    exact ⟨rfl, L157, K157, lp157, (fun r t h => by unfold K157 at h; split at h; (injection h with h; subst h; rfl); cases h), (ev157 _ _).trans h2⟩
  · cases h
/-! ### I.Lat_bound_1 -/
noncomputable def G192 : Env := (envCons 144 [] E144 envNil)
noncomputable def c192 : Code := bodyOf Try.f192
noncomputable def I.Lat_bound_1 (a1 a2 : Int) (a3 : Bool) (a4 : Int) (a5 : List Int) : Option (Bool × Bool × Int × List Int) :=
(bif a3 then
(Option.bind (I.Lat_le a4 a1 a2 a5) fun r6 =>
(some (r6, a3, a4, a5)))
else
(Option.bind (I.Lat_le a4 a2 a1 a5) fun r7 =>
(some (r7, a3, a4, a5))))
noncomputable def R192 (x : Bool × Bool × Int × List Int) : Res := ⟨[.one (ab x.1)], [(4, [ab x.2.1]), (51, [ai x.2.2.1, .sl 0])], [⟨145, (.int .u64), x.2.2.2, .rop⟩]⟩
noncomputable def K192 (r : Res) : Option (Bool × Bool × Int × List Int) :=
  match r with
  | ⟨[.one (.val (.bool v1))], [(4, [.val (.bool v2)]), (51, [.val (.int .i64 v3), .sl 0])], [⟨145, (.int .u64), v4, .rop⟩]⟩ => some (v1, v2, v3, v4)
  | _ => none
noncomputable def E192 : Fun2 := fun args bs rs =>
  match args, bs, rs with
  | [.s1 (.one (.val (.int .i64 a1))), .s1 (.one (.val (.int .i64 a2))), .s1 (.one (.ptr 0 0)), .s1 (.one (.ptr 1 0))], [(4, [.val (.bool a3)]), (51, [.val (.int .i64 a4), .sl 0])], [⟨145, (.int .u64), a5, .rop⟩] => some ⟨Bool × Bool × Int × List Int, I.Lat_bound_1 a1 a2 a3 a4 a5, R192⟩
  | _, _, _ => none
theorem ev192 (a1 a2 : Int) (a3 : Bool) (a4 : Int) (a5 : List Int) : evF Try.prog G192 loopNil (2, 1) Try.f192 c192 [vi a1, vi a2, vp 0 0, vp 1 0] [(4, [ab a3]), (51, [ai a4, .sl 0])] [⟨145, (.int .u64), a5, .rop⟩] K192 = I.Lat_bound_1 a1 a2 a3 a4 a5 := by kernel_rfl
theorem good192 : Vm.Good Try.prog 192 E192 := by
  refine evF_good (G := G192) (c := c192) (envCons_good good144 envNil_good) Try.func192 (by kernel_rfl) (by kernel_rfl) (2, 1) (fun args bs rs out t h h2 => ?_)
  unfold E192 at h
  split at h
  · injection h with h
    subst h
    exact ⟨rfl, loopNil, K192, (by intro x hx; simp [show loopsOf c192 = [] from by kernel_rfl] at hx), (fun r t h => by unfold K192 at h; split at h; (injection h with h; subst h; rfl); cases h), (ev192 _ _ _ _ _).trans h2⟩
  · cases h
/-! ### I.Lat_bound -/
noncomputable def G158 : Env := (envCons 192 [] E192 envNil)
noncomputable def c158 : Code := bodyOf Try.f158
noncomputable def c158_3 : Code := (loopsOf c158).getD 0 .skip
noncomputable def c158_8 : Code := (loopsOf c158_3).getD 0 .skip
noncomputable def I.Lat_bound_l1 : Nat → (Int → Int → Int → Bool → Int → Int → Int → Bool → List Int → Option Int) → Int → Int → Int → Bool → Int → Int → Int → Int → Int → Bool → List Int → Option Int
  | 0, _, _, _, _, _, _, _, _, _, _, _, _ => none
  | m + 1, e8_0, a18, a19, a20, a21, a22, a23, a24, a25, a26, a27, a28 =>
    (bif (decide (a25 < a24)) then
    (Option.bind (I.Lat_bound_1 a18 a25 a27 a26 a28) fun r30 =>
    (bif r30.1 then
    (Option.bind (I.Lat_bound_1 a19 a25 r30.2.1 r30.2.2.1 a28) fun r31 =>
    (bif r31.1 then
    (Option.bind (I.Lat_bound_1 a20 a25 r31.2.1 r31.2.2.1 a28) fun r32 =>
    (bif (!r32.1) then
    (I.Lat_bound_l1 m e8_0 a18 a19 a20 false a22 a23 a24 (IntKind.wrap .i64 (a25 + 1)) r32.2.2.1 r32.2.1 a28)
    else
    (I.Lat_bound_l1 m e8_0 a18 a19 a20 a21 a22 a23 a24 (IntKind.wrap .i64 (a25 + 1)) r32.2.2.1 r32.2.1 a28)))
    else
    (I.Lat_bound_l1 m e8_0 a18 a19 a20 a21 a22 a23 a24 (IntKind.wrap .i64 (a25 + 1)) r31.2.2.1 r31.2.1 a28)))
    else
    (I.Lat_bound_l1 m e8_0 a18 a19 a20 a21 a22 a23 a24 (IntKind.wrap .i64 (a25 + 1)) r30.2.2.1 r30.2.1 a28)))
    else
    (e8_0 a18 a19 a20 a21 a22 a23 a26 a27 a28))
noncomputable def I.Lat_bound_l0 : Nat → (Int → Option Int) → (Option Int) → Int → Int → Int → Int → Int → Bool → List Int → Option Int
  | 0, _, _, _, _, _, _, _, _, _ => none
  | m + 1, e3_0, e3_1, a6, a7, a8, a9, a10, a11, a12 =>
    (bif (decide (a9 < a8)) then
    (Option.bind (I.Lat_bound_1 a6 a9 a11 a10 a12) fun r14 =>
    (bif (!r14.1) then
    (I.Lat_bound_l0 m e3_0 e3_1 a6 a7 a8 (IntKind.wrap .i64 (a9 + 1)) r14.2.2.1 r14.2.1 a12)
    else
    (Option.bind (I.Lat_bound_1 a7 a9 r14.2.1 r14.2.2.1 a12) fun r16 =>
    (bif (!r16.1) then
    (I.Lat_bound_l0 m e3_0 e3_1 a6 a7 a8 (IntKind.wrap .i64 (a9 + 1)) r16.2.2.1 r16.2.1 a12)
    else
    (I.Lat_bound_l1 fu (fun y37 y38 y39 y40 y41 y42 y43 y44 y45 =>
    (bif y40 then
    (e3_0 y39)
    else
    (I.Lat_bound_l0 m e3_0 e3_1 y37 y38 y41 (IntKind.wrap .i64 (y42 + 1)) y43 y44 y45))) a6 a7 a9 true a8 a9 r16.2.2.1 0 r16.2.2.1 r16.2.1 a12)))))
    else
    e3_1)
noncomputable def I.Lat_bound (a1 a2 a3 : Int) (a4 : Bool) (a5 : List Int) : Option Int :=
(I.Lat_bound_l0 fu (fun y47 =>
(some y47)) (some (-1)) a2 a3 a1 0 a1 a4 a5)
noncomputable def H158_8 : LoopH := ⟨⟨((.one (.unk)) :: hh :: hh :: (.one (.unk)) :: (.one (.ptr 0 0)) :: (hu 4 ((.one (.fn 192 [(1, 0), (0, 0)])) :: hh :: hh :: (hu 3 (hh :: hh :: (hu 15 (hh :: hh :: (hu 23 [])))))))), [(51, [.hole, .sl 0]), (4, [.hole])], [(145, (.int .u64), .ro)]⟩, [0, 3, 5, 6, 7, 8, 12, 13, 14, 17, 18, 19, 20, 21, 22, 23, 24, 25, 26, 27, 28, 29, 30, 31, 34, 35, 36, 37, 38, 39, 40, 41, 42, 43, 44, 45, 46, 47, 48, 49, 50, 51, 52, 53, 54, 55, 56], [], [0, 3, 5, 6, 7, 12, 13, 14, 17, 18, 19, 20, 21, 22, 23, 24, 25, 26, 27, 28, 29, 30, 31, 32, 33, 34, 35, 36, 37, 38, 39, 40, 41, 42, 43, 44, 45, 46, 47, 48, 49, 50, 51, 52, 53, 54, 55, 56]⟩
noncomputable def E158_8 (m : Nat) (ps : List Prm) (k : Kont Int) : Option Int :=
  match ps with
  | [.v (.int .i64 a18), .v (.int .i64 a19), .v (.int .i64 a20), .v (.bool a21), .v (.int .i64 a22), .v (.int .i64 a23), .v (.int .i64 a24), .v (.int .i64 a25), .v (.int .i64 a26), .v (.bool a27), .row (.int .u64) a28] => I.Lat_bound_l1 m (fun z58 z59 z60 z61 z62 z63 z64 z65 z66 => k (.exit 2) (⟨((.s1 (.one (.unk))) :: (vi z58) :: (vi z59) :: (.s1 (.one (.unk))) :: (vp 0 0) :: (vu 4 ((.s1 (.one (.fn 192 [(1, 0), (0, 0)]))) :: (vi z60) :: (vb z61) :: (vu 3 ((vi z62) :: (vi z63) :: (vu 40 [])))))), [(51, [ai z64, .sl 0]), (4, [ab z65])], [⟨145, (.int .u64), z66, .ro⟩]⟩ : St)) a18 a19 a20 a21 a22 a23 a24 a25 a26 a27 a28
  | _ => none
noncomputable def S158_8 (a18 a19 a20 : Int) (a21 : Bool) (a22 a23 a24 a25 a26 : Int) (a27 : Bool) (a28 : List Int) : St := (⟨((.s1 (.one (.unk))) :: (vi a18) :: (vi a19) :: (.s1 (.one (.unk))) :: (vp 0 0) :: (vu 4 ((.s1 (.one (.fn 192 [(1, 0), (0, 0)]))) :: (vi a20) :: (vb a21) :: (vu 3 ((vi a22) :: (vi a23) :: (vu 15 ((vi a24) :: (vi a25) :: (vu 23 [])))))))), [(51, [ai a26, .sl 0]), (4, [ab a27])], [⟨145, (.int .u64), a28, .ro⟩]⟩ : St)
theorem ev158_8 (m : Nat) (k : Kont Int) (a18 a19 a20 : Int) (a21 : Bool) (a22 a23 a24 a25 a26 : Int) (a27 : Bool) (a28 : List Int) : evC Try.prog G158 loopNil c158_8 (S158_8 a18 a19 a20 a21 a22 a23 a24 a25 a26 a27 a28) (turn Try.prog (0, 0) H158_8 (E158_8 m) k) = E158_8 (m + 1) [.v (.int .i64 a18), .v (.int .i64 a19), .v (.int .i64 a20), .v (.bool a21), .v (.int .i64 a22), .v (.int .i64 a23), .v (.int .i64 a24), .v (.int .i64 a25), .v (.int .i64 a26), .v (.bool a27), .row (.int .u64) a28] k := by kernel_rfl
theorem ok158_8 (m : Nat) : LoopOk Try.prog (0, 0) c158_8 (enter Try.prog (0, 0) H158_8 (E158_8 m)) := by
  refine loop_ok (G := G158) (L := loopNil) (envCons_good good192 envNil_good) (by intro x hx; simp [show loopsOf c158_8 = [] from by kernel_rfl] at hx) (fun ps k => by unfold E158_8; split <;> rfl) (fun m ps k r h => ?_) m
  have h0 := h
  unfold E158_8 at h
  split at h
  · exact ⟨S158_8 _ _ _ _ _ _ _ _ _ _ _, by kernel_rfl, (ev158_8 m k _ _ _ _ _ _ _ _ _ _ _).trans h0⟩
  · cases h
noncomputable def L158_3 : LEnv Int := (loopCons 8 (enter Try.prog (0, 0) H158_8 (E158_8 fu)) loopNil)
theorem lq158_3 : loopsOf c158_3 = [c158_8] := by kernel_rfl
theorem fr158_8 : firstReg c158_8 = some 8 := by kernel_rfl
theorem le158_8 : L158_3 8 = enter Try.prog (0, 0) H158_8 (E158_8 fu) := by kernel_rfl
theorem lm158_3 : ∀ x ∈ [c158_8], ∀ id, firstReg x = some id → LoopOk Try.prog (0, 0) x (L158_3 id) := (loops_cons fr158_8 le158_8 (ok158_8 fu) loops_nil)
theorem lp158_3 : ∀ x ∈ loopsOf c158_3, ∀ id, firstReg x = some id → LoopOk Try.prog (0, 0) x (L158_3 id) := loops_eq lq158_3 lm158_3
noncomputable def H158_3 : LoopH := ⟨⟨((.one (.unk)) :: hh :: hh :: (.one (.unk)) :: (.one (.ptr 0 0)) :: (hu 4 ((.one (.fn 192 [(1, 0), (0, 0)])) :: (hu 5 (hh :: hh :: (hu 40 [])))))), [(51, [.hole, .sl 0]), (4, [.hole])], [(145, (.int .u64), .ro)]⟩, [0, 3, 5, 6, 7, 8, 10, 11, 12, 13, 14, 17, 18, 19, 20, 21, 22, 23, 24, 25, 26, 27, 28, 29, 30, 31, 32, 33, 34, 35, 36, 37, 38, 39, 40, 41, 42, 43, 44, 45, 46, 47, 48, 49, 50, 51, 52, 53, 54, 55, 56], [], [0, 1, 2, 3, 4, 5, 6, 7, 9, 10, 11, 12, 13, 14, 15, 16, 17, 18, 19, 20, 21, 22, 23, 24, 25, 26, 27, 28, 29, 30, 31, 32, 33, 34, 35, 36, 37, 38, 39, 40, 41, 42, 43, 44, 45, 46, 47, 48, 49, 50, 51, 52, 53, 54, 55, 56]⟩
noncomputable def E158_3 (m : Nat) (ps : List Prm) (k : Kont Int) : Option Int :=
  match ps with
  | [.v (.int .i64 a6), .v (.int .i64 a7), .v (.int .i64 a8), .v (.int .i64 a9), .v (.int .i64 a10), .v (.bool a11), .row (.int .u64) a12] => I.Lat_bound_l0 m (fun z67 => k .ret (⟨(vu 8 ((vi z67) :: (vu 48 []))), [], []⟩ : St)) (k (.exit 0) (⟨(vu 57 []), [], []⟩ : St)) a6 a7 a8 a9 a10 a11 a12
  | _ => none
noncomputable def S158_3 (a6 a7 a8 a9 a10 : Int) (a11 : Bool) (a12 : List Int) : St := (⟨((.s1 (.one (.unk))) :: (vi a6) :: (vi a7) :: (.s1 (.one (.unk))) :: (vp 0 0) :: (vu 4 ((.s1 (.one (.fn 192 [(1, 0), (0, 0)]))) :: (vu 5 ((vi a8) :: (vi a9) :: (vu 40 [])))))), [(51, [ai a10, .sl 0]), (4, [ab a11])], [⟨145, (.int .u64), a12, .ro⟩]⟩ : St)
theorem ev158_3 (m : Nat) (k : Kont Int) (a6 a7 a8 a9 a10 : Int) (a11 : Bool) (a12 : List Int) : evC Try.prog G158 L158_3 c158_3 (S158_3 a6 a7 a8 a9 a10 a11 a12) (turn Try.prog (0, 0) H158_3 (E158_3 m) k) = E158_3 (m + 1) [.v (.int .i64 a6), .v (.int .i64 a7), .v (.int .i64 a8), .v (.int .i64 a9), .v (.int .i64 a10), .v (.bool a11), .row (.int .u64) a12] k := by kernel_rfl
theorem ok158_3 (m : Nat) : LoopOk Try.prog (0, 0) c158_3 (enter Try.prog (0, 0) H158_3 (E158_3 m)) := by
  refine loop_ok (G := G158) (L := L158_3) (envCons_good good192 envNil_good) lp158_3 (fun ps k => by unfold E158_3; split <;> rfl) (fun m ps k r h => ?_) m
  have h0 := h
  unfold E158_3 at h
  split at h
  · exact ⟨S158_3 _ _ _ _ _ _ _, by kernel_rfl, (ev158_3 m k _ _ _ _ _ _ _).trans h0⟩
  · cases h
noncomputable def L158 : LEnv Int := (loopCons 3 (enter Try.prog (0, 0) H158_3 (E158_3 fu)) loopNil)
theorem lq158 : loopsOf c158 = [c158_3] := by kernel_rfl
theorem fr158_3 : firstReg c158_3 = some 3 := by kernel_rfl
theorem le158_3 : L158 3 = enter Try.prog (0, 0) H158_3 (E158_3 fu) := by kernel_rfl
theorem lm158 : ∀ x ∈ [c158_3], ∀ id, firstReg x = some id → LoopOk Try.prog (0, 0) x (L158 id) := (loops_cons fr158_3 le158_3 (ok158_3 fu) loops_nil)
theorem lp158 : ∀ x ∈ loopsOf c158, ∀ id, firstReg x = some id → LoopOk Try.prog (0, 0) x (L158 id) := loops_eq lq158 lm158
noncomputable def R158 (x : Int) : Res := ⟨[.one (ai x)], [], []⟩
noncomputable def K158 (r : Res) : Option Int :=
  match r with
  | ⟨[.one (.val (.int .i64 v1))], [], []⟩ => some (v1)
  | _ => none
noncomputable def E158 : Fun2 := fun args bs rs =>
  match args, bs, rs with
  | [.s1 (.agg [.val (.int .i64 a1), .sl 0]), .s1 (.one (.val (.int .i64 a2))), .s1 (.one (.val (.int .i64 a3))), .s1 (.one (.val (.bool a4)))], [], [⟨145, (.int .u64), a5, .ro⟩] => some ⟨Int, I.Lat_bound a1 a2 a3 a4 a5, R158⟩
  | _, _, _ => none
theorem ev158 (a1 a2 a3 : Int) (a4 : Bool) (a5 : List Int) : evF Try.prog G158 L158 (0, 0) Try.f158 c158 [.s1 (.agg [ai a1, .sl 0]), vi a2, vi a3, vb a4] [] [⟨145, (.int .u64), a5, .ro⟩] K158 = I.Lat_bound a1 a2 a3 a4 a5 := by kernel_rfl
theorem good158 : Vm.Good Try.prog 158 E158 := by
  refine evF_good (G := G158) (c := c158) (envCons_good good192 envNil_good) Try.func158 (by kernel_rfl) (by kernel_rfl) (0, 0) (fun args bs rs out t h h2 => ?_)
  unfold E158 at h
  split at h
  · injection h with h
    subst h
    exact ⟨rfl, L158, K158, lp158, (fun r t h => by unfold K158 at h; split at h; (injection h with h; subst h; rfl); cases h), (ev158 _ _ _ _ _).trans h2⟩
  · cases h
/-! ### I.isLat -/
noncomputable def G97 : Env := (envCons 151 [] E151 (envCons 157 [] E157 (envCons 158 [] E158 envNil)))
noncomputable def c97 : Code := bodyOf Try.f97
noncomputable def c97_4 : Code := (loopsOf c97).getD 0 .skip
noncomputable def c97_12 : Code := (loopsOf c97).getD 1 .skip
noncomputable def c97_15 : Code := (loopsOf c97_12).getD 0 .skip
noncomputable def I.isLat_l0 : Nat → (Bool → Int → List Int → Option Bool) → (Int → List Int → Option Bool) → Int → Int → Int → List Int → Option Bool
  | 0, _, _, _, _, _, _ => none
  | m + 1, e4_0, e4_1, a6, a7, a8, a9 =>
    (bif (decide (a7 < a6)) then
    (bif decide ((0 : Int) ≤ a7 ∧ a7 < (a9.length : Int)) then
    (bif decide ((0 : Int) ≤ a8) then
    (bif ((Int.fdiv (nthI a9 a7 (0 : Int)) (2 ^ min (Int.toNat a8) (IntKind.bits .u64))) != 0) then
    (e4_0 false a8 a9)
    else
    (I.isLat_l0 m e4_0 e4_1 a6 (IntKind.wrap .i64 (a7 + 1)) a8 a9))
    else
    none)
    else
    none)
    else
    (e4_1 a8 a9))
noncomputable def I.isLat_l2 : Nat → (Bool → Int → Int → Int → List Int → Option Bool) → (Int → Int → Int → List Int → Option Bool) → Int → Int → Int → Int → Int → Int → List Int → Option Bool
  | 0, _, _, _, _, _, _, _, _, _ => none
  | m + 1, e15_0, e15_1, a25, a26, a27, a28, a29, a30, a31 =>
    (bif (decide (a29 < a28)) then
    (Option.bind (I.Lat_bound a30 a25 a29 true a31) fun r33 =>
    (bif (decide (r33 < 0)) then
    (e15_0 false a26 a27 a30 a31)
    else
    (Option.bind (I.Lat_bound a30 a25 a29 false a31) fun r35 =>
    (bif (decide (r35 < 0)) then
    (e15_0 false a26 a27 a30 a31)
    else
    (I.isLat_l2 m e15_0 e15_1 a25 a26 a27 a28 (IntKind.wrap .i64 (a29 + 1)) a30 a31)))))
    else
    (e15_1 a26 a27 a30 a31))
noncomputable def I.isLat_l1 : Nat → (Bool → Option Bool) → (Option Bool) → Int → Int → Int → List Int → Option Bool
  | 0, _, _, _, _, _, _ => none
  | m + 1, e12_0, e12_1, a20, a21, a22, a23 =>
    (bif (decide (a21 < a20)) then
    (I.isLat_l2 fu (fun y38 y39 y40 y41 y42 =>
    (e12_0 y38)) (fun y43 y44 y45 y46 =>
    (I.isLat_l1 m e12_0 e12_1 y43 (IntKind.wrap .i64 (y44 + 1)) y45 y46)) a21 a20 a21 a22 0 a22 a23)
    else
    e12_1)
noncomputable def I.isLat (a1 : Int) (a2 : List Int) : Option Bool :=
(Option.bind (I.in a1 1 16) fun r3 =>
(bif (!r3) then
(some false)
else
(bif ((a2.length : Int) != a1) then
(some false)
else
(I.isLat_l0 fu (fun y14 y15 y16 =>
(some y14)) (fun y17 y18 =>
(Option.bind (I.Lat_isOrder y17 y18) fun r19 =>
(bif (!r19) then
(some false)
else
(I.isLat_l1 fu (fun y48 =>
(some y48)) (some true) y17 0 y17 y18)))) (a2.length : Int) 0 a1 a2))))
noncomputable def H97_4 : LoopH := ⟨⟨((.one (.unk)) :: (.one (.ptr 0 0)) :: (hu 18 ((.one (.sl 0)) :: hh :: hh :: (hu 36 [])))), [(51, [.hole, .sl 0])], [(145, (.int .u64), .ro)]⟩, [0, 2, 3, 4, 5, 6, 7, 8, 9, 10, 11, 12, 13, 14, 15, 16, 17, 18, 19, 23, 24, 25, 26, 27, 28, 29, 30, 31, 32, 33, 34, 35, 36, 37, 38, 39, 40, 41, 42, 43, 44, 45, 46, 47, 48, 49, 50, 51, 52, 53, 54, 55, 56, 57, 58], [], [0, 3, 4, 5, 6, 7, 8, 9, 10, 11, 12, 13, 14, 15, 16, 17, 18, 19, 20, 21, 22, 23, 24, 25, 26, 27, 28, 29, 30, 31, 32, 33, 34, 35, 36, 37, 38, 39, 40, 41, 42, 43, 44, 45, 46, 47, 48, 49, 50, 51, 52, 53, 54, 55, 56, 57, 58]⟩
noncomputable def E97_4 (m : Nat) (ps : List Prm) (k : Kont Bool) : Option Bool :=
  match ps with
  | [.v (.int .i64 a6), .v (.int .i64 a7), .v (.int .i64 a8), .row (.int .u64) a9] => I.isLat_l0 m (fun z64 z65 z66 => k .ret (⟨((.s1 (.one (.unk))) :: (vp 0 0) :: (vb z64) :: (vu 56 [])), [(51, [ai z65, .sl 0])], [⟨145, (.int .u64), z66, .ro⟩]⟩ : St)) (fun z67 z68 => k (.exit 0) (⟨((.s1 (.one (.unk))) :: (vp 0 0) :: (vu 57 [])), [(51, [ai z67, .sl 0])], [⟨145, (.int .u64), z68, .ro⟩]⟩ : St)) a6 a7 a8 a9
  | _ => none
noncomputable def S97_4 (a6 a7 a8 : Int) (a9 : List Int) : St := (⟨((.s1 (.one (.unk))) :: (vp 0 0) :: (vu 18 ((vl 0) :: (vi a6) :: (vi a7) :: (vu 36 [])))), [(51, [ai a8, .sl 0])], [⟨145, (.int .u64), a9, .ro⟩]⟩ : St)
theorem ev97_4 (m : Nat) (k : Kont Bool) (a6 a7 a8 : Int) (a9 : List Int) : evC Try.prog G97 loopNil c97_4 (S97_4 a6 a7 a8 a9) (turn Try.prog (0, 0) H97_4 (E97_4 m) k) = E97_4 (m + 1) [.v (.int .i64 a6), .v (.int .i64 a7), .v (.int .i64 a8), .row (.int .u64) a9] k := by kernel_rfl
theorem ok97_4 (m : Nat) : LoopOk Try.prog (0, 0) c97_4 (enter Try.prog (0, 0) H97_4 (E97_4 m)) := by
  refine loop_ok (G := G97) (L := loopNil) (envCons_good good151 (envCons_good good157 (envCons_good good158 envNil_good))) (by intro x hx; simp [show loopsOf c97_4 = [] from by kernel_rfl] at hx) (fun ps k => by unfold E97_4; split <;> rfl) (fun m ps k r h => ?_) m
  have h0 := h
  unfold E97_4 at h
  split at h
  · exact ⟨S97_4 _ _ _ _, by kernel_rfl, (ev97_4 m k _ _ _ _).trans h0⟩
  · cases h
noncomputable def H97_15 : LoopH := ⟨⟨((.one (.unk)) :: (.one (.ptr 0 0)) :: (hu 3 (hh :: (hu 30 (hh :: hh :: (hu 3 (hh :: hh :: (hu 16 [])))))))), [(51, [.hole, .sl 0])], [(145, (.int .u64), .ro)]⟩, [0, 2, 3, 4, 6, 7, 8, 9, 10, 11, 12, 13, 14, 15, 16, 17, 18, 19, 20, 21, 22, 23, 24, 25, 26, 27, 28, 29, 30, 31, 32, 33, 34, 35, 38, 39, 40, 43, 44, 45, 46, 47, 48, 49, 50, 51, 52, 53, 54, 55, 56, 57, 58], [], [0, 3, 4, 5, 6, 7, 8, 9, 10, 11, 12, 13, 14, 15, 16, 17, 18, 19, 20, 21, 22, 23, 24, 25, 26, 27, 28, 29, 30, 31, 32, 33, 34, 35, 38, 39, 40, 41, 42, 43, 44, 45, 46, 47, 48, 49, 50, 51, 52, 53, 54, 55, 56, 57, 58]⟩
noncomputable def E97_15 (m : Nat) (ps : List Prm) (k : Kont Bool) : Option Bool :=
  match ps with
  | [.v (.int .i64 a25), .v (.int .i64 a26), .v (.int .i64 a27), .v (.int .i64 a28), .v (.int .i64 a29), .v (.int .i64 a30), .row (.int .u64) a31] => I.isLat_l2 m (fun z69 z70 z71 z72 z73 => k .ret (⟨((.s1 (.one (.unk))) :: (vp 0 0) :: (vb z69) :: (vu 33 ((vi z70) :: (vi z71) :: (vu 21 [])))), [(51, [ai z72, .sl 0])], [⟨145, (.int .u64), z73, .ro⟩]⟩ : St)) (fun z74 z75 z76 z77 => k (.exit 4) (⟨((.s1 (.one (.unk))) :: (vp 0 0) :: (vu 34 ((vi z74) :: (vi z75) :: (vu 21 [])))), [(51, [ai z76, .sl 0])], [⟨145, (.int .u64), z77, .ro⟩]⟩ : St)) a25 a26 a27 a28 a29 a30 a31
  | _ => none
noncomputable def S97_15 (a25 a26 a27 a28 a29 a30 : Int) (a31 : List Int) : St := (⟨((.s1 (.one (.unk))) :: (vp 0 0) :: (vu 3 ((vi a25) :: (vu 30 ((vi a26) :: (vi a27) :: (vu 3 ((vi a28) :: (vi a29) :: (vu 16 [])))))))), [(51, [ai a30, .sl 0])], [⟨145, (.int .u64), a31, .ro⟩]⟩ : St)
theorem ev97_15 (m : Nat) (k : Kont Bool) (a25 a26 a27 a28 a29 a30 : Int) (a31 : List Int) : evC Try.prog G97 loopNil c97_15 (S97_15 a25 a26 a27 a28 a29 a30 a31) (turn Try.prog (0, 0) H97_15 (E97_15 m) k) = E97_15 (m + 1) [.v (.int .i64 a25), .v (.int .i64 a26), .v (.int .i64 a27), .v (.int .i64 a28), .v (.int .i64 a29), .v (.int .i64 a30), .row (.int .u64) a31] k := by kernel_rfl
theorem ok97_15 (m : Nat) : LoopOk Try.prog (0, 0) c97_15 (enter Try.prog (0, 0) H97_15 (E97_15 m)) := by
  refine loop_ok (G := G97) (L := loopNil) (envCons_good good151 (envCons_good good157 (envCons_good good158 envNil_good))) (by intro x hx; simp [show loopsOf c97_15 = [] from by kernel_rfl] at hx) (fun ps k => by unfold E97_15; split <;> rfl) (fun m ps k r h => ?_) m
  have h0 := h
  unfold E97_15 at h
  split at h
  · exact ⟨S97_15 _ _ _ _ _ _ _, by kernel_rfl, (ev97_15 m k _ _ _ _ _ _ _).trans h0⟩
  · cases h
noncomputable def L97_12 : LEnv Bool := (loopCons 15 (enter Try.prog (0, 0) H97_15 (E97_15 fu)) loopNil)
theorem lq97_12 : loopsOf c97_12 = [c97_15] := by kernel_rfl
theorem fr97_15 : firstReg c97_15 = some 15 := by kernel_rfl
theorem le97_15 : L97_12 15 = enter Try.prog (0, 0) H97_15 (E97_15 fu) := by kernel_rfl
theorem lm97_12 : ∀ x ∈ [c97_15], ∀ id, firstReg x = some id → LoopOk Try.prog (0, 0) x (L97_12 id) := (loops_cons fr97_15 le97_15 (ok97_15 fu) loops_nil)
theorem lp97_12 : ∀ x ∈ loopsOf c97_12, ∀ id, firstReg x = some id → LoopOk Try.prog (0, 0) x (L97_12 id) := loops_eq lq97_12 lm97_12
noncomputable def H97_12 : LoopH := ⟨⟨((.one (.unk)) :: (.one (.ptr 0 0)) :: (hu 34 (hh :: hh :: (hu 21 [])))), [(51, [.hole, .sl 0])], [(145, (.int .u64), .ro)]⟩, [0, 2, 3, 4, 5, 6, 7, 8, 9, 10, 11, 12, 13, 14, 15, 16, 17, 18, 19, 20, 21, 22, 23, 24, 25, 26, 27, 28, 29, 30, 31, 32, 33, 34, 35, 38, 39, 40, 41, 42, 43, 44, 45, 46, 47, 48, 49, 50, 51, 52, 53, 54, 55, 56, 57, 58], [], [0, 1, 3, 4, 5, 6, 7, 8, 9, 10, 11, 12, 13, 14, 15, 16, 17, 18, 19, 20, 21, 22, 23, 24, 25, 26, 27, 28, 29, 30, 31, 32, 33, 34, 35, 36, 37, 38, 39, 40, 41, 42, 43, 44, 45, 46, 47, 48, 49, 50, 51, 52, 53, 54, 55, 56, 57, 58]⟩
noncomputable def E97_12 (m : Nat) (ps : List Prm) (k : Kont Bool) : Option Bool :=
  match ps with
  | [.v (.int .i64 a20), .v (.int .i64 a21), .v (.int .i64 a22), .row (.int .u64) a23] => I.isLat_l1 m (fun z78 => k .ret (⟨(vu 2 ((vb z78) :: (vu 56 []))), [], []⟩ : St)) (k (.exit 2) (⟨(vu 59 []), [], []⟩ : St)) a20 a21 a22 a23
  | _ => none
noncomputable def S97_12 (a20 a21 a22 : Int) (a23 : List Int) : St := (⟨((.s1 (.one (.unk))) :: (vp 0 0) :: (vu 34 ((vi a20) :: (vi a21) :: (vu 21 [])))), [(51, [ai a22, .sl 0])], [⟨145, (.int .u64), a23, .ro⟩]⟩ : St)
theorem ev97_12 (m : Nat) (k : Kont Bool) (a20 a21 a22 : Int) (a23 : List Int) : evC Try.prog G97 L97_12 c97_12 (S97_12 a20 a21 a22 a23) (turn Try.prog (0, 0) H97_12 (E97_12 m) k) = E97_12 (m + 1) [.v (.int .i64 a20), .v (.int .i64 a21), .v (.int .i64 a22), .row (.int .u64) a23] k := by kernel_rfl
theorem ok97_12 (m : Nat) : LoopOk Try.prog (0, 0) c97_12 (enter Try.prog (0, 0) H97_12 (E97_12 m)) := by
  refine loop_ok (G := G97) (L := L97_12) (envCons_good good151 (envCons_good good157 (envCons_good good158 envNil_good))) lp97_12 (fun ps k => by unfold E97_12; split <;> rfl) (fun m ps k r h => ?_) m
  have h0 := h
  unfold E97_12 at h
  split at h
  · exact ⟨S97_12 _ _ _ _, by kernel_rfl, (ev97_12 m k _ _ _ _).trans h0⟩
  · cases h
noncomputable def L97 : LEnv Bool := (loopCons 4 (enter Try.prog (0, 0) H97_4 (E97_4 fu)) (loopCons 12 (enter Try.prog (0, 0) H97_12 (E97_12 fu)) loopNil))
theorem lq97 : loopsOf c97 = [c97_4, c97_12] := by kernel_rfl
theorem fr97_4 : firstReg c97_4 = some 4 := by kernel_rfl
theorem le97_4 : L97 4 = enter Try.prog (0, 0) H97_4 (E97_4 fu) := by kernel_rfl
theorem fr97_12 : firstReg c97_12 = some 12 := by kernel_rfl
theorem le97_12 : L97 12 = enter Try.prog (0, 0) H97_12 (E97_12 fu) := by kernel_rfl
theorem lm97 : ∀ x ∈ [c97_4, c97_12], ∀ id, firstReg x = some id → LoopOk Try.prog (0, 0) x (L97 id) := (loops_cons fr97_4 le97_4 (ok97_4 fu) (loops_cons fr97_12 le97_12 (ok97_12 fu) loops_nil))
theorem lp97 : ∀ x ∈ loopsOf c97, ∀ id, firstReg x = some id → LoopOk Try.prog (0, 0) x (L97 id) := loops_eq lq97 lm97
noncomputable def R97 (x : Bool) : Res := ⟨[.one (ab x)], [], []⟩
noncomputable def K97 (r : Res) : Option Bool :=
  match r with
  | ⟨[.one (.val (.bool v1))], [], []⟩ => some (v1)
  | _ => none
noncomputable def E97 : Fun2 := fun args bs rs =>
  match args, bs, rs with
  | [.s1 (.agg [.val (.int .i64 a1), .sl 0])], [], [⟨145, (.int .u64), a2, .ro⟩] => some ⟨Bool, I.isLat a1 a2, R97⟩
  | _, _, _ => none
theorem ev97 (a1 : Int) (a2 : List Int) : evF Try.prog G97 L97 (0, 0) Try.f97 c97 [.s1 (.agg [ai a1, .sl 0])] [] [⟨145, (.int .u64), a2, .ro⟩] K97 = I.isLat a1 a2 := by kernel_rfl
theorem good97 : Vm.Good Try.prog 97 E97 := by
  refine evF_good (G := G97) (c := c97) (envCons_good good151 (envCons_good good157 (envCons_good good158 envNil_good))) Try.func97 (by kernel_rfl) (by kernel_rfl) (0, 0) (fun args bs rs out t h h2 => ?_)
  unfold E97 at h
  split at h
  · injection h with h
    subst h
    exact ⟨rfl, L97, K97, lp97, (fun r t h => by unfold K97 at h; split at h; (injection h with h; subst h; rfl); cases h), (ev97 _ _).trans h2⟩
  · cases h
/-! ### I.Tok_takes -/
noncomputable def G233 : Env := envNil
noncomputable def c233 : Code := bodyOf Try.f233
noncomputable def I.Tok_takes (a1 a2 : Int) : Option Int :=
(bif (decide (a1 ≤ 3)) then
(some 0)
else
(bif (a1 == 11) then
(some 1)
else
(some 2)))
noncomputable def R233 (x : Int) : Res := ⟨[.one (ai x)], [], []⟩
noncomputable def K233 (r : Res) : Option Int :=
  match r with
  | ⟨[.one (.val (.int .i64 v1))], [], []⟩ => some (v1)
  | _ => none
noncomputable def E233 : Fun2 := fun args bs rs =>
  match args, bs, rs with
  | [.s1 (.agg [.val (.int .i64 a1), .val (.int .i64 a2)])], [], [] => some ⟨Int, I.Tok_takes a1 a2, R233⟩
  | _, _, _ => none
theorem ev233 (a1 a2 : Int) : evF Try.prog G233 loopNil (0, 0) Try.f233 c233 [.s1 (.agg [ai a1, ai a2])] [] [] K233 = I.Tok_takes a1 a2 := by kernel_rfl
theorem good233 : Vm.Good Try.prog 233 E233 := by
  refine evF_good (G := G233) (c := c233) envNil_good Try.func233 (by kernel_rfl) (by kernel_rfl) (0, 0) (fun args bs rs out t h h2 => ?_)
  unfold E233 at h
  split at h
  · injection h with h
    subst h
    exact ⟨rfl, loopNil, K233, (by intro x hx; simp [show loopsOf c233 = [] from by kernel_rfl] at hx), (fun r t h => by unfold K233 at h; split at h; (injection h with h; subst h; rfl); cases h), (ev233 _ _).trans h2⟩
  · cases h
/-! ### I.depth -/
noncomputable def G227 : Env := (envCons 151 [] E151 (envCons 233 [] E233 envNil))
noncomputable def c227 : Code := bodyOf Try.f227
noncomputable def c227_5 : Code := (loopsOf c227).getD 0 .skip
noncomputable def I.depth_l0 : Nat → (Int → Int → Int → Option Int) → (Int → Int → Option Int) → Int → Int → Int → Int → (List (Int × Int)) → Option Int
  | 0, _, _, _, _, _, _, _ => none
  | m + 1, e5_0, e5_1, a5, a6, a7, a8, a9 =>
    (bif (decide (a8 < a7)) then
    (bif decide ((0 : Int) ≤ a8 ∧ a8 < (a9.length : Int)) then
    (Option.bind (I.in ((nthI a9 a8 ((0 : Int), (0 : Int))).1) 0 11) fun r11 =>
    (bif (!r11) then
    (e5_0 (-1) a5 a6)
    else
    (bif ((nthI a9 a8 ((0 : Int), (0 : Int))).1 != 0) then
    (bif ((nthI a9 a8 ((0 : Int), (0 : Int))).2 != 0) then
    (e5_0 (-1) a5 a6)
    else
    (Option.bind (I.Tok_takes ((nthI a9 a8 ((0 : Int), (0 : Int))).1) ((nthI a9 a8 ((0 : Int), (0 : Int))).2)) fun r14 =>
    (bif (decide (a5 < r14)) then
    (e5_0 (-1) a5 a6)
    else
    (Option.bind (I.Tok_takes ((nthI a9 a8 ((0 : Int), (0 : Int))).1) ((nthI a9 a8 ((0 : Int), (0 : Int))).2)) fun r16 =>
    (let v18 : Int := (IntKind.wrap .i64 (a5 + (IntKind.wrap .i64 (1 - r16))))
    (I.depth_l0 m e5_0 e5_1 v18 (if v18 > a6 then v18 else a6) a7 (IntKind.wrap .i64 (a8 + 1)) a9))))))
    else
    (Option.bind (I.Tok_takes ((nthI a9 a8 ((0 : Int), (0 : Int))).1) ((nthI a9 a8 ((0 : Int), (0 : Int))).2)) fun r21 =>
    (bif (decide (a5 < r21)) then
    (e5_0 (-1) a5 a6)
    else
    (Option.bind (I.Tok_takes ((nthI a9 a8 ((0 : Int), (0 : Int))).1) ((nthI a9 a8 ((0 : Int), (0 : Int))).2)) fun r23 =>
    (let v25 : Int := (IntKind.wrap .i64 (a5 + (IntKind.wrap .i64 (1 - r23))))
    (I.depth_l0 m e5_0 e5_1 v25 (if v25 > a6 then v25 else a6) a7 (IntKind.wrap .i64 (a8 + 1)) a9))))))))
    else
    none)
    else
    (e5_1 a5 a6))
noncomputable def I.depth (a1 : List (Int × Int)) : Option Int :=
(Option.bind (I.in (a1.length : Int) 1 20) fun r3 =>
(bif (!r3) then
(some (-1))
else
(I.depth_l0 fu (fun y28 y29 y30 =>
(some y28)) (fun y31 y32 =>
(bif (y31 != 1) then
(some (-1))
else
(some y32))) 0 0 (a1.length : Int) 0 a1)))
noncomputable def H227_5 : LoopH := ⟨⟨(hu 3 (hh :: hh :: (hu 6 ((.one (.sl 0)) :: hh :: hh :: (hu 35 []))))), [], [(260, (.pair (.int .i64) (.int .i64)), .ro)]⟩, [0, 1, 2, 5, 6, 7, 8, 9, 10, 14, 15, 16, 17, 18, 19, 20, 21, 22, 23, 24, 25, 26, 27, 28, 29, 30, 31, 32, 33, 34, 35, 36, 37, 38, 39, 40, 41, 42, 43, 44, 45, 46, 47, 48], [], [0, 1, 5, 6, 7, 8, 9, 10, 11, 12, 13, 14, 15, 16, 17, 18, 19, 20, 21, 22, 23, 24, 25, 26, 27, 28, 29, 30, 31, 32, 33, 34, 35, 36, 37, 38, 39, 40, 41, 42, 43, 44, 45, 46, 47, 48]⟩
noncomputable def E227_5 (m : Nat) (ps : List Prm) (k : Kont Int) : Option Int :=
  match ps with
  | [.v (.int .i64 a5), .v (.int .i64 a6), .v (.int .i64 a7), .v (.int .i64 a8), .row (.pair (.int .i64) (.int .i64)) a9] => I.depth_l0 m (fun z38 z39 z40 => k .ret (⟨(vu 2 ((vi z38) :: (vi z39) :: (vi z40) :: (vu 44 []))), [], []⟩ : St)) (fun z41 z42 => k (.exit 0) (⟨(vu 3 ((vi z41) :: (vi z42) :: (vu 44 []))), [], []⟩ : St)) a5 a6 a7 a8 a9
  | _ => none
noncomputable def S227_5 (a5 a6 a7 a8 : Int) (a9 : List (Int × Int)) : St := (⟨(vu 3 ((vi a5) :: (vi a6) :: (vu 6 ((vl 0) :: (vi a7) :: (vi a8) :: (vu 35 []))))), [], [⟨260, (.pair (.int .i64) (.int .i64)), a9, .ro⟩]⟩ : St)
theorem ev227_5 (m : Nat) (k : Kont Int) (a5 a6 a7 a8 : Int) (a9 : List (Int × Int)) : evC Try.prog G227 loopNil c227_5 (S227_5 a5 a6 a7 a8 a9) (turn Try.prog (0, 0) H227_5 (E227_5 m) k) = E227_5 (m + 1) [.v (.int .i64 a5), .v (.int .i64 a6), .v (.int .i64 a7), .v (.int .i64 a8), .row (.pair (.int .i64) (.int .i64)) a9] k := by kernel_rfl
theorem ok227_5 (m : Nat) : LoopOk Try.prog (0, 0) c227_5 (enter Try.prog (0, 0) H227_5 (E227_5 m)) := by
  refine loop_ok (G := G227) (L := loopNil) (envCons_good good151 (envCons_good good233 envNil_good)) (by intro x hx; simp [show loopsOf c227_5 = [] from by kernel_rfl] at hx) (fun ps k => by unfold E227_5; split <;> rfl) (fun m ps k r h => ?_) m
  have h0 := h
  unfold E227_5 at h
  split at h
  · exact ⟨S227_5 _ _ _ _ _, by kernel_rfl, (ev227_5 m k _ _ _ _ _).trans h0⟩
  · cases h
noncomputable def L227 : LEnv Int := (loopCons 5 (enter Try.prog (0, 0) H227_5 (E227_5 fu)) loopNil)
theorem lq227 : loopsOf c227 = [c227_5] := by kernel_rfl
theorem fr227_5 : firstReg c227_5 = some 5 := by kernel_rfl
theorem le227_5 : L227 5 = enter Try.prog (0, 0) H227_5 (E227_5 fu) := by kernel_rfl
theorem lm227 : ∀ x ∈ [c227_5], ∀ id, firstReg x = some id → LoopOk Try.prog (0, 0) x (L227 id) := (loops_cons fr227_5 le227_5 (ok227_5 fu) loops_nil)
theorem lp227 : ∀ x ∈ loopsOf c227, ∀ id, firstReg x = some id → LoopOk Try.prog (0, 0) x (L227 id) := loops_eq lq227 lm227
noncomputable def R227 (x : Int) : Res := ⟨[.one (ai x)], [], []⟩
noncomputable def K227 (r : Res) : Option Int :=
  match r with
  | ⟨[.one (.val (.int .i64 v1))], [], []⟩ => some (v1)
  | _ => none
noncomputable def E227 : Fun2 := fun args bs rs =>
  match args, bs, rs with
  | [.s1 (.one (.sl 0))], [], [⟨260, (.pair (.int .i64) (.int .i64)), a1, .ro⟩] => some ⟨Int, I.depth a1, R227⟩
  | _, _, _ => none
theorem ev227 (a1 : List (Int × Int)) : evF Try.prog G227 L227 (0, 0) Try.f227 c227 [vl 0] [] [⟨260, (.pair (.int .i64) (.int .i64)), a1, .ro⟩] K227 = I.depth a1 := by kernel_rfl
theorem good227 : Vm.Good Try.prog 227 E227 := by
  refine evF_good (G := G227) (c := c227) (envCons_good good151 (envCons_good good233 envNil_good)) Try.func227 (by kernel_rfl) (by kernel_rfl) (0, 0) (fun args bs rs out t h h2 => ?_)
  unfold E227 at h
  split at h
  · injection h with h
    subst h
    exact ⟨rfl, L227, K227, lp227, (fun r t h => by unfold K227 at h; split at h; (injection h with h; subst h; rfl); cases h), (ev227 _).trans h2⟩
  · cases h
/-! ### I.isExpr -/
noncomputable def G208 : Env := (envCons 227 [] E227 envNil)
noncomputable def c208 : Code := bodyOf Try.f208
noncomputable def I.isExpr (a1 : List (Int × Int)) : Option Bool :=
(Option.bind (I.depth a1) fun r2 =>
(some (decide (0 < r2))))
noncomputable def R208 (x : Bool) : Res := ⟨[.one (ab x)], [], []⟩
noncomputable def K208 (r : Res) : Option Bool :=
  match r with
  | ⟨[.one (.val (.bool v1))], [], []⟩ => some (v1)
  | _ => none
noncomputable def E208 : Fun2 := fun args bs rs =>
  match args, bs, rs with
  | [.s1 (.one (.sl 0))], [], [⟨260, (.pair (.int .i64) (.int .i64)), a1, .ro⟩] => some ⟨Bool, I.isExpr a1, R208⟩
  | _, _, _ => none
theorem ev208 (a1 : List (Int × Int)) : evF Try.prog G208 loopNil (0, 0) Try.f208 c208 [vl 0] [] [⟨260, (.pair (.int .i64) (.int .i64)), a1, .ro⟩] K208 = I.isExpr a1 := by kernel_rfl
theorem good208 : Vm.Good Try.prog 208 E208 := by
  refine evF_good (G := G208) (c := c208) (envCons_good good227 envNil_good) Try.func208 (by kernel_rfl) (by kernel_rfl) (0, 0) (fun args bs rs out t h h2 => ?_)
  unfold E208 at h
  split at h
  · injection h with h
    subst h
    exact ⟨rfl, loopNil, K208, (by intro x hx; simp [show loopsOf c208 = [] from by kernel_rfl] at hx), (fun r t h => by unfold K208 at h; split at h; (injection h with h; subst h; rfl); cases h), (ev208 _).trans h2⟩
  · cases h
/-! ### I.isWinDef -/
noncomputable def G209 : Env := (envCons 151 [] E151 envNil)
noncomputable def c209 : Code := bodyOf Try.f209
noncomputable def I.isWinDef (a1 a2 a3 : Int) : Option Bool :=
(Option.bind (I.in a2 1 100) fun r4 =>
(bif (!r4) then
(some false)
else
(bif (a1 == 1) then
(some (a3 == 0))
else
(bif (a1 == 3) then
(some (a3 == 0))
else
(bif (a1 == 2) then
(Option.bind (I.in a3 1 a2) fun r5 =>
(bif r5 then
(some (decide (a2 ≤ (IntKind.wrap .i64 (8 * a3)))))
else
(some false)))
else
(some false))))))
noncomputable def R209 (x : Bool) : Res := ⟨[.one (ab x)], [], []⟩
noncomputable def K209 (r : Res) : Option Bool :=
  match r with
  | ⟨[.one (.val (.bool v1))], [], []⟩ => some (v1)
  | _ => none
noncomputable def E209 : Fun2 := fun args bs rs =>
  match args, bs, rs with
  | [.s1 (.agg [.val (.int .i64 a1), .val (.int .i64 a2), .val (.int .i64 a3)])], [], [] => some ⟨Bool, I.isWinDef a1 a2 a3, R209⟩
  | _, _, _ => none
theorem ev209 (a1 a2 a3 : Int) : evF Try.prog G209 loopNil (0, 0) Try.f209 c209 [.s1 (.agg [ai a1, ai a2, ai a3])] [] [] K209 = I.isWinDef a1 a2 a3 := by kernel_rfl
theorem good209 : Vm.Good Try.prog 209 E209 := by
  refine evF_good (G := G209) (c := c209) (envCons_good good151 envNil_good) Try.func209 (by kernel_rfl) (by kernel_rfl) (0, 0) (fun args bs rs out t h h2 => ?_)
  unfold E209 at h
  split at h
  · injection h with h
    subst h
    exact ⟨rfl, loopNil, K209, (by intro x hx; simp [show loopsOf c209 = [] from by kernel_rfl] at hx), (fun r t h => by unfold K209 at h; split at h; (injection h with h; subst h; rfl); cases h), (ev209 _ _ _).trans h2⟩
  · cases h
/-! ### I.isAggKind -/
noncomputable def G210 : Env := (envCons 151 [] E151 envNil)
noncomputable def c210 : Code := bodyOf Try.f210
noncomputable def I.isAggKind (a1 a2 : Int) : Option Bool :=
(bif (a1 == 6) then
(Option.bind (I.in a2 1 4) fun r3 =>
(some r3))
else
(Option.bind (I.in a1 1 5) fun r4 =>
(bif r4 then
(some (a2 == 0))
else
(some false))))
noncomputable def R210 (x : Bool) : Res := ⟨[.one (ab x)], [], []⟩
noncomputable def K210 (r : Res) : Option Bool :=
  match r with
  | ⟨[.one (.val (.bool v1))], [], []⟩ => some (v1)
  | _ => none
noncomputable def E210 : Fun2 := fun args bs rs =>
  match args, bs, rs with
  | [.s1 (.one (.val (.int .i64 a1))), .s1 (.one (.val (.int .i64 a2)))], [], [] => some ⟨Bool, I.isAggKind a1 a2, R210⟩
  | _, _, _ => none
theorem ev210 (a1 a2 : Int) : evF Try.prog G210 loopNil (0, 0) Try.f210 c210 [vi a1, vi a2] [] [] K210 = I.isAggKind a1 a2 := by kernel_rfl
theorem good210 : Vm.Good Try.prog 210 E210 := by
  refine evF_good (G := G210) (c := c210) (envCons_good good151 envNil_good) Try.func210 (by kernel_rfl) (by kernel_rfl) (0, 0) (fun args bs rs out t h h2 => ?_)
  unfold E210 at h
  split at h
  · injection h with h
    subst h
    exact ⟨rfl, loopNil, K210, (by intro x hx; simp [show loopsOf c210 = [] from by kernel_rfl] at hx), (fun r t h => by unfold K210 at h; split at h; (injection h with h; subst h; rfl); cases h), (ev210 _ _).trans h2⟩
  · cases h
/-! ### I.isQuery -/
noncomputable def G185 : Env := (envCons 208 [] E208 (envCons 209 [] E209 (envCons 210 [] E210 envNil)))
noncomputable def c185 : Code := bodyOf Try.f185
noncomputable def I.isQuery (a1 a2 a3 a4 a5 : Int) (a6 a7 : List (Int × Int)) : Option Bool :=
(Option.bind (I.isExpr a6) fun r8 =>
(bif r8 then
(Option.bind (I.isExpr a7) fun r9 =>
(bif r9 then
(Option.bind (I.isWinDef a1 a2 a3) fun r10 =>
(bif r10 then
(Option.bind (I.isAggKind a4 a5) fun r11 =>
(some r11))
else
(some false)))
else
(some false)))
else
(some false)))
noncomputable def R185 (x : Bool) : Res := ⟨[.one (ab x)], [], []⟩
noncomputable def K185 (r : Res) : Option Bool :=
  match r with
  | ⟨[.one (.val (.bool v1))], [], []⟩ => some (v1)
  | _ => none
noncomputable def E185 : Fun2 := fun args bs rs =>
  match args, bs, rs with
  | [.s1 (.agg [.sl 0, .sl 1, .val (.int .i64 a1), .val (.int .i64 a2), .val (.int .i64 a3), .val (.int .i64 a4), .val (.int .i64 a5)])], [], [⟨260, (.pair (.int .i64) (.int .i64)), a6, .ro⟩, ⟨260, (.pair (.int .i64) (.int .i64)), a7, .ro⟩] => some ⟨Bool, I.isQuery a1 a2 a3 a4 a5 a6 a7, R185⟩
  | _, _, _ => none
theorem ev185 (a1 a2 a3 a4 a5 : Int) (a6 a7 : List (Int × Int)) : evF Try.prog G185 loopNil (0, 0) Try.f185 c185 [.s1 (.agg [.sl 0, .sl 1, ai a1, ai a2, ai a3, ai a4, ai a5])] [] [⟨260, (.pair (.int .i64) (.int .i64)), a6, .ro⟩, ⟨260, (.pair (.int .i64) (.int .i64)), a7, .ro⟩] K185 = I.isQuery a1 a2 a3 a4 a5 a6 a7 := by kernel_rfl
theorem good185 : Vm.Good Try.prog 185 E185 := by
  refine evF_good (G := G185) (c := c185) (envCons_good good208 (envCons_good good209 (envCons_good good210 envNil_good))) Try.func185 (by kernel_rfl) (by kernel_rfl) (0, 0) (fun args bs rs out t h h2 => ?_)
  unfold E185 at h
  split at h
  · injection h with h
    subst h
    exact ⟨rfl, loopNil, K185, (by intro x hx; simp [show loopsOf c185 = [] from by kernel_rfl] at hx), (fun r t h => by unfold K185 at h; split at h; (injection h with h; subst h; rfl); cases h), (ev185 _ _ _ _ _ _ _).trans h2⟩
  · cases h
/-! ### I.Lat_has -/
noncomputable def G143 : Env := (envCons 151 [] E151 envNil)
noncomputable def c143 : Code := bodyOf Try.f143
noncomputable def I.Lat_has (a1 a2 : Int) (a3 : List Int) : Option Bool :=
(Option.bind (I.in a2 0 (IntKind.wrap .i64 (a1 - 1))) fun r5 =>
(some r5))
noncomputable def R143 (x : Bool) : Res := ⟨[.one (ab x)], [], []⟩
noncomputable def K143 (r : Res) : Option Bool :=
  match r with
  | ⟨[.one (.val (.bool v1))], [], []⟩ => some (v1)
  | _ => none
noncomputable def E143 : Fun2 := fun args bs rs =>
  match args, bs, rs with
  | [.s1 (.agg [.val (.int .i64 a1), .sl 0]), .s1 (.one (.val (.int .i64 a2)))], [], [⟨145, (.int .u64), a3, .ro⟩] => some ⟨Bool, I.Lat_has a1 a2 a3, R143⟩
  | _, _, _ => none
theorem ev143 (a1 a2 : Int) (a3 : List Int) : evF Try.prog G143 loopNil (0, 0) Try.f143 c143 [.s1 (.agg [ai a1, .sl 0]), vi a2] [] [⟨145, (.int .u64), a3, .ro⟩] K143 = I.Lat_has a1 a2 a3 := by kernel_rfl
theorem good143 : Vm.Good Try.prog 143 E143 := by
  refine evF_good (G := G143) (c := c143) (envCons_good good151 envNil_good) Try.func143 (by kernel_rfl) (by kernel_rfl) (0, 0) (fun args bs rs out t h h2 => ?_)
  unfold E143 at h
  split at h
  · injection h with h
    subst h
    exact ⟨rfl, loopNil, K143, (by intro x hx; simp [show loopsOf c143 = [] from by kernel_rfl] at hx), (fun r t h => by unfold K143 at h; split at h; (injection h with h; subst h; rfl); cases h), (ev143 _ _ _).trans h2⟩
  · cases h
/-! ### I.isCap -/
noncomputable def G150 : Env := (envCons 151 [] E151 envNil)
noncomputable def c150 : Code := bodyOf Try.f150
noncomputable def I.isCap (a1 : Int) : Option Bool :=
(Option.bind (I.in a1 1 50) fun r2 =>
(some r2))
noncomputable def R150 (x : Bool) : Res := ⟨[.one (ab x)], [], []⟩
noncomputable def K150 (r : Res) : Option Bool :=
  match r with
  | ⟨[.one (.val (.bool v1))], [], []⟩ => some (v1)
  | _ => none
noncomputable def E150 : Fun2 := fun args bs rs =>
  match args, bs, rs with
  | [.s1 (.one (.val (.int .i64 a1)))], [], [] => some ⟨Bool, I.isCap a1, R150⟩
  | _, _, _ => none
theorem ev150 (a1 : Int) : evF Try.prog G150 loopNil (0, 0) Try.f150 c150 [vi a1] [] [] K150 = I.isCap a1 := by kernel_rfl
theorem good150 : Vm.Good Try.prog 150 E150 := by
  refine evF_good (G := G150) (c := c150) (envCons_good good151 envNil_good) Try.func150 (by kernel_rfl) (by kernel_rfl) (0, 0) (fun args bs rs out t h h2 => ?_)
  unfold E150 at h
  split at h
  · injection h with h
    subst h
    exact ⟨rfl, loopNil, K150, (by intro x hx; simp [show loopsOf c150 = [] from by kernel_rfl] at hx), (fun r t h => by unfold K150 at h; split at h; (injection h with h; subst h; rfl); cases h), (ev150 _).trans h2⟩
  · cases h
/-! ### I.isConf -/
noncomputable def G133 : Env := (envCons 97 [] E97 (envCons 151 [] E151 (envCons 185 [] E185 (envCons 143 [] E143 (envCons 150 [] E150 envNil)))))
noncomputable def c133 : Code := bodyOf Try.f133
noncomputable def c133_4 : Code := (loopsOf c133).getD 0 .skip
noncomputable def c133_10 : Code := (loopsOf c133).getD 1 .skip
noncomputable def c133_16 : Code := (loopsOf c133).getD 2 .skip
noncomputable def I.isConf_l0 : Nat → (Bool → Int → Int → Int → List Int → (List (List (Int × Int) × List (Int × Int) × (Int × Int × Int) × Int × Int)) → (List (Int × Int × Int)) → (List (Int × Int × Int × Int × Int)) → Option Bool) → (Int → Int → Int → List Int → (List (List (Int × Int) × List (Int × Int) × (Int × Int × Int) × Int × Int)) → (List (Int × Int × Int)) → (List (Int × Int × Int × Int × Int)) → Option Bool) → Int → Int → Int → Int → Int → (List (List (Int × Int) × List (Int × Int) × (Int × Int × Int) × Int × Int)) → List Int → (List (Int × Int × Int)) → (List (Int × Int × Int × Int × Int)) → Option Bool
  | 0, _, _, _, _, _, _, _, _, _, _, _ => none
  | m + 1, e4_0, e4_1, a18, a19, a20, a21, a22, a23, a24, a25, a26 =>
    (bif (decide (a19 < a18)) then
    (bif decide ((0 : Int) ≤ a19 ∧ a19 < (a23.length : Int)) then
    (Option.bind (I.isQuery ((nthI a23 a19 ([], ([], (((0 : Int), ((0 : Int), (0 : Int))), ((0 : Int), (0 : Int)))))).2.2.1.1) ((nthI a23 a19 ([], ([], (((0 : Int), ((0 : Int), (0 : Int))), ((0 : Int), (0 : Int)))))).2.2.1.2.1) ((nthI a23 a19 ([], ([], (((0 : Int), ((0 : Int), (0 : Int))), ((0 : Int), (0 : Int)))))).2.2.1.2.2) ((nthI a23 a19 ([], ([], (((0 : Int), ((0 : Int), (0 : Int))), ((0 : Int), (0 : Int)))))).2.2.2.1) ((nthI a23 a19 ([], ([], (((0 : Int), ((0 : Int), (0 : Int))), ((0 : Int), (0 : Int)))))).2.2.2.2) ((nthI a23 a19 ([], ([], (((0 : Int), ((0 : Int), (0 : Int))), ((0 : Int), (0 : Int)))))).1) ((nthI a23 a19 ([], ([], (((0 : Int), ((0 : Int), (0 : Int))), ((0 : Int), (0 : Int)))))).2.1)) fun r28 =>
    (bif (!r28) then
    (e4_0 false a20 a21 a22 a24 a23 a25 a26)
    else
    (I.isConf_l0 m e4_0 e4_1 a18 (IntKind.wrap .i64 (a19 + 1)) a20 a21 a22 a23 a24 a25 a26)))
    else
    none)
    else
    (e4_1 a20 a21 a22 a24 a23 a25 a26))
noncomputable def I.isConf_l1 : Nat → (Bool → Int → Int → Int → List Int → (List (List (Int × Int) × List (Int × Int) × (Int × Int × Int) × Int × Int)) → (List (Int × Int × Int)) → (List (Int × Int × Int × Int × Int)) → Option Bool) → (Int → Int → Int → List Int → (List (List (Int × Int) × List (Int × Int) × (Int × Int × Int) × Int × Int)) → (List (Int × Int × Int)) → (List (Int × Int × Int × Int × Int)) → Option Bool) → Int → Int → Int → Int → Int → (List (Int × Int × Int)) → List Int → (List (List (Int × Int) × List (Int × Int) × (Int × Int × Int) × Int × Int)) → (List (Int × Int × Int × Int × Int)) → Option Bool
  | 0, _, _, _, _, _, _, _, _, _, _, _ => none
  | m + 1, e10_0, e10_1, a46, a47, a48, a49, a50, a51, a52, a53, a54 =>
    (bif (decide (a47 < a46)) then
    (bif decide ((0 : Int) ≤ a47 ∧ a47 < (a51.length : Int)) then
    (Option.bind (I.Lat_has a48 ((nthI a51 a47 ((0 : Int), ((0 : Int), (0 : Int)))).1) a52) fun r56 =>
    (bif (!r56) then
    (e10_0 false a48 a49 a50 a52 a53 a51 a54)
    else
    (Option.bind (I.isCap ((nthI a51 a47 ((0 : Int), ((0 : Int), (0 : Int)))).2.1)) fun r57 =>
    (bif (!r57) then
    (e10_0 false a48 a49 a50 a52 a53 a51 a54)
    else
    (Option.bind (I.isCap ((nthI a51 a47 ((0 : Int), ((0 : Int), (0 : Int)))).2.2)) fun r58 =>
    (bif (!r58) then
    (e10_0 false a48 a49 a50 a52 a53 a51 a54)
    else
    (I.isConf_l1 m e10_0 e10_1 a46 (IntKind.wrap .i64 (a47 + 1)) a48 a49 a50 a51 a52 a53 a54)))))))
    else
    none)
    else
    (e10_1 a48 a49 a50 a52 a53 a51 a54))
noncomputable def I.isConf_l2 : Nat → (Bool → Option Bool) → (Option Bool) → Int → Int → Int → Int → Int → (List (Int × Int × Int × Int × Int)) → List Int → (List (List (Int × Int) × List (Int × Int) × (Int × Int × Int) × Int × Int)) → (List (Int × Int × Int)) → Option Bool
  | 0, _, _, _, _, _, _, _, _, _, _, _ => none
  | m + 1, e16_0, e16_1, a76, a77, a78, a79, a80, a81, a82, a83, a84 =>
    (bif (decide (a77 < a76)) then
    (bif decide ((0 : Int) ≤ a77 ∧ a77 < (a81.length : Int)) then
    (Option.bind (I.in ((nthI a81 a77 ((0 : Int), ((0 : Int), ((0 : Int), ((0 : Int), (0 : Int)))))).1) 0 (IntKind.wrap .i64 ((a83.length : Int) - 1))) fun r88 =>
    (bif (!r88) then
    (e16_0 false)
    else
    (Option.bind (I.Lat_has a78 ((nthI a81 a77 ((0 : Int), ((0 : Int), ((0 : Int), ((0 : Int), (0 : Int)))))).2.1) a82) fun r89 =>
    (bif (!r89) then
    (e16_0 false)
    else
    (Option.bind (I.Lat_has a78 ((nthI a81 a77 ((0 : Int), ((0 : Int), ((0 : Int), ((0 : Int), (0 : Int)))))).2.2.1) a82) fun r90 =>
    (bif (!r90) then
    (e16_0 false)
    else
    (Option.bind (I.in ((nthI a81 a77 ((0 : Int), ((0 : Int), ((0 : Int), ((0 : Int), (0 : Int)))))).2.2.2.1) 1 1000000) fun r91 =>
    (bif (!r91) then
    (e16_0 false)
    else
    (Option.bind (I.in ((nthI a81 a77 ((0 : Int), ((0 : Int), ((0 : Int), ((0 : Int), (0 : Int)))))).2.2.2.2) 0 20) fun r92 =>
    (bif (!r92) then
    (e16_0 false)
    else
    (I.isConf_l2 m e16_0 e16_1 a76 (IntKind.wrap .i64 (a77 + 1)) a78 a79 a80 a81 a82 a83 a84)))))))))))
    else
    none)
    else
    e16_1)
noncomputable def I.isConf (a1 a2 a3 : Int) (a4 : List Int) (a5 : List (List (Int × Int) × List (Int × Int) × (Int × Int × Int) × Int × Int)) (a6 : List (Int × Int × Int)) (a7 : List (Int × Int × Int × Int × Int)) : Option Bool :=
(Option.bind (I.isLat a1 a4) fun r8 =>
(bif (!r8) then
(some false)
else
(Option.bind (I.in a2 1 4) fun r9 =>
(bif (!r9) then
(some false)
else
(Option.bind (I.in a3 1 30) fun r10 =>
(bif (!r10) then
(some false)
else
(Option.bind (I.in (a5.length : Int) 1 4) fun r12 =>
(bif (!r12) then
(some false)
else
(Option.bind (I.in (a6.length : Int) 1 4) fun r14 =>
(bif (!r14) then
(some false)
else
(bif (decide (3 < (a7.length : Int))) then
(some false)
else
(I.isConf_l0 fu (fun y30 y31 y32 y33 y34 y35 y36 y37 =>
(some y30)) (fun y38 y39 y40 y41 y42 y43 y44 =>
(I.isConf_l1 fu (fun y60 y61 y62 y63 y64 y65 y66 y67 =>
(some y60)) (fun y68 y69 y70 y71 y72 y73 y74 =>
(I.isConf_l2 fu (fun y94 =>
(some y94)) (some true) (y74.length : Int) 0 y68 y69 y70 y74 y71 y72 y73)) (y43.length : Int) 0 y38 y39 y40 y43 y41 y42 y44)) (a5.length : Int) 0 a1 a2 a3 a5 a4 a6 a7))))))))))))
noncomputable def H133_4 : LoopH := ⟨⟨((.one (.unk)) :: (.one (.ptr 0 0)) :: (hu 44 ((.one (.sl 0)) :: hh :: hh :: (hu 77 [])))), [(97, [.hole, .sl 1, .hole, .hole, .sl 0, .sl 2, .sl 3])], [(173, (.pair (.sl 260 (.pair (.int .i64) (.int .i64))) (.pair (.sl 260 (.pair (.int .i64) (.int .i64))) (.pair (.pair (.int .i64) (.pair (.int .i64) (.int .i64))) (.pair (.int .i64) (.int .i64))))), .ro), (145, (.int .u64), .ro), (175, (.pair (.int .i64) (.pair (.int .i64) (.int .i64))), .ro), (178, (.pair (.int .i64) (.pair (.int .i64) (.pair (.int .i64) (.pair (.int .i64) (.int .i64))))), .ro)]⟩, [0, 2, 3, 4, 5, 6, 7, 8, 9, 10, 11, 12, 13, 14, 15, 16, 17, 18, 19, 20, 21, 22, 23, 24, 25, 26, 27, 28, 29, 30, 31, 32, 33, 34, 35, 36, 37, 38, 39, 40, 41, 42, 43, 44, 45, 49, 50, 51, 52, 53, 54, 55, 56, 57, 58, 59, 60, 61, 62, 63, 64, 65, 66, 67, 68, 69, 70, 71, 72, 73, 74, 75, 76, 77, 78, 79, 80, 81, 82, 83, 84, 85, 86, 87, 88, 89, 90, 91, 92, 93, 94, 95, 96, 97, 98, 99, 100, 101, 102, 103, 104, 105, 106, 107, 108, 109, 110, 111, 112, 113, 114, 115, 116, 117, 118, 119, 120, 121, 122, 123, 124, 125], [], [0, 3, 4, 5, 6, 7, 8, 9, 10, 11, 12, 13, 14, 15, 16, 17, 18, 19, 20, 21, 22, 23, 24, 25, 26, 27, 28, 29, 30, 31, 32, 33, 34, 35, 36, 37, 38, 39, 40, 41, 42, 43, 44, 45, 46, 47, 48, 49, 50, 51, 52, 53, 54, 55, 56, 57, 58, 59, 60, 61, 62, 63, 64, 65, 66, 67, 68, 69, 70, 71, 72, 73, 74, 75, 76, 77, 78, 79, 80, 81, 82, 83, 84, 85, 86, 87, 88, 89, 90, 91, 92, 93, 94, 95, 96, 97, 98, 99, 100, 101, 102, 103, 104, 105, 106, 107, 108, 109, 110, 111, 112, 113, 114, 115, 116, 117, 118, 119, 120, 121, 122, 123, 124, 125]⟩
noncomputable def E133_4 (m : Nat) (ps : List Prm) (k : Kont Bool) : Option Bool :=
  match ps with
  | [.v (.int .i64 a18), .v (.int .i64 a19), .v (.int .i64 a20), .v (.int .i64 a21), .v (.int .i64 a22), .row (.pair (.sl 260 (.pair (.int .i64) (.int .i64))) (.pair (.sl 260 (.pair (.int .i64) (.int .i64))) (.pair (.pair (.int .i64) (.pair (.int .i64) (.int .i64))) (.pair (.int .i64) (.int .i64))))) a23, .row (.int .u64) a24, .row (.pair (.int .i64) (.pair (.int .i64) (.int .i64))) a25, .row (.pair (.int .i64) (.pair (.int .i64) (.pair (.int .i64) (.pair (.int .i64) (.int .i64))))) a26] => I.isConf_l0 m (fun z126 z127 z128 z129 z130 z131 z132 z133 => k .ret (⟨((.s1 (.one (.unk))) :: (vp 0 0) :: (vb z126) :: (vu 123 [])), [(97, [ai z127, .sl 0, ai z128, ai z129, .sl 1, .sl 2, .sl 3])], [⟨145, (.int .u64), z130, .ro⟩, ⟨173, (.pair (.sl 260 (.pair (.int .i64) (.int .i64))) (.pair (.sl 260 (.pair (.int .i64) (.int .i64))) (.pair (.pair (.int .i64) (.pair (.int .i64) (.int .i64))) (.pair (.int .i64) (.int .i64))))), z131, .ro⟩, ⟨175, (.pair (.int .i64) (.pair (.int .i64) (.int .i64))), z132, .ro⟩, ⟨178, (.pair (.int .i64) (.pair (.int .i64) (.pair (.int .i64) (.pair (.int .i64) (.int .i64))))), z133, .ro⟩]⟩ : St)) (fun z134 z135 z136 z137 z138 z139 z140 => k (.exit 0) (⟨((.s1 (.one (.unk))) :: (vp 0 0) :: (vu 124 [])), [(97, [ai z134, .sl 0, ai z135, ai z136, .sl 1, .sl 2, .sl 3])], [⟨145, (.int .u64), z137, .ro⟩, ⟨173, (.pair (.sl 260 (.pair (.int .i64) (.int .i64))) (.pair (.sl 260 (.pair (.int .i64) (.int .i64))) (.pair (.pair (.int .i64) (.pair (.int .i64) (.int .i64))) (.pair (.int .i64) (.int .i64))))), z138, .ro⟩, ⟨175, (.pair (.int .i64) (.pair (.int .i64) (.int .i64))), z139, .ro⟩, ⟨178, (.pair (.int .i64) (.pair (.int .i64) (.pair (.int .i64) (.pair (.int .i64) (.int .i64))))), z140, .ro⟩]⟩ : St)) a18 a19 a20 a21 a22 a23 a24 a25 a26
  | _ => none
noncomputable def S133_4 (a18 a19 a20 a21 a22 : Int) (a23 : List (List (Int × Int) × List (Int × Int) × (Int × Int × Int) × Int × Int)) (a24 : List Int) (a25 : List (Int × Int × Int)) (a26 : List (Int × Int × Int × Int × Int)) : St := (⟨((.s1 (.one (.unk))) :: (vp 0 0) :: (vu 44 ((vl 0) :: (vi a18) :: (vi a19) :: (vu 77 [])))), [(97, [ai a20, .sl 1, ai a21, ai a22, .sl 0, .sl 2, .sl 3])], [⟨173, (.pair (.sl 260 (.pair (.int .i64) (.int .i64))) (.pair (.sl 260 (.pair (.int .i64) (.int .i64))) (.pair (.pair (.int .i64) (.pair (.int .i64) (.int .i64))) (.pair (.int .i64) (.int .i64))))), a23, .ro⟩, ⟨145, (.int .u64), a24, .ro⟩, ⟨175, (.pair (.int .i64) (.pair (.int .i64) (.int .i64))), a25, .ro⟩, ⟨178, (.pair (.int .i64) (.pair (.int .i64) (.pair (.int .i64) (.pair (.int .i64) (.int .i64))))), a26, .ro⟩]⟩ : St)
theorem ev133_4 (m : Nat) (k : Kont Bool) (a18 a19 a20 a21 a22 : Int) (a23 : List (List (Int × Int) × List (Int × Int) × (Int × Int × Int) × Int × Int)) (a24 : List Int) (a25 : List (Int × Int × Int)) (a26 : List (Int × Int × Int × Int × Int)) : evC Try.prog G133 loopNil c133_4 (S133_4 a18 a19 a20 a21 a22 a23 a24 a25 a26) (turn Try.prog (0, 0) H133_4 (E133_4 m) k) = E133_4 (m + 1) [.v (.int .i64 a18), .v (.int .i64 a19), .v (.int .i64 a20), .v (.int .i64 a21), .v (.int .i64 a22), .row (.pair (.sl 260 (.pair (.int .i64) (.int .i64))) (.pair (.sl 260 (.pair (.int .i64) (.int .i64))) (.pair (.pair (.int .i64) (.pair (.int .i64) (.int .i64))) (.pair (.int .i64) (.int .i64))))) a23, .row (.int .u64) a24, .row (.pair (.int .i64) (.pair (.int .i64) (.int .i64))) a25, .row (.pair (.int .i64) (.pair (.int .i64) (.pair (.int .i64) (.pair (.int .i64) (.int .i64))))) a26] k := by kernel_rfl
theorem ok133_4 (m : Nat) : LoopOk Try.prog (0, 0) c133_4 (enter Try.prog (0, 0) H133_4 (E133_4 m)) := by
  refine loop_ok (G := G133) (L := loopNil) (envCons_good good97 (envCons_good good151 (envCons_good good185 (envCons_good good143 (envCons_good good150 envNil_good))))) (by intro x hx; simp [show loopsOf c133_4 = [] from by kernel_rfl] at hx) (fun ps k => by unfold E133_4; split <;> rfl) (fun m ps k r h => ?_) m
  have h0 := h
  unfold E133_4 at h
  split at h
  · exact ⟨S133_4 _ _ _ _ _ _ _ _ _, by kernel_rfl, (ev133_4 m k _ _ _ _ _ _ _ _ _).trans h0⟩
  · cases h
noncomputable def H133_10 : LoopH := ⟨⟨((.one (.unk)) :: (.one (.ptr 0 0)) :: (hu 55 ((.one (.sl 0)) :: hh :: hh :: (hu 66 [])))), [(97, [.hole, .sl 1, .hole, .hole, .sl 2, .sl 0, .sl 3])], [(175, (.pair (.int .i64) (.pair (.int .i64) (.int .i64))), .ro), (145, (.int .u64), .ro), (173, (.pair (.sl 260 (.pair (.int .i64) (.int .i64))) (.pair (.sl 260 (.pair (.int .i64) (.int .i64))) (.pair (.pair (.int .i64) (.pair (.int .i64) (.int .i64))) (.pair (.int .i64) (.int .i64))))), .ro), (178, (.pair (.int .i64) (.pair (.int .i64) (.pair (.int .i64) (.pair (.int .i64) (.int .i64))))), .ro)]⟩, [0, 2, 3, 4, 5, 6, 7, 8, 9, 10, 11, 12, 13, 14, 15, 16, 17, 18, 19, 20, 21, 22, 23, 24, 25, 26, 27, 28, 29, 30, 31, 32, 33, 34, 35, 36, 37, 38, 39, 40, 41, 42, 43, 44, 45, 46, 47, 48, 49, 50, 51, 52, 53, 54, 55, 56, 60, 61, 62, 63, 64, 65, 66, 67, 68, 69, 70, 71, 72, 73, 74, 75, 76, 77, 78, 79, 80, 81, 82, 83, 84, 85, 86, 87, 88, 89, 90, 91, 92, 93, 94, 95, 96, 97, 98, 99, 100, 101, 102, 103, 104, 105, 106, 107, 108, 109, 110, 111, 112, 113, 114, 115, 116, 117, 118, 119, 120, 121, 122, 123, 124, 125], [], [0, 3, 4, 5, 6, 7, 8, 9, 10, 11, 12, 13, 14, 15, 16, 17, 18, 19, 20, 21, 22, 23, 24, 25, 26, 27, 28, 29, 30, 31, 32, 33, 34, 35, 36, 37, 38, 39, 40, 41, 42, 43, 44, 45, 46, 47, 48, 49, 50, 51, 52, 53, 54, 55, 56, 57, 58, 59, 60, 61, 62, 63, 64, 65, 66, 67, 68, 69, 70, 71, 72, 73, 74, 75, 76, 77, 78, 79, 80, 81, 82, 83, 84, 85, 86, 87, 88, 89, 90, 91, 92, 93, 94, 95, 96, 97, 98, 99, 100, 101, 102, 103, 104, 105, 106, 107, 108, 109, 110, 111, 112, 113, 114, 115, 116, 117, 118, 119, 120, 121, 122, 123, 124, 125]⟩
noncomputable def E133_10 (m : Nat) (ps : List Prm) (k : Kont Bool) : Option Bool :=
  match ps with
  | [.v (.int .i64 a46), .v (.int .i64 a47), .v (.int .i64 a48), .v (.int .i64 a49), .v (.int .i64 a50), .row (.pair (.int .i64) (.pair (.int .i64) (.int .i64))) a51, .row (.int .u64) a52, .row (.pair (.sl 260 (.pair (.int .i64) (.int .i64))) (.pair (.sl 260 (.pair (.int .i64) (.int .i64))) (.pair (.pair (.int .i64) (.pair (.int .i64) (.int .i64))) (.pair (.int .i64) (.int .i64))))) a53, .row (.pair (.int .i64) (.pair (.int .i64) (.pair (.int .i64) (.pair (.int .i64) (.int .i64))))) a54] => I.isConf_l1 m (fun z141 z142 z143 z144 z145 z146 z147 z148 => k .ret (⟨((.s1 (.one (.unk))) :: (vp 0 0) :: (vb z141) :: (vu 123 [])), [(97, [ai z142, .sl 0, ai z143, ai z144, .sl 1, .sl 2, .sl 3])], [⟨145, (.int .u64), z145, .ro⟩, ⟨173, (.pair (.sl 260 (.pair (.int .i64) (.int .i64))) (.pair (.sl 260 (.pair (.int .i64) (.int .i64))) (.pair (.pair (.int .i64) (.pair (.int .i64) (.int .i64))) (.pair (.int .i64) (.int .i64))))), z146, .ro⟩, ⟨175, (.pair (.int .i64) (.pair (.int .i64) (.int .i64))), z147, .ro⟩, ⟨178, (.pair (.int .i64) (.pair (.int .i64) (.pair (.int .i64) (.pair (.int .i64) (.int .i64))))), z148, .ro⟩]⟩ : St)) (fun z149 z150 z151 z152 z153 z154 z155 => k (.exit 2) (⟨((.s1 (.one (.unk))) :: (vp 0 0) :: (vu 124 [])), [(97, [ai z149, .sl 0, ai z150, ai z151, .sl 1, .sl 2, .sl 3])], [⟨145, (.int .u64), z152, .ro⟩, ⟨173, (.pair (.sl 260 (.pair (.int .i64) (.int .i64))) (.pair (.sl 260 (.pair (.int .i64) (.int .i64))) (.pair (.pair (.int .i64) (.pair (.int .i64) (.int .i64))) (.pair (.int .i64) (.int .i64))))), z153, .ro⟩, ⟨175, (.pair (.int .i64) (.pair (.int .i64) (.int .i64))), z154, .ro⟩, ⟨178, (.pair (.int .i64) (.pair (.int .i64) (.pair (.int .i64) (.pair (.int .i64) (.int .i64))))), z155, .ro⟩]⟩ : St)) a46 a47 a48 a49 a50 a51 a52 a53 a54
  | _ => none
noncomputable def S133_10 (a46 a47 a48 a49 a50 : Int) (a51 : List (Int × Int × Int)) (a52 : List Int) (a53 : List (List (Int × Int) × List (Int × Int) × (Int × Int × Int) × Int × Int)) (a54 : List (Int × Int × Int × Int × Int)) : St := (⟨((.s1 (.one (.unk))) :: (vp 0 0) :: (vu 55 ((vl 0) :: (vi a46) :: (vi a47) :: (vu 66 [])))), [(97, [ai a48, .sl 1, ai a49, ai a50, .sl 2, .sl 0, .sl 3])], [⟨175, (.pair (.int .i64) (.pair (.int .i64) (.int .i64))), a51, .ro⟩, ⟨145, (.int .u64), a52, .ro⟩, ⟨173, (.pair (.sl 260 (.pair (.int .i64) (.int .i64))) (.pair (.sl 260 (.pair (.int .i64) (.int .i64))) (.pair (.pair (.int .i64) (.pair (.int .i64) (.int .i64))) (.pair (.int .i64) (.int .i64))))), a53, .ro⟩, ⟨178, (.pair (.int .i64) (.pair (.int .i64) (.pair (.int .i64) (.pair (.int .i64) (.int .i64))))), a54, .ro⟩]⟩ : St)
theorem ev133_10 (m : Nat) (k : Kont Bool) (a46 a47 a48 a49 a50 : Int) (a51 : List (Int × Int × Int)) (a52 : List Int) (a53 : List (List (Int × Int) × List (Int × Int) × (Int × Int × Int) × Int × Int)) (a54 : List (Int × Int × Int × Int × Int)) : evC Try.prog G133 loopNil c133_10 (S133_10 a46 a47 a48 a49 a50 a51 a52 a53 a54) (turn Try.prog (0, 0) H133_10 (E133_10 m) k) = E133_10 (m + 1) [.v (.int .i64 a46), .v (.int .i64 a47), .v (.int .i64 a48), .v (.int .i64 a49), .v (.int .i64 a50), .row (.pair (.int .i64) (.pair (.int .i64) (.int .i64))) a51, .row (.int .u64) a52, .row (.pair (.sl 260 (.pair (.int .i64) (.int .i64))) (.pair (.sl 260 (.pair (.int .i64) (.int .i64))) (.pair (.pair (.int .i64) (.pair (.int .i64) (.int .i64))) (.pair (.int .i64) (.int .i64))))) a53, .row (.pair (.int .i64) (.pair (.int .i64) (.pair (.int .i64) (.pair (.int .i64) (.int .i64))))) a54] k := by kernel_rfl
theorem ok133_10 (m : Nat) : LoopOk Try.prog (0, 0) c133_10 (enter Try.prog (0, 0) H133_10 (E133_10 m)) := by
  refine loop_ok (G := G133) (L := loopNil) (envCons_good good97 (envCons_good good151 (envCons_good good185 (envCons_good good143 (envCons_good good150 envNil_good))))) (by intro x hx; simp [show loopsOf c133_10 = [] from by kernel_rfl] at hx) (fun ps k => by unfold E133_10; split <;> rfl) (fun m ps k r h => ?_) m
  have h0 := h
  unfold E133_10 at h
  split at h
  · exact ⟨S133_10 _ _ _ _ _ _ _ _ _, by kernel_rfl, (ev133_10 m k _ _ _ _ _ _ _ _ _).trans h0⟩
  · cases h
noncomputable def H133_16 : LoopH := ⟨⟨((.one (.unk)) :: (.one (.ptr 0 0)) :: (hu 81 ((.one (.sl 0)) :: hh :: hh :: (hu 40 [])))), [(97, [.hole, .sl 1, .hole, .hole, .sl 2, .sl 3, .sl 0])], [(178, (.pair (.int .i64) (.pair (.int .i64) (.pair (.int .i64) (.pair (.int .i64) (.int .i64))))), .ro), (145, (.int .u64), .ro), (173, (.pair (.sl 260 (.pair (.int .i64) (.int .i64))) (.pair (.sl 260 (.pair (.int .i64) (.int .i64))) (.pair (.pair (.int .i64) (.pair (.int .i64) (.int .i64))) (.pair (.int .i64) (.int .i64))))), .ro), (175, (.pair (.int .i64) (.pair (.int .i64) (.int .i64))), .ro)]⟩, [0, 2, 3, 4, 5, 6, 7, 8, 9, 10, 11, 12, 13, 14, 15, 16, 17, 18, 19, 20, 21, 22, 23, 24, 25, 26, 27, 28, 29, 30, 31, 32, 33, 34, 35, 36, 37, 38, 39, 40, 41, 42, 43, 44, 45, 46, 47, 48, 49, 50, 51, 52, 53, 54, 55, 56, 57, 58, 59, 60, 61, 62, 63, 64, 65, 66, 67, 68, 69, 70, 71, 72, 73, 74, 75, 76, 77, 78, 79, 80, 81, 82, 86, 87, 88, 89, 90, 91, 92, 93, 94, 95, 96, 97, 98, 99, 100, 101, 102, 103, 104, 105, 106, 107, 108, 109, 110, 111, 112, 113, 114, 115, 116, 117, 118, 119, 120, 121, 122, 123, 124, 125], [], [0, 1, 3, 4, 5, 6, 7, 8, 9, 10, 11, 12, 13, 14, 15, 16, 17, 18, 19, 20, 21, 22, 23, 24, 25, 26, 27, 28, 29, 30, 31, 32, 33, 34, 35, 36, 37, 38, 39, 40, 41, 42, 43, 44, 45, 46, 47, 48, 49, 50, 51, 52, 53, 54, 55, 56, 57, 58, 59, 60, 61, 62, 63, 64, 65, 66, 67, 68, 69, 70, 71, 72, 73, 74, 75, 76, 77, 78, 79, 80, 81, 82, 83, 84, 85, 86, 87, 88, 89, 90, 91, 92, 93, 94, 95, 96, 97, 98, 99, 100, 101, 102, 103, 104, 105, 106, 107, 108, 109, 110, 111, 112, 113, 114, 115, 116, 117, 118, 119, 120, 121, 122, 123, 124, 125]⟩
noncomputable def E133_16 (m : Nat) (ps : List Prm) (k : Kont Bool) : Option Bool :=
  match ps with
  | [.v (.int .i64 a76), .v (.int .i64 a77), .v (.int .i64 a78), .v (.int .i64 a79), .v (.int .i64 a80), .row (.pair (.int .i64) (.pair (.int .i64) (.pair (.int .i64) (.pair (.int .i64) (.int .i64))))) a81, .row (.int .u64) a82, .row (.pair (.sl 260 (.pair (.int .i64) (.int .i64))) (.pair (.sl 260 (.pair (.int .i64) (.int .i64))) (.pair (.pair (.int .i64) (.pair (.int .i64) (.int .i64))) (.pair (.int .i64) (.int .i64))))) a83, .row (.pair (.int .i64) (.pair (.int .i64) (.int .i64))) a84] => I.isConf_l2 m (fun z156 => k .ret (⟨(vu 2 ((vb z156) :: (vu 123 []))), [], []⟩ : St)) (k (.exit 4) (⟨(vu 126 []), [], []⟩ : St)) a76 a77 a78 a79 a80 a81 a82 a83 a84
  | _ => none
noncomputable def S133_16 (a76 a77 a78 a79 a80 : Int) (a81 : List (Int × Int × Int × Int × Int)) (a82 : List Int) (a83 : List (List (Int × Int) × List (Int × Int) × (Int × Int × Int) × Int × Int)) (a84 : List (Int × Int × Int)) : St := (⟨((.s1 (.one (.unk))) :: (vp 0 0) :: (vu 81 ((vl 0) :: (vi a76) :: (vi a77) :: (vu 40 [])))), [(97, [ai a78, .sl 1, ai a79, ai a80, .sl 2, .sl 3, .sl 0])], [⟨178, (.pair (.int .i64) (.pair (.int .i64) (.pair (.int .i64) (.pair (.int .i64) (.int .i64))))), a81, .ro⟩, ⟨145, (.int .u64), a82, .ro⟩, ⟨173, (.pair (.sl 260 (.pair (.int .i64) (.int .i64))) (.pair (.sl 260 (.pair (.int .i64) (.int .i64))) (.pair (.pair (.int .i64) (.pair (.int .i64) (.int .i64))) (.pair (.int .i64) (.int .i64))))), a83, .ro⟩, ⟨175, (.pair (.int .i64) (.pair (.int .i64) (.int .i64))), a84, .ro⟩]⟩ : St)
theorem ev133_16 (m : Nat) (k : Kont Bool) (a76 a77 a78 a79 a80 : Int) (a81 : List (Int × Int × Int × Int × Int)) (a82 : List Int) (a83 : List (List (Int × Int) × List (Int × Int) × (Int × Int × Int) × Int × Int)) (a84 : List (Int × Int × Int)) : evC Try.prog G133 loopNil c133_16 (S133_16 a76 a77 a78 a79 a80 a81 a82 a83 a84) (turn Try.prog (0, 0) H133_16 (E133_16 m) k) = E133_16 (m + 1) [.v (.int .i64 a76), .v (.int .i64 a77), .v (.int .i64 a78), .v (.int .i64 a79), .v (.int .i64 a80), .row (.pair (.int .i64) (.pair (.int .i64) (.pair (.int .i64) (.pair (.int .i64) (.int .i64))))) a81, .row (.int .u64) a82, .row (.pair (.sl 260 (.pair (.int .i64) (.int .i64))) (.pair (.sl 260 (.pair (.int .i64) (.int .i64))) (.pair (.pair (.int .i64) (.pair (.int .i64) (.int .i64))) (.pair (.int .i64) (.int .i64))))) a83, .row (.pair (.int .i64) (.pair (.int .i64) (.int .i64))) a84] k := by kernel_rfl
theorem ok133_16 (m : Nat) : LoopOk Try.prog (0, 0) c133_16 (enter Try.prog (0, 0) H133_16 (E133_16 m)) := by
  refine loop_ok (G := G133) (L := loopNil) (envCons_good good97 (envCons_good good151 (envCons_good good185 (envCons_good good143 (envCons_good good150 envNil_good))))) (by intro x hx; simp [show loopsOf c133_16 = [] from by kernel_rfl] at hx) (fun ps k => by unfold E133_16; split <;> rfl) (fun m ps k r h => ?_) m
  have h0 := h
  unfold E133_16 at h
  split at h
  · exact ⟨S133_16 _ _ _ _ _ _ _ _ _, by kernel_rfl, (ev133_16 m k _ _ _ _ _ _ _ _ _).trans h0⟩
  · cases h
noncomputable def L133 : LEnv Bool := (loopCons 4 (enter Try.prog (0, 0) H133_4 (E133_4 fu)) (loopCons 10 (enter Try.prog (0, 0) H133_10 (E133_10 fu)) (loopCons 16 (enter Try.prog (0, 0) H133_16 (E133_16 fu)) loopNil)))
theorem lq133 : loopsOf c133 = [c133_4, c133_10, c133_16] := by kernel_rfl
theorem fr133_4 : firstReg c133_4 = some 4 := by kernel_rfl
theorem le133_4 : L133 4 = enter Try.prog (0, 0) H133_4 (E133_4 fu) := by kernel_rfl
theorem fr133_10 : firstReg c133_10 = some 10 := by kernel_rfl
theorem le133_10 : L133 10 = enter Try.prog (0, 0) H133_10 (E133_10 fu) := by kernel_rfl
theorem fr133_16 : firstReg c133_16 = some 16 := by kernel_rfl
theorem le133_16 : L133 16 = enter Try.prog (0, 0) H133_16 (E133_16 fu) := by kernel_rfl
theorem lm133 : ∀ x ∈ [c133_4, c133_10, c133_16], ∀ id, firstReg x = some id → LoopOk Try.prog (0, 0) x (L133 id) := (loops_cons fr133_4 le133_4 (ok133_4 fu) (loops_cons fr133_10 le133_10 (ok133_10 fu) (loops_cons fr133_16 le133_16 (ok133_16 fu) loops_nil)))
theorem lp133 : ∀ x ∈ loopsOf c133, ∀ id, firstReg x = some id → LoopOk Try.prog (0, 0) x (L133 id) := loops_eq lq133 lm133
noncomputable def R133 (x : Bool) : Res := ⟨[.one (ab x)], [], []⟩
noncomputable def K133 (r : Res) : Option Bool :=
  match r with
  | ⟨[.one (.val (.bool v1))], [], []⟩ => some (v1)
  | _ => none
noncomputable def E133 : Fun2 := fun args bs rs =>
  match args, bs, rs with
  | [.s1 (.agg [.val (.int .i64 a1), .sl 0, .val (.int .i64 a2), .val (.int .i64 a3), .sl 1, .sl 2, .sl 3])], [], [⟨145, (.int .u64), a4, .ro⟩, ⟨173, (.pair (.sl 260 (.pair (.int .i64) (.int .i64))) (.pair (.sl 260 (.pair (.int .i64) (.int .i64))) (.pair (.pair (.int .i64) (.pair (.int .i64) (.int .i64))) (.pair (.int .i64) (.int .i64))))), a5, .ro⟩, ⟨175, (.pair (.int .i64) (.pair (.int .i64) (.int .i64))), a6, .ro⟩, ⟨178, (.pair (.int .i64) (.pair (.int .i64) (.pair (.int .i64) (.pair (.int .i64) (.int .i64))))), a7, .ro⟩] => some ⟨Bool, I.isConf a1 a2 a3 a4 a5 a6 a7, R133⟩
  | _, _, _ => none
theorem ev133 (a1 a2 a3 : Int) (a4 : List Int) (a5 : List (List (Int × Int) × List (Int × Int) × (Int × Int × Int) × Int × Int)) (a6 : List (Int × Int × Int)) (a7 : List (Int × Int × Int × Int × Int)) : evF Try.prog G133 L133 (0, 0) Try.f133 c133 [.s1 (.agg [ai a1, .sl 0, ai a2, ai a3, .sl 1, .sl 2, .sl 3])] [] [⟨145, (.int .u64), a4, .ro⟩, ⟨173, (.pair (.sl 260 (.pair (.int .i64) (.int .i64))) (.pair (.sl 260 (.pair (.int .i64) (.int .i64))) (.pair (.pair (.int .i64) (.pair (.int .i64) (.int .i64))) (.pair (.int .i64) (.int .i64))))), a5, .ro⟩, ⟨175, (.pair (.int .i64) (.pair (.int .i64) (.int .i64))), a6, .ro⟩, ⟨178, (.pair (.int .i64) (.pair (.int .i64) (.pair (.int .i64) (.pair (.int .i64) (.int .i64))))), a7, .ro⟩] K133 = I.isConf a1 a2 a3 a4 a5 a6 a7 := by kernel_rfl
theorem good133 : Vm.Good Try.prog 133 E133 := by
  refine evF_good (G := G133) (c := c133) (envCons_good good97 (envCons_good good151 (envCons_good good185 (envCons_good good143 (envCons_good good150 envNil_good))))) Try.func133 (by kernel_rfl) (by kernel_rfl) (0, 0) (fun args bs rs out t h h2 => ?_)
  unfold E133 at h
  split at h
  · injection h with h
    subst h
    exact ⟨rfl, L133, K133, lp133, (fun r t h => by unfold K133 at h; split at h; (injection h with h; subst h; rfl); cases h), (ev133 _ _ _ _ _ _ _).trans h2⟩
  · cases h
/-! ### I.Conf_sessions -/
noncomputable def G137 : Env := envNil
noncomputable def c137 : Code := bodyOf Try.f137
noncomputable def c137_3 : Code := (loopsOf c137).getD 0 .skip
noncomputable def I.Conf_sessions_l0 : Nat → (List Int → Option (List Int)) → Int → Int → List Int → (List (List (Int × Int) × List (Int × Int) × (Int × Int × Int) × Int × Int)) → Option (List Int)
  | 0, _, _, _, _, _ => none
  | m + 1, e3_0, a9, a10, a11, a12 =>
    (bif (decide (a10 < a9)) then
    (bif decide ((0 : Int) ≤ a10 ∧ a10 < (a12.length : Int)) then
    (let v14 : Bool := ((nthI a12 a10 ([], ([], (((0 : Int), ((0 : Int), (0 : Int))), ((0 : Int), (0 : Int)))))).2.2.1.1 == 3)
    (bif v14 then
    (bif decide ((a11.length + [a10].length) * 8 ≤ 140737488355328) then
    (I.Conf_sessions_l0 m e3_0 a9 (IntKind.wrap .i64 (a10 + 1)) (a11 ++ [a10]) a12)
    else
    none)
    else
    (I.Conf_sessions_l0 m e3_0 a9 (IntKind.wrap .i64 (a10 + 1)) a11 a12)))
    else
    none)
    else
    (e3_0 a11))
noncomputable def I.Conf_sessions (a1 a2 a3 : Int) (a4 : List Int) (a5 : List (List (Int × Int) × List (Int × Int) × (Int × Int × Int) × Int × Int)) (a6 : List (Int × Int × Int)) (a7 : List (Int × Int × Int × Int × Int)) : Option (List Int) :=
(I.Conf_sessions_l0 fu (fun y17 =>
(some y17)) (a5.length : Int) 0 [] a5)
noncomputable def H137_3 : LoopH := ⟨⟨(hu 3 ((.one (.sl 0)) :: (hu 4 ((.one (.sl 1)) :: hh :: hh :: (hu 14 []))))), [], [(3, (.int .i64), .own), (173, (.pair (.sl 260 (.pair (.int .i64) (.int .i64))) (.pair (.sl 260 (.pair (.int .i64) (.int .i64))) (.pair (.pair (.int .i64) (.pair (.int .i64) (.int .i64))) (.pair (.int .i64) (.int .i64))))), .ro)]⟩, [0, 1, 2, 4, 5, 6, 7, 11, 12, 13, 14, 15, 16, 17, 18, 19, 20, 21, 22, 23, 24], [], [0, 1, 4, 5, 6, 7, 8, 9, 10, 11, 12, 13, 14, 15, 16, 17, 18, 19, 20, 21, 22, 23, 24]⟩
noncomputable def E137_3 (m : Nat) (ps : List Prm) (k : Kont (List Int)) : Option (List Int) :=
  match ps with
  | [.v (.int .i64 a9), .v (.int .i64 a10), .row (.int .i64) a11, .row (.pair (.sl 260 (.pair (.int .i64) (.int .i64))) (.pair (.sl 260 (.pair (.int .i64) (.int .i64))) (.pair (.pair (.int .i64) (.pair (.int .i64) (.int .i64))) (.pair (.int .i64) (.int .i64))))) a12] => I.Conf_sessions_l0 m (fun z19 => k (.exit 0) (⟨(vu 3 ((vl 0) :: (vu 21 []))), [], [⟨3, (.int .i64), z19, .own⟩]⟩ : St)) a9 a10 a11 a12
  | _ => none
noncomputable def S137_3 (a9 a10 : Int) (a11 : List Int) (a12 : List (List (Int × Int) × List (Int × Int) × (Int × Int × Int) × Int × Int)) : St := (⟨(vu 3 ((vl 0) :: (vu 4 ((vl 1) :: (vi a9) :: (vi a10) :: (vu 14 []))))), [], [⟨3, (.int .i64), a11, .own⟩, ⟨173, (.pair (.sl 260 (.pair (.int .i64) (.int .i64))) (.pair (.sl 260 (.pair (.int .i64) (.int .i64))) (.pair (.pair (.int .i64) (.pair (.int .i64) (.int .i64))) (.pair (.int .i64) (.int .i64))))), a12, .ro⟩]⟩ : St)
theorem ev137_3 (m : Nat) (k : Kont (List Int)) (a9 a10 : Int) (a11 : List Int) (a12 : List (List (Int × Int) × List (Int × Int) × (Int × Int × Int) × Int × Int)) : evC Try.prog G137 loopNil c137_3 (S137_3 a9 a10 a11 a12) (turn Try.prog (0, 0) H137_3 (E137_3 m) k) = E137_3 (m + 1) [.v (.int .i64 a9), .v (.int .i64 a10), .row (.int .i64) a11, .row (.pair (.sl 260 (.pair (.int .i64) (.int .i64))) (.pair (.sl 260 (.pair (.int .i64) (.int .i64))) (.pair (.pair (.int .i64) (.pair (.int .i64) (.int .i64))) (.pair (.int .i64) (.int .i64))))) a12] k := by kernel_rfl
theorem ok137_3 (m : Nat) : LoopOk Try.prog (0, 0) c137_3 (enter Try.prog (0, 0) H137_3 (E137_3 m)) := by
  refine loop_ok (G := G137) (L := loopNil) envNil_good (by intro x hx; simp [show loopsOf c137_3 = [] from by kernel_rfl] at hx) (fun ps k => by unfold E137_3; split <;> rfl) (fun m ps k r h => ?_) m
  have h0 := h
  unfold E137_3 at h
  split at h
  · exact ⟨S137_3 _ _ _ _, by kernel_rfl, (ev137_3 m k _ _ _ _).trans h0⟩
  · cases h
noncomputable def L137 : LEnv (List Int) := (loopCons 3 (enter Try.prog (0, 0) H137_3 (E137_3 fu)) loopNil)
theorem lq137 : loopsOf c137 = [c137_3] := by kernel_rfl
theorem fr137_3 : firstReg c137_3 = some 3 := by kernel_rfl
theorem le137_3 : L137 3 = enter Try.prog (0, 0) H137_3 (E137_3 fu) := by kernel_rfl
theorem lm137 : ∀ x ∈ [c137_3], ∀ id, firstReg x = some id → LoopOk Try.prog (0, 0) x (L137 id) := (loops_cons fr137_3 le137_3 (ok137_3 fu) loops_nil)
theorem lp137 : ∀ x ∈ loopsOf c137, ∀ id, firstReg x = some id → LoopOk Try.prog (0, 0) x (L137 id) := loops_eq lq137 lm137
noncomputable def R137 (x : List Int) : Res := ⟨[.one (.sl 0)], [], [⟨3, (.int .i64), x, .own⟩]⟩
noncomputable def K137 (r : Res) : Option (List Int) :=
  match r with
  | ⟨[.one (.sl 0)], [], [⟨3, (.int .i64), v1, .own⟩]⟩ => some (v1)
  | _ => none
noncomputable def E137 : Fun2 := fun args bs rs =>
  match args, bs, rs with
  | [.s1 (.agg [.val (.int .i64 a1), .sl 0, .val (.int .i64 a2), .val (.int .i64 a3), .sl 1, .sl 2, .sl 3])], [], [⟨145, (.int .u64), a4, .ro⟩, ⟨173, (.pair (.sl 260 (.pair (.int .i64) (.int .i64))) (.pair (.sl 260 (.pair (.int .i64) (.int .i64))) (.pair (.pair (.int .i64) (.pair (.int .i64) (.int .i64))) (.pair (.int .i64) (.int .i64))))), a5, .ro⟩, ⟨175, (.pair (.int .i64) (.pair (.int .i64) (.int .i64))), a6, .ro⟩, ⟨178, (.pair (.int .i64) (.pair (.int .i64) (.pair (.int .i64) (.pair (.int .i64) (.int .i64))))), a7, .ro⟩] => some ⟨List Int, I.Conf_sessions a1 a2 a3 a4 a5 a6 a7, R137⟩
  | _, _, _ => none
theorem ev137 (a1 a2 a3 : Int) (a4 : List Int) (a5 : List (List (Int × Int) × List (Int × Int) × (Int × Int × Int) × Int × Int)) (a6 : List (Int × Int × Int)) (a7 : List (Int × Int × Int × Int × Int)) : evF Try.prog G137 L137 (0, 0) Try.f137 c137 [.s1 (.agg [ai a1, .sl 0, ai a2, ai a3, .sl 1, .sl 2, .sl 3])] [] [⟨145, (.int .u64), a4, .ro⟩, ⟨173, (.pair (.sl 260 (.pair (.int .i64) (.int .i64))) (.pair (.sl 260 (.pair (.int .i64) (.int .i64))) (.pair (.pair (.int .i64) (.pair (.int .i64) (.int .i64))) (.pair (.int .i64) (.int .i64))))), a5, .ro⟩, ⟨175, (.pair (.int .i64) (.pair (.int .i64) (.int .i64))), a6, .ro⟩, ⟨178, (.pair (.int .i64) (.pair (.int .i64) (.pair (.int .i64) (.pair (.int .i64) (.int .i64))))), a7, .ro⟩] K137 = I.Conf_sessions a1 a2 a3 a4 a5 a6 a7 := by kernel_rfl
theorem good137 : Vm.Good Try.prog 137 E137 := by
  refine evF_good (G := G137) (c := c137) envNil_good Try.func137 (by kernel_rfl) (by kernel_rfl) (0, 0) (fun args bs rs out t h h2 => ?_)
  unfold E137 at h
  split at h
  · injection h with h
    subst h
    exact ⟨rfl, L137, K137, lp137, (fun r t h => by unfold K137 at h; split at h; (injection h with h; subst h; rfl); cases h), (ev137 _ _ _ _ _ _ _).trans h2⟩
  · cases h
end Go.Proofs.Ytipekionggdicaa.Run
