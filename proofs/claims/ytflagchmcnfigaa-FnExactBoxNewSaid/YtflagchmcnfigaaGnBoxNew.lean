import Derived.Test.YtflagchmcnfigaaVmU
import Derived.Test.YtflagchmcnfigaaProg
namespace Go.Proofs.Ytflagchmcnfigaa.Run
open Go Go.RowKit Go.Proofs.YtflagchmcnfigaaW.PrintWords Go.Proofs.Ytflagchmcnfigaa.Vm
set_option linter.unusedVariables false
set_option maxRecDepth 100000

/-! ### S.l10Cap -/
noncomputable def G77 : Env := envNil
noncomputable def c77 : Code := bodyOf Try.f77
noncomputable def S.l10Cap (a1 : Int) : Option Bool :=
(bif (decide (1 ≤ a1)) then
(some (decide (a1 ≤ 50)))
else
(some false))
noncomputable def R77 (x : Bool) : Res := ⟨[.one (ab x)], [], []⟩
noncomputable def K77 (r : Res) : Option Bool :=
  match r with
  | ⟨[.one (.val (.bool v1))], [], []⟩ => some (v1)
  | _ => none
noncomputable def E77 : Fun2 := fun args bs rs =>
  match args, bs, rs with
  | [.s1 (.one (.val (.int .i64 a1)))], [], [] => some ⟨Bool, S.l10Cap a1, R77⟩
  | _, _, _ => none
theorem ev77 (a1 : Int) : evF Try.prog G77 loopNil (0, 0) Try.f77 c77 [vi a1] [] [] K77 = S.l10Cap a1 := by kernel_rfl
theorem good77 : Vm.Good Try.prog 77 E77 := by
  refine evF_good (G := G77) (c := c77) envNil_good Try.func77 (by kernel_rfl) (by kernel_rfl) (0, 0) (fun args bs rs out t h h2 => ?_)
  unfold E77 at h
  split at h
  · injection h with h
    subst h
    exact ⟨rfl, loopNil, K77, (by intro x hx; simp [show loopsOf c77 = [] from by kernel_rfl] at hx), (fun r t h => by unfold K77 at h; split at h; (injection h with h; subst h; rfl); cases h), (ev77 _).trans h2⟩
  · cases h
/-! ### S.BoxNew -/
noncomputable def G23 : Env := (envCons 77 [] E77 envNil)
noncomputable def c23 : Code := bodyOf Try.f23
noncomputable def S.BoxNew (a1 a2 : Int) : Option (Int × Int × Int × Int × Bool × (List (Int × Int × Int × Int × Int × Int × Int × Int × List Int × Bool)) × (List (Int × Int × Int))) :=
(Option.bind (S.l10Cap a1) fun r3 =>
(bif (!r3) then
(some (0, 0, 0, 0, false, [], []))
else
(Option.bind (S.l10Cap a2) fun r4 =>
(bif (!r4) then
(some (0, 0, 0, 0, false, [], []))
else
(some (a1, a2, 0, 0, true, [], []))))))
noncomputable def R23 (x : Int × Int × Int × Int × Bool × (List (Int × Int × Int × Int × Int × Int × Int × Int × List Int × Bool)) × (List (Int × Int × Int))) : Res := ⟨[.agg [ai x.1, ai x.2.1, ai x.2.2.1, ai x.2.2.2.1, .sl 0, .sl 1], .one (ab x.2.2.2.2.1)], [], [⟨138, (.pair (.int .i64) (.pair (.int .i64) (.pair (.int .i64) (.pair (.int .i64) (.pair (.int .i64) (.pair (.int .i64) (.pair (.int .i64) (.pair (.int .i64) (.pair (.sl 3 (.int .i64)) .bool))))))))), x.2.2.2.2.2.1, .own⟩, ⟨141, (.pair (.int .i64) (.pair (.int .i64) (.int .i64))), x.2.2.2.2.2.2, .own⟩]⟩
noncomputable def K23 (r : Res) : Option (Int × Int × Int × Int × Bool × (List (Int × Int × Int × Int × Int × Int × Int × Int × List Int × Bool)) × (List (Int × Int × Int))) :=
  match r with
  | ⟨[.agg [.val (.int .i64 v1), .val (.int .i64 v2), .val (.int .i64 v3), .val (.int .i64 v4), .sl 0, .sl 1], .one (.val (.bool v5))], [], [⟨138, (.pair (.int .i64) (.pair (.int .i64) (.pair (.int .i64) (.pair (.int .i64) (.pair (.int .i64) (.pair (.int .i64) (.pair (.int .i64) (.pair (.int .i64) (.pair (.sl 3 (.int .i64)) .bool))))))))), v6, .own⟩, ⟨141, (.pair (.int .i64) (.pair (.int .i64) (.int .i64))), v7, .own⟩]⟩ => some (v1, v2, v3, v4, v5, v6, v7)
  | _ => none
noncomputable def E23 : Fun2 := fun args bs rs =>
  match args, bs, rs with
  | [.s1 (.one (.val (.int .i64 a1))), .s1 (.one (.val (.int .i64 a2)))], [], [] => some ⟨Int × Int × Int × Int × Bool × (List (Int × Int × Int × Int × Int × Int × Int × Int × List Int × Bool)) × (List (Int × Int × Int)), S.BoxNew a1 a2, R23⟩
  | _, _, _ => none
theorem ev23 (a1 a2 : Int) : evF Try.prog G23 loopNil (0, 0) Try.f23 c23 [vi a1, vi a2] [] [] K23 = S.BoxNew a1 a2 := by kernel_rfl
theorem good23 : Vm.Good Try.prog 23 E23 := by
  refine evF_good (G := G23) (c := c23) (envCons_good good77 envNil_good) Try.func23 (by kernel_rfl) (by kernel_rfl) (0, 0) (fun args bs rs out t h h2 => ?_)
  unfold E23 at h
  split at h
  · injection h with h
    subst h
    exact ⟨rfl, loopNil, K23, (by intro x hx; simp [show loopsOf c23 = [] from by kernel_rfl] at hx), (fun r t h => by unfold K23 at h; split at h; (injection h with h; subst h; rfl); cases h), (ev23 _ _).trans h2⟩
  · cases h
/-! ### I.in -/
noncomputable def G134 : Env := envNil
noncomputable def c134 : Code := bodyOf Try.f134
noncomputable def I.in (a1 a2 a3 : Int) : Option Bool :=
(bif (decide (a2 ≤ a1)) then
(some (decide (a1 ≤ a3)))
else
(some false))
noncomputable def R134 (x : Bool) : Res := ⟨[.one (ab x)], [], []⟩
noncomputable def K134 (r : Res) : Option Bool :=
  match r with
  | ⟨[.one (.val (.bool v1))], [], []⟩ => some (v1)
  | _ => none
noncomputable def E134 : Fun2 := fun args bs rs =>
  match args, bs, rs with
  | [.s1 (.one (.val (.int .i64 a1))), .s1 (.one (.val (.int .i64 a2))), .s1 (.one (.val (.int .i64 a3)))], [], [] => some ⟨Bool, I.in a1 a2 a3, R134⟩
  | _, _, _ => none
theorem ev134 (a1 a2 a3 : Int) : evF Try.prog G134 loopNil (0, 0) Try.f134 c134 [vi a1, vi a2, vi a3] [] [] K134 = I.in a1 a2 a3 := by kernel_rfl
theorem good134 : Vm.Good Try.prog 134 E134 := by
  refine evF_good (G := G134) (c := c134) envNil_good Try.func134 (by kernel_rfl) (by kernel_rfl) (0, 0) (fun args bs rs out t h h2 => ?_)
  unfold E134 at h
  split at h
  · injection h with h
    subst h
    exact ⟨rfl, loopNil, K134, (by intro x hx; simp [show loopsOf c134 = [] from by kernel_rfl] at hx), (fun r t h => by unfold K134 at h; split at h; (injection h with h; subst h; rfl); cases h), (ev134 _ _ _).trans h2⟩
  · cases h
/-! ### I.isCap -/
noncomputable def G78 : Env := (envCons 134 [] E134 envNil)
noncomputable def c78 : Code := bodyOf Try.f78
noncomputable def I.isCap (a1 : Int) : Option Bool :=
(Option.bind (I.in a1 1 50) fun r2 =>
(some r2))
noncomputable def R78 (x : Bool) : Res := ⟨[.one (ab x)], [], []⟩
noncomputable def K78 (r : Res) : Option Bool :=
  match r with
  | ⟨[.one (.val (.bool v1))], [], []⟩ => some (v1)
  | _ => none
noncomputable def E78 : Fun2 := fun args bs rs =>
  match args, bs, rs with
  | [.s1 (.one (.val (.int .i64 a1)))], [], [] => some ⟨Bool, I.isCap a1, R78⟩
  | _, _, _ => none
theorem ev78 (a1 : Int) : evF Try.prog G78 loopNil (0, 0) Try.f78 c78 [vi a1] [] [] K78 = I.isCap a1 := by kernel_rfl
theorem good78 : Vm.Good Try.prog 78 E78 := by
  refine evF_good (G := G78) (c := c78) (envCons_good good134 envNil_good) Try.func78 (by kernel_rfl) (by kernel_rfl) (0, 0) (fun args bs rs out t h h2 => ?_)
  unfold E78 at h
  split at h
  · injection h with h
    subst h
    exact ⟨rfl, loopNil, K78, (by intro x hx; simp [show loopsOf c78 = [] from by kernel_rfl] at hx), (fun r t h => by unfold K78 at h; split at h; (injection h with h; subst h; rfl); cases h), (ev78 _).trans h2⟩
  · cases h
/-! ### I.BoxNew -/
noncomputable def G24 : Env := (envCons 78 [] E78 envNil)
noncomputable def c24 : Code := bodyOf Try.f24
noncomputable def I.BoxNew (a1 a2 : Int) : Option (Int × Int × Int × Int × Bool × (List (Int × Int × Int × Int × Int × Int × Int × Int × List Int × Bool)) × (List (Int × Int × Int))) :=
(Option.bind (I.isCap a1) fun r3 =>
(bif (!r3) then
(some (0, 0, 0, 0, false, [], []))
else
(Option.bind (I.isCap a2) fun r4 =>
(bif (!r4) then
(some (0, 0, 0, 0, false, [], []))
else
(some (a1, a2, 0, 0, true, [], []))))))
noncomputable def R24 (x : Int × Int × Int × Int × Bool × (List (Int × Int × Int × Int × Int × Int × Int × Int × List Int × Bool)) × (List (Int × Int × Int))) : Res := ⟨[.agg [ai x.1, ai x.2.1, ai x.2.2.1, ai x.2.2.2.1, .sl 0, .sl 1], .one (ab x.2.2.2.2.1)], [], [⟨138, (.pair (.int .i64) (.pair (.int .i64) (.pair (.int .i64) (.pair (.int .i64) (.pair (.int .i64) (.pair (.int .i64) (.pair (.int .i64) (.pair (.int .i64) (.pair (.sl 3 (.int .i64)) .bool))))))))), x.2.2.2.2.2.1, .own⟩, ⟨141, (.pair (.int .i64) (.pair (.int .i64) (.int .i64))), x.2.2.2.2.2.2, .own⟩]⟩
noncomputable def K24 (r : Res) : Option (Int × Int × Int × Int × Bool × (List (Int × Int × Int × Int × Int × Int × Int × Int × List Int × Bool)) × (List (Int × Int × Int))) :=
  match r with
  | ⟨[.agg [.val (.int .i64 v1), .val (.int .i64 v2), .val (.int .i64 v3), .val (.int .i64 v4), .sl 0, .sl 1], .one (.val (.bool v5))], [], [⟨138, (.pair (.int .i64) (.pair (.int .i64) (.pair (.int .i64) (.pair (.int .i64) (.pair (.int .i64) (.pair (.int .i64) (.pair (.int .i64) (.pair (.int .i64) (.pair (.sl 3 (.int .i64)) .bool))))))))), v6, .own⟩, ⟨141, (.pair (.int .i64) (.pair (.int .i64) (.int .i64))), v7, .own⟩]⟩ => some (v1, v2, v3, v4, v5, v6, v7)
  | _ => none
noncomputable def E24 : Fun2 := fun args bs rs =>
  match args, bs, rs with
  | [.s1 (.one (.val (.int .i64 a1))), .s1 (.one (.val (.int .i64 a2)))], [], [] => some ⟨Int × Int × Int × Int × Bool × (List (Int × Int × Int × Int × Int × Int × Int × Int × List Int × Bool)) × (List (Int × Int × Int)), I.BoxNew a1 a2, R24⟩
  | _, _, _ => none
theorem ev24 (a1 a2 : Int) : evF Try.prog G24 loopNil (0, 0) Try.f24 c24 [vi a1, vi a2] [] [] K24 = I.BoxNew a1 a2 := by kernel_rfl
theorem good24 : Vm.Good Try.prog 24 E24 := by
  refine evF_good (G := G24) (c := c24) (envCons_good good78 envNil_good) Try.func24 (by kernel_rfl) (by kernel_rfl) (0, 0) (fun args bs rs out t h h2 => ?_)
  unfold E24 at h
  split at h
  · injection h with h
    subst h
    exact ⟨rfl, loopNil, K24, (by intro x hx; simp [show loopsOf c24 = [] from by kernel_rfl] at hx), (fun r t h => by unfold K24 at h; split at h; (injection h with h; subst h; rfl); cases h), (ev24 _ _).trans h2⟩
  · cases h
/-! ### L.eqIntS -/
noncomputable def G160 : Env := envNil
noncomputable def c160 : Code := bodyOf Try.f160
noncomputable def c160_4 : Code := (loopsOf c160).getD 0 .skip
noncomputable def L.eqIntS_l0 : Nat → (Bool → Option Bool) → (Option Bool) → Int → List Int → List Int → Option Bool
  | 0, _, _, _, _, _ => none
  | m + 1, e4_0, e4_1, a5, a6, a7 =>
    (bif (decide (a5 < (a6.length : Int))) then
    (bif decide ((0 : Int) ≤ a5 ∧ a5 < (a6.length : Int)) then
    (bif decide ((0 : Int) ≤ a5 ∧ a5 < (a7.length : Int)) then
    (bif ((nthI a6 a5 (0 : Int)) != (nthI a7 a5 (0 : Int))) then
    (e4_0 false)
    else
    (L.eqIntS_l0 m e4_0 e4_1 (IntKind.wrap .i64 (a5 + 1)) a6 a7))
    else
    none)
    else
    none)
    else
    e4_1)
noncomputable def L.eqIntS (a1 a2 : List Int) : Option Bool :=
(bif ((a1.length : Int) != (a2.length : Int)) then
(some false)
else
(L.eqIntS_l0 fu (fun y12 =>
(some y12)) (some true) 0 a1 a2))
noncomputable def H160_4 : LoopH := ⟨⟨((.one (.sl 0)) :: (.one (.sl 1)) :: (hu 3 (hh :: (hu 20 [])))), [], [(3, (.int .i64), .ro), (3, (.int .i64), .ro)]⟩, [2, 3, 4, 6, 7, 8, 9, 10, 11, 12, 13, 14, 15, 16, 17, 18, 19, 20, 21, 22, 23, 24, 25], [], [0, 1, 2, 3, 5, 6, 7, 8, 9, 10, 11, 12, 13, 14, 15, 16, 17, 18, 19, 20, 21, 22, 23, 24, 25]⟩
noncomputable def E160_4 (m : Nat) (ps : List Prm) (k : Kont Bool) : Option Bool :=
  match ps with
  | [.v (.int .i64 a5), .row (.int .i64) a6, .row (.int .i64) a7] => L.eqIntS_l0 m (fun z14 => k .ret (⟨(vu 4 ((vb z14) :: (vu 21 []))), [], []⟩ : St)) (k (.exit 0) (⟨(vu 26 []), [], []⟩ : St)) a5 a6 a7
  | _ => none
noncomputable def S160_4 (a5 : Int) (a6 a7 : List Int) : St := (⟨((vl 0) :: (vl 1) :: (vu 3 ((vi a5) :: (vu 20 [])))), [], [⟨3, (.int .i64), a6, .ro⟩, ⟨3, (.int .i64), a7, .ro⟩]⟩ : St)
theorem ev160_4 (m : Nat) (k : Kont Bool) (a5 : Int) (a6 a7 : List Int) : evC Try.prog G160 loopNil c160_4 (S160_4 a5 a6 a7) (turn Try.prog (0, 0) H160_4 (E160_4 m) k) = E160_4 (m + 1) [.v (.int .i64 a5), .row (.int .i64) a6, .row (.int .i64) a7] k := by kernel_rfl
theorem ok160_4 (m : Nat) : LoopOk Try.prog (0, 0) c160_4 (enter Try.prog (0, 0) H160_4 (E160_4 m)) := by
  refine loop_ok (G := G160) (L := loopNil) envNil_good (by intro x hx; simp [show loopsOf c160_4 = [] from by kernel_rfl] at hx) (fun ps k => by unfold E160_4; split <;> rfl) (fun m ps k r h => ?_) m
  have h0 := h
  unfold E160_4 at h
  split at h
  · exact ⟨S160_4 _ _ _, by kernel_rfl, (ev160_4 m k _ _ _).trans h0⟩
  · cases h
noncomputable def L160 : LEnv Bool := (loopCons 4 (enter Try.prog (0, 0) H160_4 (E160_4 fu)) loopNil)
theorem lq160 : loopsOf c160 = [c160_4] := by kernel_rfl
theorem fr160_4 : firstReg c160_4 = some 4 := by kernel_rfl
theorem le160_4 : L160 4 = enter Try.prog (0, 0) H160_4 (E160_4 fu) := by kernel_rfl
theorem lm160 : ∀ x ∈ [c160_4], ∀ id, firstReg x = some id → LoopOk Try.prog (0, 0) x (L160 id) := (loops_cons fr160_4 le160_4 (ok160_4 fu) loops_nil)
theorem lp160 : ∀ x ∈ loopsOf c160, ∀ id, firstReg x = some id → LoopOk Try.prog (0, 0) x (L160 id) := loops_eq lq160 lm160
noncomputable def R160 (x : Bool) : Res := ⟨[.one (ab x)], [], []⟩
noncomputable def K160 (r : Res) : Option Bool :=
  match r with
  | ⟨[.one (.val (.bool v1))], [], []⟩ => some (v1)
  | _ => none
noncomputable def E160 : Fun2 := fun args bs rs =>
  match args, bs, rs with
  | [.s1 (.one (.sl 0)), .s1 (.one (.sl 1))], [], [⟨3, (.int .i64), a1, .ro⟩, ⟨3, (.int .i64), a2, .ro⟩] => some ⟨Bool, L.eqIntS a1 a2, R160⟩
  | _, _, _ => none
theorem ev160 (a1 a2 : List Int) : evF Try.prog G160 L160 (0, 0) Try.f160 c160 [vl 0, vl 1] [] [⟨3, (.int .i64), a1, .ro⟩, ⟨3, (.int .i64), a2, .ro⟩] K160 = L.eqIntS a1 a2 := by kernel_rfl
theorem good160 : Vm.Good Try.prog 160 E160 := by
  refine evF_good (G := G160) (c := c160) envNil_good Try.func160 (by kernel_rfl) (by kernel_rfl) (0, 0) (fun args bs rs out t h h2 => ?_)
  unfold E160 at h
  split at h
  · injection h with h
    subst h
    exact ⟨rfl, L160, K160, lp160, (fun r t h => by unfold K160 at h; split at h; (injection h with h; subst h; rfl); cases h), (ev160 _ _).trans h2⟩
  · cases h
/-! ### L.eqPane -/
noncomputable def G111 : Env := (envCons 160 [] E160 envNil)
noncomputable def c111 : Code := bodyOf Try.f111
noncomputable def L.eqPane (a1 a2 a3 a4 a5 a6 : Int) (a7 : Bool) (a8 a9 a10 a11 a12 a13 : Int) (a14 : Bool) (a15 a16 : List Int) : Option Bool :=
(bif (a1 != a8) then
(some false)
else
(bif (a2 != a9) then
(some false)
else
(bif (a3 != a10) then
(some false)
else
(bif (a4 != a11) then
(some false)
else
(bif (a5 != a12) then
(some false)
else
(bif (a6 != a13) then
(some false)
else
(Option.bind (L.eqIntS a15 a16) fun r17 =>
(bif (!r17) then
(some false)
else
(bif (!(a7 == a14)) then
(some false)
else
(some true))))))))))
noncomputable def R111 (x : Bool) : Res := ⟨[.one (ab x)], [], []⟩
noncomputable def K111 (r : Res) : Option Bool :=
  match r with
  | ⟨[.one (.val (.bool v1))], [], []⟩ => some (v1)
  | _ => none
noncomputable def E111 : Fun2 := fun args bs rs =>
  match args, bs, rs with
  | [.s1 (.agg [.val (.int .i64 a1), .val (.int .i64 a2), .val (.int .i64 a3), .val (.int .i64 a4), .val (.int .i64 a5), .val (.int .i64 a6), .sl 0, .val (.bool a7)]), .s1 (.agg [.val (.int .i64 a8), .val (.int .i64 a9), .val (.int .i64 a10), .val (.int .i64 a11), .val (.int .i64 a12), .val (.int .i64 a13), .sl 1, .val (.bool a14)])], [], [⟨3, (.int .i64), a15, .ro⟩, ⟨3, (.int .i64), a16, .ro⟩] => some ⟨Bool, L.eqPane a1 a2 a3 a4 a5 a6 a7 a8 a9 a10 a11 a12 a13 a14 a15 a16, R111⟩
  | _, _, _ => none
theorem ev111 (a1 a2 a3 a4 a5 a6 : Int) (a7 : Bool) (a8 a9 a10 a11 a12 a13 : Int) (a14 : Bool) (a15 a16 : List Int) : evF Try.prog G111 loopNil (0, 0) Try.f111 c111 [.s1 (.agg [ai a1, ai a2, ai a3, ai a4, ai a5, ai a6, .sl 0, ab a7]), .s1 (.agg [ai a8, ai a9, ai a10, ai a11, ai a12, ai a13, .sl 1, ab a14])] [] [⟨3, (.int .i64), a15, .ro⟩, ⟨3, (.int .i64), a16, .ro⟩] K111 = L.eqPane a1 a2 a3 a4 a5 a6 a7 a8 a9 a10 a11 a12 a13 a14 a15 a16 := by kernel_rfl
theorem good111 : Vm.Good Try.prog 111 E111 := by
  refine evF_good (G := G111) (c := c111) (envCons_good good160 envNil_good) Try.func111 (by kernel_rfl) (by kernel_rfl) (0, 0) (fun args bs rs out t h h2 => ?_)
  unfold E111 at h
  split at h
  · injection h with h
    subst h
    exact ⟨rfl, loopNil, K111, (by intro x hx; simp [show loopsOf c111 = [] from by kernel_rfl] at hx), (fun r t h => by unfold K111 at h; split at h; (injection h with h; subst h; rfl); cases h), (ev111 _ _ _ _ _ _ _ _ _ _ _ _ _ _ _ _).trans h2⟩
  · cases h
/-! ### L.eqItem -/
noncomputable def G135 : Env := (envCons 111 [] E111 envNil)
noncomputable def c135 : Code := bodyOf Try.f135
noncomputable def L.eqItem (a1 a2 a3 a4 a5 a6 a7 a8 : Int) (a9 : Bool) (a10 a11 a12 a13 a14 a15 a16 a17 : Int) (a18 : Bool) (a19 a20 : List Int) : Option Bool :=
(bif (a1 != a10) then
(some false)
else
(bif (a2 != a11) then
(some false)
else
(Option.bind (L.eqPane a3 a4 a5 a6 a7 a8 a9 a12 a13 a14 a15 a16 a17 a18 a19 a20) fun r21 =>
(bif (!r21) then
(some false)
else
(some true)))))
noncomputable def R135 (x : Bool) : Res := ⟨[.one (ab x)], [], []⟩
noncomputable def K135 (r : Res) : Option Bool :=
  match r with
  | ⟨[.one (.val (.bool v1))], [], []⟩ => some (v1)
  | _ => none
noncomputable def E135 : Fun2 := fun args bs rs =>
  match args, bs, rs with
  | [.s1 (.agg [.val (.int .i64 a1), .val (.int .i64 a2), .val (.int .i64 a3), .val (.int .i64 a4), .val (.int .i64 a5), .val (.int .i64 a6), .val (.int .i64 a7), .val (.int .i64 a8), .sl 0, .val (.bool a9)]), .s1 (.agg [.val (.int .i64 a10), .val (.int .i64 a11), .val (.int .i64 a12), .val (.int .i64 a13), .val (.int .i64 a14), .val (.int .i64 a15), .val (.int .i64 a16), .val (.int .i64 a17), .sl 1, .val (.bool a18)])], [], [⟨3, (.int .i64), a19, .ro⟩, ⟨3, (.int .i64), a20, .ro⟩] => some ⟨Bool, L.eqItem a1 a2 a3 a4 a5 a6 a7 a8 a9 a10 a11 a12 a13 a14 a15 a16 a17 a18 a19 a20, R135⟩
  | _, _, _ => none
theorem ev135 (a1 a2 a3 a4 a5 a6 a7 a8 : Int) (a9 : Bool) (a10 a11 a12 a13 a14 a15 a16 a17 : Int) (a18 : Bool) (a19 a20 : List Int) : evF Try.prog G135 loopNil (0, 0) Try.f135 c135 [.s1 (.agg [ai a1, ai a2, ai a3, ai a4, ai a5, ai a6, ai a7, ai a8, .sl 0, ab a9]), .s1 (.agg [ai a10, ai a11, ai a12, ai a13, ai a14, ai a15, ai a16, ai a17, .sl 1, ab a18])] [] [⟨3, (.int .i64), a19, .ro⟩, ⟨3, (.int .i64), a20, .ro⟩] K135 = L.eqItem a1 a2 a3 a4 a5 a6 a7 a8 a9 a10 a11 a12 a13 a14 a15 a16 a17 a18 a19 a20 := by kernel_rfl
theorem good135 : Vm.Good Try.prog 135 E135 := by
  refine evF_good (G := G135) (c := c135) (envCons_good good111 envNil_good) Try.func135 (by kernel_rfl) (by kernel_rfl) (0, 0) (fun args bs rs out t h h2 => ?_)
  unfold E135 at h
  split at h
  · injection h with h
    subst h
    exact ⟨rfl, loopNil, K135, (by intro x hx; simp [show loopsOf c135 = [] from by kernel_rfl] at hx), (fun r t h => by unfold K135 at h; split at h; (injection h with h; subst h; rfl); cases h), (ev135 _ _ _ _ _ _ _ _ _ _ _ _ _ _ _ _ _ _ _ _).trans h2⟩
  · cases h
/-! ### L.eqItemS -/
noncomputable def G79 : Env := (envCons 135 [] E135 envNil)
noncomputable def c79 : Code := bodyOf Try.f79
noncomputable def c79_4 : Code := (loopsOf c79).getD 0 .skip
noncomputable def L.eqItemS_l0 : Nat → (Bool → Option Bool) → (Option Bool) → Int → (List (Int × Int × Int × Int × Int × Int × Int × Int × List Int × Bool)) → (List (Int × Int × Int × Int × Int × Int × Int × Int × List Int × Bool)) → Option Bool
  | 0, _, _, _, _, _ => none
  | m + 1, e4_0, e4_1, a5, a6, a7 =>
    (bif (decide (a5 < (a6.length : Int))) then
    (bif decide ((0 : Int) ≤ a5 ∧ a5 < (a6.length : Int)) then
    (bif decide ((0 : Int) ≤ a5 ∧ a5 < (a7.length : Int)) then
    (Option.bind (L.eqItem ((nthI a6 a5 ((0 : Int), ((0 : Int), ((0 : Int), ((0 : Int), ((0 : Int), ((0 : Int), ((0 : Int), ((0 : Int), ([], false)))))))))).1) ((nthI a6 a5 ((0 : Int), ((0 : Int), ((0 : Int), ((0 : Int), ((0 : Int), ((0 : Int), ((0 : Int), ((0 : Int), ([], false)))))))))).2.1) ((nthI a6 a5 ((0 : Int), ((0 : Int), ((0 : Int), ((0 : Int), ((0 : Int), ((0 : Int), ((0 : Int), ((0 : Int), ([], false)))))))))).2.2.1) ((nthI a6 a5 ((0 : Int), ((0 : Int), ((0 : Int), ((0 : Int), ((0 : Int), ((0 : Int), ((0 : Int), ((0 : Int), ([], false)))))))))).2.2.2.1) ((nthI a6 a5 ((0 : Int), ((0 : Int), ((0 : Int), ((0 : Int), ((0 : Int), ((0 : Int), ((0 : Int), ((0 : Int), ([], false)))))))))).2.2.2.2.1) ((nthI a6 a5 ((0 : Int), ((0 : Int), ((0 : Int), ((0 : Int), ((0 : Int), ((0 : Int), ((0 : Int), ((0 : Int), ([], false)))))))))).2.2.2.2.2.1) ((nthI a6 a5 ((0 : Int), ((0 : Int), ((0 : Int), ((0 : Int), ((0 : Int), ((0 : Int), ((0 : Int), ((0 : Int), ([], false)))))))))).2.2.2.2.2.2.1) ((nthI a6 a5 ((0 : Int), ((0 : Int), ((0 : Int), ((0 : Int), ((0 : Int), ((0 : Int), ((0 : Int), ((0 : Int), ([], false)))))))))).2.2.2.2.2.2.2.1) ((nthI a6 a5 ((0 : Int), ((0 : Int), ((0 : Int), ((0 : Int), ((0 : Int), ((0 : Int), ((0 : Int), ((0 : Int), ([], false)))))))))).2.2.2.2.2.2.2.2.2) ((nthI a7 a5 ((0 : Int), ((0 : Int), ((0 : Int), ((0 : Int), ((0 : Int), ((0 : Int), ((0 : Int), ((0 : Int), ([], false)))))))))).1) ((nthI a7 a5 ((0 : Int), ((0 : Int), ((0 : Int), ((0 : Int), ((0 : Int), ((0 : Int), ((0 : Int), ((0 : Int), ([], false)))))))))).2.1) ((nthI a7 a5 ((0 : Int), ((0 : Int), ((0 : Int), ((0 : Int), ((0 : Int), ((0 : Int), ((0 : Int), ((0 : Int), ([], false)))))))))).2.2.1) ((nthI a7 a5 ((0 : Int), ((0 : Int), ((0 : Int), ((0 : Int), ((0 : Int), ((0 : Int), ((0 : Int), ((0 : Int), ([], false)))))))))).2.2.2.1) ((nthI a7 a5 ((0 : Int), ((0 : Int), ((0 : Int), ((0 : Int), ((0 : Int), ((0 : Int), ((0 : Int), ((0 : Int), ([], false)))))))))).2.2.2.2.1) ((nthI a7 a5 ((0 : Int), ((0 : Int), ((0 : Int), ((0 : Int), ((0 : Int), ((0 : Int), ((0 : Int), ((0 : Int), ([], false)))))))))).2.2.2.2.2.1) ((nthI a7 a5 ((0 : Int), ((0 : Int), ((0 : Int), ((0 : Int), ((0 : Int), ((0 : Int), ((0 : Int), ((0 : Int), ([], false)))))))))).2.2.2.2.2.2.1) ((nthI a7 a5 ((0 : Int), ((0 : Int), ((0 : Int), ((0 : Int), ((0 : Int), ((0 : Int), ((0 : Int), ((0 : Int), ([], false)))))))))).2.2.2.2.2.2.2.1) ((nthI a7 a5 ((0 : Int), ((0 : Int), ((0 : Int), ((0 : Int), ((0 : Int), ((0 : Int), ((0 : Int), ((0 : Int), ([], false)))))))))).2.2.2.2.2.2.2.2.2) ((nthI a6 a5 ((0 : Int), ((0 : Int), ((0 : Int), ((0 : Int), ((0 : Int), ((0 : Int), ((0 : Int), ((0 : Int), ([], false)))))))))).2.2.2.2.2.2.2.2.1) ((nthI a7 a5 ((0 : Int), ((0 : Int), ((0 : Int), ((0 : Int), ((0 : Int), ((0 : Int), ((0 : Int), ((0 : Int), ([], false)))))))))).2.2.2.2.2.2.2.2.1)) fun r10 =>
    (bif (!r10) then
    (e4_0 false)
    else
    (L.eqItemS_l0 m e4_0 e4_1 (IntKind.wrap .i64 (a5 + 1)) a6 a7)))
    else
    none)
    else
    none)
    else
    e4_1)
noncomputable def L.eqItemS (a1 a2 : List (Int × Int × Int × Int × Int × Int × Int × Int × List Int × Bool)) : Option Bool :=
(bif ((a1.length : Int) != (a2.length : Int)) then
(some false)
else
(L.eqItemS_l0 fu (fun y12 =>
(some y12)) (some true) 0 a1 a2))
noncomputable def H79_4 : LoopH := ⟨⟨((.one (.sl 0)) :: (.one (.sl 1)) :: (hu 3 (hh :: (hu 21 [])))), [], [(138, (.pair (.int .i64) (.pair (.int .i64) (.pair (.int .i64) (.pair (.int .i64) (.pair (.int .i64) (.pair (.int .i64) (.pair (.int .i64) (.pair (.int .i64) (.pair (.sl 3 (.int .i64)) .bool))))))))), .ro), (138, (.pair (.int .i64) (.pair (.int .i64) (.pair (.int .i64) (.pair (.int .i64) (.pair (.int .i64) (.pair (.int .i64) (.pair (.int .i64) (.pair (.int .i64) (.pair (.sl 3 (.int .i64)) .bool))))))))), .ro)]⟩, [2, 3, 4, 6, 7, 8, 9, 10, 11, 12, 13, 14, 15, 16, 17, 18, 19, 20, 21, 22, 23, 24, 25, 26], [], [0, 1, 2, 3, 5, 6, 7, 8, 9, 10, 11, 12, 13, 14, 15, 16, 17, 18, 19, 20, 21, 22, 23, 24, 25, 26]⟩
noncomputable def E79_4 (m : Nat) (ps : List Prm) (k : Kont Bool) : Option Bool :=
  match ps with
  | [.v (.int .i64 a5), .row (.pair (.int .i64) (.pair (.int .i64) (.pair (.int .i64) (.pair (.int .i64) (.pair (.int .i64) (.pair (.int .i64) (.pair (.int .i64) (.pair (.int .i64) (.pair (.sl 3 (.int .i64)) .bool))))))))) a6, .row (.pair (.int .i64) (.pair (.int .i64) (.pair (.int .i64) (.pair (.int .i64) (.pair (.int .i64) (.pair (.int .i64) (.pair (.int .i64) (.pair (.int .i64) (.pair (.sl 3 (.int .i64)) .bool))))))))) a7] => L.eqItemS_l0 m (fun z14 => k .ret (⟨(vu 4 ((vb z14) :: (vu 22 []))), [], []⟩ : St)) (k (.exit 0) (⟨(vu 27 []), [], []⟩ : St)) a5 a6 a7
  | _ => none
noncomputable def S79_4 (a5 : Int) (a6 a7 : List (Int × Int × Int × Int × Int × Int × Int × Int × List Int × Bool)) : St := (⟨((vl 0) :: (vl 1) :: (vu 3 ((vi a5) :: (vu 21 [])))), [], [⟨138, (.pair (.int .i64) (.pair (.int .i64) (.pair (.int .i64) (.pair (.int .i64) (.pair (.int .i64) (.pair (.int .i64) (.pair (.int .i64) (.pair (.int .i64) (.pair (.sl 3 (.int .i64)) .bool))))))))), a6, .ro⟩, ⟨138, (.pair (.int .i64) (.pair (.int .i64) (.pair (.int .i64) (.pair (.int .i64) (.pair (.int .i64) (.pair (.int .i64) (.pair (.int .i64) (.pair (.int .i64) (.pair (.sl 3 (.int .i64)) .bool))))))))), a7, .ro⟩]⟩ : St)
theorem ev79_4 (m : Nat) (k : Kont Bool) (a5 : Int) (a6 a7 : List (Int × Int × Int × Int × Int × Int × Int × Int × List Int × Bool)) : evC Try.prog G79 loopNil c79_4 (S79_4 a5 a6 a7) (turn Try.prog (0, 0) H79_4 (E79_4 m) k) = E79_4 (m + 1) [.v (.int .i64 a5), .row (.pair (.int .i64) (.pair (.int .i64) (.pair (.int .i64) (.pair (.int .i64) (.pair (.int .i64) (.pair (.int .i64) (.pair (.int .i64) (.pair (.int .i64) (.pair (.sl 3 (.int .i64)) .bool))))))))) a6, .row (.pair (.int .i64) (.pair (.int .i64) (.pair (.int .i64) (.pair (.int .i64) (.pair (.int .i64) (.pair (.int .i64) (.pair (.int .i64) (.pair (.int .i64) (.pair (.sl 3 (.int .i64)) .bool))))))))) a7] k := by kernel_rfl
theorem ok79_4 (m : Nat) : LoopOk Try.prog (0, 0) c79_4 (enter Try.prog (0, 0) H79_4 (E79_4 m)) := by
  refine loop_ok (G := G79) (L := loopNil) (envCons_good good135 envNil_good) (by intro x hx; simp [show loopsOf c79_4 = [] from by kernel_rfl] at hx) (fun ps k => by unfold E79_4; split <;> rfl) (fun m ps k r h => ?_) m
  have h0 := h
  unfold E79_4 at h
  split at h
  · exact ⟨S79_4 _ _ _, by kernel_rfl, (ev79_4 m k _ _ _).trans h0⟩
  · cases h
noncomputable def L79 : LEnv Bool := (loopCons 4 (enter Try.prog (0, 0) H79_4 (E79_4 fu)) loopNil)
theorem lq79 : loopsOf c79 = [c79_4] := by kernel_rfl
theorem fr79_4 : firstReg c79_4 = some 4 := by kernel_rfl
theorem le79_4 : L79 4 = enter Try.prog (0, 0) H79_4 (E79_4 fu) := by kernel_rfl
theorem lm79 : ∀ x ∈ [c79_4], ∀ id, firstReg x = some id → LoopOk Try.prog (0, 0) x (L79 id) := (loops_cons fr79_4 le79_4 (ok79_4 fu) loops_nil)
theorem lp79 : ∀ x ∈ loopsOf c79, ∀ id, firstReg x = some id → LoopOk Try.prog (0, 0) x (L79 id) := loops_eq lq79 lm79
noncomputable def R79 (x : Bool) : Res := ⟨[.one (ab x)], [], []⟩
noncomputable def K79 (r : Res) : Option Bool :=
  match r with
  | ⟨[.one (.val (.bool v1))], [], []⟩ => some (v1)
  | _ => none
noncomputable def E79 : Fun2 := fun args bs rs =>
  match args, bs, rs with
  | [.s1 (.one (.sl 0)), .s1 (.one (.sl 1))], [], [⟨138, (.pair (.int .i64) (.pair (.int .i64) (.pair (.int .i64) (.pair (.int .i64) (.pair (.int .i64) (.pair (.int .i64) (.pair (.int .i64) (.pair (.int .i64) (.pair (.sl 3 (.int .i64)) .bool))))))))), a1, .ro⟩, ⟨138, (.pair (.int .i64) (.pair (.int .i64) (.pair (.int .i64) (.pair (.int .i64) (.pair (.int .i64) (.pair (.int .i64) (.pair (.int .i64) (.pair (.int .i64) (.pair (.sl 3 (.int .i64)) .bool))))))))), a2, .ro⟩] => some ⟨Bool, L.eqItemS a1 a2, R79⟩
  | _, _, _ => none
theorem ev79 (a1 a2 : List (Int × Int × Int × Int × Int × Int × Int × Int × List Int × Bool)) : evF Try.prog G79 L79 (0, 0) Try.f79 c79 [vl 0, vl 1] [] [⟨138, (.pair (.int .i64) (.pair (.int .i64) (.pair (.int .i64) (.pair (.int .i64) (.pair (.int .i64) (.pair (.int .i64) (.pair (.int .i64) (.pair (.int .i64) (.pair (.sl 3 (.int .i64)) .bool))))))))), a1, .ro⟩, ⟨138, (.pair (.int .i64) (.pair (.int .i64) (.pair (.int .i64) (.pair (.int .i64) (.pair (.int .i64) (.pair (.int .i64) (.pair (.int .i64) (.pair (.int .i64) (.pair (.sl 3 (.int .i64)) .bool))))))))), a2, .ro⟩] K79 = L.eqItemS a1 a2 := by kernel_rfl
theorem good79 : Vm.Good Try.prog 79 E79 := by
  refine evF_good (G := G79) (c := c79) (envCons_good good135 envNil_good) Try.func79 (by kernel_rfl) (by kernel_rfl) (0, 0) (fun args bs rs out t h h2 => ?_)
  unfold E79 at h
  split at h
  · injection h with h
    subst h
    exact ⟨rfl, L79, K79, lp79, (fun r t h => by unfold K79 at h; split at h; (injection h with h; subst h; rfl); cases h), (ev79 _ _).trans h2⟩
  · cases h
/-! ### L.eqRec -/
noncomputable def G136 : Env := envNil
noncomputable def c136 : Code := bodyOf Try.f136
noncomputable def L.eqRec (a1 a2 a3 a4 a5 a6 : Int) : Option Bool :=
(bif (a1 != a4) then
(some false)
else
(bif (a2 != a5) then
(some false)
else
(bif (a3 != a6) then
(some false)
else
(some true))))
noncomputable def R136 (x : Bool) : Res := ⟨[.one (ab x)], [], []⟩
noncomputable def K136 (r : Res) : Option Bool :=
  match r with
  | ⟨[.one (.val (.bool v1))], [], []⟩ => some (v1)
  | _ => none
noncomputable def E136 : Fun2 := fun args bs rs =>
  match args, bs, rs with
  | [.s1 (.agg [.val (.int .i64 a1), .val (.int .i64 a2), .val (.int .i64 a3)]), .s1 (.agg [.val (.int .i64 a4), .val (.int .i64 a5), .val (.int .i64 a6)])], [], [] => some ⟨Bool, L.eqRec a1 a2 a3 a4 a5 a6, R136⟩
  | _, _, _ => none
theorem ev136 (a1 a2 a3 a4 a5 a6 : Int) : evF Try.prog G136 loopNil (0, 0) Try.f136 c136 [.s1 (.agg [ai a1, ai a2, ai a3]), .s1 (.agg [ai a4, ai a5, ai a6])] [] [] K136 = L.eqRec a1 a2 a3 a4 a5 a6 := by kernel_rfl
theorem good136 : Vm.Good Try.prog 136 E136 := by
  refine evF_good (G := G136) (c := c136) envNil_good Try.func136 (by kernel_rfl) (by kernel_rfl) (0, 0) (fun args bs rs out t h h2 => ?_)
  unfold E136 at h
  split at h
  · injection h with h
    subst h
    exact ⟨rfl, loopNil, K136, (by intro x hx; simp [show loopsOf c136 = [] from by kernel_rfl] at hx), (fun r t h => by unfold K136 at h; split at h; (injection h with h; subst h; rfl); cases h), (ev136 _ _ _ _ _ _).trans h2⟩
  · cases h
/-! ### L.eqRecS -/
noncomputable def G80 : Env := (envCons 136 [] E136 envNil)
noncomputable def c80 : Code := bodyOf Try.f80
noncomputable def c80_4 : Code := (loopsOf c80).getD 0 .skip
noncomputable def L.eqRecS_l0 : Nat → (Bool → Option Bool) → (Option Bool) → Int → (List (Int × Int × Int)) → (List (Int × Int × Int)) → Option Bool
  | 0, _, _, _, _, _ => none
  | m + 1, e4_0, e4_1, a5, a6, a7 =>
    (bif (decide (a5 < (a6.length : Int))) then
    (bif decide ((0 : Int) ≤ a5 ∧ a5 < (a6.length : Int)) then
    (bif decide ((0 : Int) ≤ a5 ∧ a5 < (a7.length : Int)) then
    (Option.bind (L.eqRec ((nthI a6 a5 ((0 : Int), ((0 : Int), (0 : Int)))).1) ((nthI a6 a5 ((0 : Int), ((0 : Int), (0 : Int)))).2.1) ((nthI a6 a5 ((0 : Int), ((0 : Int), (0 : Int)))).2.2) ((nthI a7 a5 ((0 : Int), ((0 : Int), (0 : Int)))).1) ((nthI a7 a5 ((0 : Int), ((0 : Int), (0 : Int)))).2.1) ((nthI a7 a5 ((0 : Int), ((0 : Int), (0 : Int)))).2.2)) fun r10 =>
    (bif (!r10) then
    (e4_0 false)
    else
    (L.eqRecS_l0 m e4_0 e4_1 (IntKind.wrap .i64 (a5 + 1)) a6 a7)))
    else
    none)
    else
    none)
    else
    e4_1)
noncomputable def L.eqRecS (a1 a2 : List (Int × Int × Int)) : Option Bool :=
(bif ((a1.length : Int) != (a2.length : Int)) then
(some false)
else
(L.eqRecS_l0 fu (fun y12 =>
(some y12)) (some true) 0 a1 a2))
noncomputable def H80_4 : LoopH := ⟨⟨((.one (.sl 0)) :: (.one (.sl 1)) :: (hu 3 (hh :: (hu 21 [])))), [], [(141, (.pair (.int .i64) (.pair (.int .i64) (.int .i64))), .ro), (141, (.pair (.int .i64) (.pair (.int .i64) (.int .i64))), .ro)]⟩, [2, 3, 4, 6, 7, 8, 9, 10, 11, 12, 13, 14, 15, 16, 17, 18, 19, 20, 21, 22, 23, 24, 25, 26], [], [0, 1, 2, 3, 5, 6, 7, 8, 9, 10, 11, 12, 13, 14, 15, 16, 17, 18, 19, 20, 21, 22, 23, 24, 25, 26]⟩
noncomputable def E80_4 (m : Nat) (ps : List Prm) (k : Kont Bool) : Option Bool :=
  match ps with
  | [.v (.int .i64 a5), .row (.pair (.int .i64) (.pair (.int .i64) (.int .i64))) a6, .row (.pair (.int .i64) (.pair (.int .i64) (.int .i64))) a7] => L.eqRecS_l0 m (fun z14 => k .ret (⟨(vu 4 ((vb z14) :: (vu 22 []))), [], []⟩ : St)) (k (.exit 0) (⟨(vu 27 []), [], []⟩ : St)) a5 a6 a7
  | _ => none
noncomputable def S80_4 (a5 : Int) (a6 a7 : List (Int × Int × Int)) : St := (⟨((vl 0) :: (vl 1) :: (vu 3 ((vi a5) :: (vu 21 [])))), [], [⟨141, (.pair (.int .i64) (.pair (.int .i64) (.int .i64))), a6, .ro⟩, ⟨141, (.pair (.int .i64) (.pair (.int .i64) (.int .i64))), a7, .ro⟩]⟩ : St)
theorem ev80_4 (m : Nat) (k : Kont Bool) (a5 : Int) (a6 a7 : List (Int × Int × Int)) : evC Try.prog G80 loopNil c80_4 (S80_4 a5 a6 a7) (turn Try.prog (0, 0) H80_4 (E80_4 m) k) = E80_4 (m + 1) [.v (.int .i64 a5), .row (.pair (.int .i64) (.pair (.int .i64) (.int .i64))) a6, .row (.pair (.int .i64) (.pair (.int .i64) (.int .i64))) a7] k := by kernel_rfl
theorem ok80_4 (m : Nat) : LoopOk Try.prog (0, 0) c80_4 (enter Try.prog (0, 0) H80_4 (E80_4 m)) := by
  refine loop_ok (G := G80) (L := loopNil) (envCons_good good136 envNil_good) (by intro x hx; simp [show loopsOf c80_4 = [] from by kernel_rfl] at hx) (fun ps k => by unfold E80_4; split <;> rfl) (fun m ps k r h => ?_) m
  have h0 := h
  unfold E80_4 at h
  split at h
  · exact ⟨S80_4 _ _ _, by kernel_rfl, (ev80_4 m k _ _ _).trans h0⟩
  · cases h
noncomputable def L80 : LEnv Bool := (loopCons 4 (enter Try.prog (0, 0) H80_4 (E80_4 fu)) loopNil)
theorem lq80 : loopsOf c80 = [c80_4] := by kernel_rfl
theorem fr80_4 : firstReg c80_4 = some 4 := by kernel_rfl
theorem le80_4 : L80 4 = enter Try.prog (0, 0) H80_4 (E80_4 fu) := by kernel_rfl
theorem lm80 : ∀ x ∈ [c80_4], ∀ id, firstReg x = some id → LoopOk Try.prog (0, 0) x (L80 id) := (loops_cons fr80_4 le80_4 (ok80_4 fu) loops_nil)
theorem lp80 : ∀ x ∈ loopsOf c80, ∀ id, firstReg x = some id → LoopOk Try.prog (0, 0) x (L80 id) := loops_eq lq80 lm80
noncomputable def R80 (x : Bool) : Res := ⟨[.one (ab x)], [], []⟩
noncomputable def K80 (r : Res) : Option Bool :=
  match r with
  | ⟨[.one (.val (.bool v1))], [], []⟩ => some (v1)
  | _ => none
noncomputable def E80 : Fun2 := fun args bs rs =>
  match args, bs, rs with
  | [.s1 (.one (.sl 0)), .s1 (.one (.sl 1))], [], [⟨141, (.pair (.int .i64) (.pair (.int .i64) (.int .i64))), a1, .ro⟩, ⟨141, (.pair (.int .i64) (.pair (.int .i64) (.int .i64))), a2, .ro⟩] => some ⟨Bool, L.eqRecS a1 a2, R80⟩
  | _, _, _ => none
theorem ev80 (a1 a2 : List (Int × Int × Int)) : evF Try.prog G80 L80 (0, 0) Try.f80 c80 [vl 0, vl 1] [] [⟨141, (.pair (.int .i64) (.pair (.int .i64) (.int .i64))), a1, .ro⟩, ⟨141, (.pair (.int .i64) (.pair (.int .i64) (.int .i64))), a2, .ro⟩] K80 = L.eqRecS a1 a2 := by kernel_rfl
theorem good80 : Vm.Good Try.prog 80 E80 := by
  refine evF_good (G := G80) (c := c80) (envCons_good good136 envNil_good) Try.func80 (by kernel_rfl) (by kernel_rfl) (0, 0) (fun args bs rs out t h h2 => ?_)
  unfold E80 at h
  split at h
  · injection h with h
    subst h
    exact ⟨rfl, L80, K80, lp80, (fun r t h => by unfold K80 at h; split at h; (injection h with h; subst h; rfl); cases h), (ev80 _ _).trans h2⟩
  · cases h
/-! ### L.eqBox -/
noncomputable def G25 : Env := (envCons 79 [] E79 (envCons 80 [] E80 envNil))
noncomputable def c25 : Code := bodyOf Try.f25
noncomputable def L.eqBox (a1 a2 a3 a4 a5 a6 a7 a8 : Int) (a9 : List (Int × Int × Int × Int × Int × Int × Int × Int × List Int × Bool)) (a10 : List (Int × Int × Int)) (a11 : List (Int × Int × Int × Int × Int × Int × Int × Int × List Int × Bool)) (a12 : List (Int × Int × Int)) : Option Bool :=
(bif (a1 != a5) then
(some false)
else
(bif (a2 != a6) then
(some false)
else
(bif (a3 != a7) then
(some false)
else
(bif (a4 != a8) then
(some false)
else
(Option.bind (L.eqItemS a9 a11) fun r13 =>
(bif (!r13) then
(some false)
else
(Option.bind (L.eqRecS a10 a12) fun r14 =>
(bif (!r14) then
(some false)
else
(some true)))))))))
noncomputable def R25 (x : Bool) : Res := ⟨[.one (ab x)], [], []⟩
noncomputable def K25 (r : Res) : Option Bool :=
  match r with
  | ⟨[.one (.val (.bool v1))], [], []⟩ => some (v1)
  | _ => none
noncomputable def E25 : Fun2 := fun args bs rs =>
  match args, bs, rs with
  | [.s1 (.agg [.val (.int .i64 a1), .val (.int .i64 a2), .val (.int .i64 a3), .val (.int .i64 a4), .sl 0, .sl 1]), .s1 (.agg [.val (.int .i64 a5), .val (.int .i64 a6), .val (.int .i64 a7), .val (.int .i64 a8), .sl 2, .sl 3])], [], [⟨138, (.pair (.int .i64) (.pair (.int .i64) (.pair (.int .i64) (.pair (.int .i64) (.pair (.int .i64) (.pair (.int .i64) (.pair (.int .i64) (.pair (.int .i64) (.pair (.sl 3 (.int .i64)) .bool))))))))), a9, .ro⟩, ⟨141, (.pair (.int .i64) (.pair (.int .i64) (.int .i64))), a10, .ro⟩, ⟨138, (.pair (.int .i64) (.pair (.int .i64) (.pair (.int .i64) (.pair (.int .i64) (.pair (.int .i64) (.pair (.int .i64) (.pair (.int .i64) (.pair (.int .i64) (.pair (.sl 3 (.int .i64)) .bool))))))))), a11, .ro⟩, ⟨141, (.pair (.int .i64) (.pair (.int .i64) (.int .i64))), a12, .ro⟩] => some ⟨Bool, L.eqBox a1 a2 a3 a4 a5 a6 a7 a8 a9 a10 a11 a12, R25⟩
  | _, _, _ => none
theorem ev25 (a1 a2 a3 a4 a5 a6 a7 a8 : Int) (a9 : List (Int × Int × Int × Int × Int × Int × Int × Int × List Int × Bool)) (a10 : List (Int × Int × Int)) (a11 : List (Int × Int × Int × Int × Int × Int × Int × Int × List Int × Bool)) (a12 : List (Int × Int × Int)) : evF Try.prog G25 loopNil (0, 0) Try.f25 c25 [.s1 (.agg [ai a1, ai a2, ai a3, ai a4, .sl 0, .sl 1]), .s1 (.agg [ai a5, ai a6, ai a7, ai a8, .sl 2, .sl 3])] [] [⟨138, (.pair (.int .i64) (.pair (.int .i64) (.pair (.int .i64) (.pair (.int .i64) (.pair (.int .i64) (.pair (.int .i64) (.pair (.int .i64) (.pair (.int .i64) (.pair (.sl 3 (.int .i64)) .bool))))))))), a9, .ro⟩, ⟨141, (.pair (.int .i64) (.pair (.int .i64) (.int .i64))), a10, .ro⟩, ⟨138, (.pair (.int .i64) (.pair (.int .i64) (.pair (.int .i64) (.pair (.int .i64) (.pair (.int .i64) (.pair (.int .i64) (.pair (.int .i64) (.pair (.int .i64) (.pair (.sl 3 (.int .i64)) .bool))))))))), a11, .ro⟩, ⟨141, (.pair (.int .i64) (.pair (.int .i64) (.int .i64))), a12, .ro⟩] K25 = L.eqBox a1 a2 a3 a4 a5 a6 a7 a8 a9 a10 a11 a12 := by kernel_rfl
theorem good25 : Vm.Good Try.prog 25 E25 := by
  refine evF_good (G := G25) (c := c25) (envCons_good good79 (envCons_good good80 envNil_good)) Try.func25 (by kernel_rfl) (by kernel_rfl) (0, 0) (fun args bs rs out t h h2 => ?_)
  unfold E25 at h
  split at h
  · injection h with h
    subst h
    exact ⟨rfl, loopNil, K25, (by intro x hx; simp [show loopsOf c25 = [] from by kernel_rfl] at hx), (fun r t h => by unfold K25 at h; split at h; (injection h with h; subst h; rfl); cases h), (ev25 _ _ _ _ _ _ _ _ _ _ _ _).trans h2⟩
  · cases h
/-! ### L.markIntS -/
noncomputable def G112 : Env := envNil
noncomputable def c112 : Code := bodyOf Try.f112
noncomputable def c112_2 : Code := (loopsOf c112).getD 0 .skip
noncomputable def L.markIntS_l0 : Nat → (Int → List Int → Option (Int × List Int)) → Int → Int → List Int → Option (Int × List Int)
  | 0, _, _, _, _ => none
  | m + 1, e2_0, a3, a4, a5 =>
    (bif (decide (a4 < (a5.length : Int))) then
    (bif decide ((0 : Int) ≤ a4 ∧ a4 < (a5.length : Int)) then
    (L.markIntS_l0 m e2_0 (IntKind.wrap .i64 (a3 + 1)) (IntKind.wrap .i64 (a4 + 1)) (a5.set (Int.toNat a4) a3))
    else
    none)
    else
    (e2_0 a3 a5))
noncomputable def L.markIntS (a1 : Int) (a2 : List Int) : Option (Int × List Int) :=
(L.markIntS_l0 fu (fun y11 y12 =>
(some (y11, y12))) a1 0 a2)
noncomputable def H112_2 : LoopH := ⟨⟨((.one (.sl 0)) :: hh :: (hu 3 (hh :: (hu 13 [])))), [], [(3, (.int .i64), .own)]⟩, [2, 3, 4, 6, 7, 8, 9, 10, 11, 12, 13, 14, 15, 16, 17, 18], [], [0, 2, 3, 5, 6, 7, 8, 9, 10, 11, 12, 13, 14, 15, 16, 17, 18]⟩
noncomputable def E112_2 (m : Nat) (ps : List Prm) (k : Kont (Int × List Int)) : Option (Int × List Int) :=
  match ps with
  | [.v (.int .i64 a3), .v (.int .i64 a4), .row (.int .i64) a5] => L.markIntS_l0 m (fun z15 z16 => k (.exit 0) (⟨((.s1 (.one (.unk))) :: (vi z15) :: (vu 17 [])), [], [⟨3, (.int .i64), z16, .own⟩]⟩ : St)) a3 a4 a5
  | _ => none
noncomputable def S112_2 (a3 a4 : Int) (a5 : List Int) : St := (⟨((vl 0) :: (vi a3) :: (vu 3 ((vi a4) :: (vu 13 [])))), [], [⟨3, (.int .i64), a5, .own⟩]⟩ : St)
theorem ev112_2 (m : Nat) (k : Kont (Int × List Int)) (a3 a4 : Int) (a5 : List Int) : evC Try.prog G112 loopNil c112_2 (S112_2 a3 a4 a5) (turn Try.prog (0, 1) H112_2 (E112_2 m) k) = E112_2 (m + 1) [.v (.int .i64 a3), .v (.int .i64 a4), .row (.int .i64) a5] k := by kernel_rfl
theorem ok112_2 (m : Nat) : LoopOk Try.prog (0, 1) c112_2 (enter Try.prog (0, 1) H112_2 (E112_2 m)) := by
  refine loop_ok (G := G112) (L := loopNil) envNil_good (by intro x hx; simp [show loopsOf c112_2 = [] from by kernel_rfl] at hx) (fun ps k => by unfold E112_2; split <;> rfl) (fun m ps k r h => ?_) m
  have h0 := h
  unfold E112_2 at h
  split at h
  · exact ⟨S112_2 _ _ _, by kernel_rfl, (ev112_2 m k _ _ _).trans h0⟩
  · cases h
noncomputable def L112 : LEnv (Int × List Int) := (loopCons 2 (enter Try.prog (0, 1) H112_2 (E112_2 fu)) loopNil)
theorem lq112 : loopsOf c112 = [c112_2] := by kernel_rfl
theorem fr112_2 : firstReg c112_2 = some 2 := by kernel_rfl
theorem le112_2 : L112 2 = enter Try.prog (0, 1) H112_2 (E112_2 fu) := by kernel_rfl
theorem lm112 : ∀ x ∈ [c112_2], ∀ id, firstReg x = some id → LoopOk Try.prog (0, 1) x (L112 id) := (loops_cons fr112_2 le112_2 (ok112_2 fu) loops_nil)
theorem lp112 : ∀ x ∈ loopsOf c112, ∀ id, firstReg x = some id → LoopOk Try.prog (0, 1) x (L112 id) := loops_eq lq112 lm112
noncomputable def R112 (x : Int × List Int) : Res := ⟨[.one (ai x.1)], [], [⟨3, (.int .i64), x.2, .own⟩]⟩
noncomputable def K112 (r : Res) : Option (Int × List Int) :=
  match r with
  | ⟨[.one (.val (.int .i64 v1))], [], [⟨3, (.int .i64), v2, .own⟩]⟩ => some (v1, v2)
  | _ => none
noncomputable def E112 : Fun2 := fun args bs rs =>
  match args, bs, rs with
  | [.s1 (.one (.sl 0)), .s1 (.one (.val (.int .i64 a1)))], [], [⟨3, (.int .i64), a2, .own⟩] => some ⟨Int × List Int, L.markIntS a1 a2, R112⟩
  | _, _, _ => none
theorem ev112 (a1 : Int) (a2 : List Int) : evF Try.prog G112 L112 (0, 1) Try.f112 c112 [vl 0, vi a1] [] [⟨3, (.int .i64), a2, .own⟩] K112 = L.markIntS a1 a2 := by kernel_rfl
theorem good112 : Vm.Good Try.prog 112 E112 := by
  refine evF_good (G := G112) (c := c112) envNil_good Try.func112 (by kernel_rfl) (by kernel_rfl) (0, 1) (fun args bs rs out t h h2 => ?_)
  unfold E112 at h
  split at h
  · injection h with h
    subst h
    exact ⟨rfl, L112, K112, lp112, (fun r t h => by unfold K112 at h; split at h; (injection h with h; subst h; rfl); cases h), (ev112 _ _).trans h2⟩
  · cases h
/-! ### L.markItemS -/
noncomputable def G81 : Env := (envCons 112 [0] E112 envNil)
noncomputable def c81 : Code := bodyOf Try.f81
noncomputable def c81_2 : Code := (loopsOf c81).getD 0 .skip
noncomputable def L.markItemS_l0 : Nat → (Int → (List (Int × Int × Int × Int × Int × Int × Int × Int × List Int × Bool)) → Option (Int × (List (Int × Int × Int × Int × Int × Int × Int × Int × List Int × Bool)))) → Int → Int → (List (Int × Int × Int × Int × Int × Int × Int × Int × List Int × Bool)) → Option (Int × (List (Int × Int × Int × Int × Int × Int × Int × Int × List Int × Bool)))
  | 0, _, _, _, _ => none
  | m + 1, e2_0, a3, a4, a5 =>
    (bif (decide (a4 < (a5.length : Int))) then
    (bif decide ((0 : Int) ≤ a4 ∧ a4 < (a5.length : Int)) then
    (let v8 : List (Int × Int × Int × Int × Int × Int × Int × Int × List Int × Bool) := (a5.set (Int.toNat a4) (a3, (nthI a5 a4 ((0 : Int), ((0 : Int), ((0 : Int), ((0 : Int), ((0 : Int), ((0 : Int), ((0 : Int), ((0 : Int), ([], false)))))))))).2))
    (let v9 : Int := (IntKind.wrap .i64 (a3 + 1))
    (bif decide ((0 : Int) ≤ a4 ∧ a4 < (v8.length : Int)) then
    (let v10 : List (Int × Int × Int × Int × Int × Int × Int × Int × List Int × Bool) := (v8.set (Int.toNat a4) ((nthI v8 a4 ((0 : Int), ((0 : Int), ((0 : Int), ((0 : Int), ((0 : Int), ((0 : Int), ((0 : Int), ((0 : Int), ([], false)))))))))).1, (v9, (nthI v8 a4 ((0 : Int), ((0 : Int), ((0 : Int), ((0 : Int), ((0 : Int), ((0 : Int), ((0 : Int), ((0 : Int), ([], false)))))))))).2.2)))
    (let v11 : Int := (IntKind.wrap .i64 (v9 + 1))
    (bif decide ((0 : Int) ≤ a4 ∧ a4 < (v10.length : Int)) then
    (let v12 : List (Int × Int × Int × Int × Int × Int × Int × Int × List Int × Bool) := (v10.set (Int.toNat a4) ((nthI v10 a4 ((0 : Int), ((0 : Int), ((0 : Int), ((0 : Int), ((0 : Int), ((0 : Int), ((0 : Int), ((0 : Int), ([], false)))))))))).1, ((nthI v10 a4 ((0 : Int), ((0 : Int), ((0 : Int), ((0 : Int), ((0 : Int), ((0 : Int), ((0 : Int), ((0 : Int), ([], false)))))))))).2.1, (v11, (nthI v10 a4 ((0 : Int), ((0 : Int), ((0 : Int), ((0 : Int), ((0 : Int), ((0 : Int), ((0 : Int), ((0 : Int), ([], false)))))))))).2.2.2))))
    (let v13 : Int := (IntKind.wrap .i64 (v11 + 1))
    (bif decide ((0 : Int) ≤ a4 ∧ a4 < (v12.length : Int)) then
    (let v14 : List (Int × Int × Int × Int × Int × Int × Int × Int × List Int × Bool) := (v12.set (Int.toNat a4) ((nthI v12 a4 ((0 : Int), ((0 : Int), ((0 : Int), ((0 : Int), ((0 : Int), ((0 : Int), ((0 : Int), ((0 : Int), ([], false)))))))))).1, ((nthI v12 a4 ((0 : Int), ((0 : Int), ((0 : Int), ((0 : Int), ((0 : Int), ((0 : Int), ((0 : Int), ((0 : Int), ([], false)))))))))).2.1, ((nthI v12 a4 ((0 : Int), ((0 : Int), ((0 : Int), ((0 : Int), ((0 : Int), ((0 : Int), ((0 : Int), ((0 : Int), ([], false)))))))))).2.2.1, (v13, (nthI v12 a4 ((0 : Int), ((0 : Int), ((0 : Int), ((0 : Int), ((0 : Int), ((0 : Int), ((0 : Int), ((0 : Int), ([], false)))))))))).2.2.2.2)))))
    (let v15 : Int := (IntKind.wrap .i64 (v13 + 1))
    (bif decide ((0 : Int) ≤ a4 ∧ a4 < (v14.length : Int)) then
    (let v16 : List (Int × Int × Int × Int × Int × Int × Int × Int × List Int × Bool) := (v14.set (Int.toNat a4) ((nthI v14 a4 ((0 : Int), ((0 : Int), ((0 : Int), ((0 : Int), ((0 : Int), ((0 : Int), ((0 : Int), ((0 : Int), ([], false)))))))))).1, ((nthI v14 a4 ((0 : Int), ((0 : Int), ((0 : Int), ((0 : Int), ((0 : Int), ((0 : Int), ((0 : Int), ((0 : Int), ([], false)))))))))).2.1, ((nthI v14 a4 ((0 : Int), ((0 : Int), ((0 : Int), ((0 : Int), ((0 : Int), ((0 : Int), ((0 : Int), ((0 : Int), ([], false)))))))))).2.2.1, ((nthI v14 a4 ((0 : Int), ((0 : Int), ((0 : Int), ((0 : Int), ((0 : Int), ((0 : Int), ((0 : Int), ((0 : Int), ([], false)))))))))).2.2.2.1, (v15, (nthI v14 a4 ((0 : Int), ((0 : Int), ((0 : Int), ((0 : Int), ((0 : Int), ((0 : Int), ((0 : Int), ((0 : Int), ([], false)))))))))).2.2.2.2.2))))))
    (let v17 : Int := (IntKind.wrap .i64 (v15 + 1))
    (bif decide ((0 : Int) ≤ a4 ∧ a4 < (v16.length : Int)) then
    (let v18 : List (Int × Int × Int × Int × Int × Int × Int × Int × List Int × Bool) := (v16.set (Int.toNat a4) ((nthI v16 a4 ((0 : Int), ((0 : Int), ((0 : Int), ((0 : Int), ((0 : Int), ((0 : Int), ((0 : Int), ((0 : Int), ([], false)))))))))).1, ((nthI v16 a4 ((0 : Int), ((0 : Int), ((0 : Int), ((0 : Int), ((0 : Int), ((0 : Int), ((0 : Int), ((0 : Int), ([], false)))))))))).2.1, ((nthI v16 a4 ((0 : Int), ((0 : Int), ((0 : Int), ((0 : Int), ((0 : Int), ((0 : Int), ((0 : Int), ((0 : Int), ([], false)))))))))).2.2.1, ((nthI v16 a4 ((0 : Int), ((0 : Int), ((0 : Int), ((0 : Int), ((0 : Int), ((0 : Int), ((0 : Int), ((0 : Int), ([], false)))))))))).2.2.2.1, ((nthI v16 a4 ((0 : Int), ((0 : Int), ((0 : Int), ((0 : Int), ((0 : Int), ((0 : Int), ((0 : Int), ((0 : Int), ([], false)))))))))).2.2.2.2.1, (v17, (nthI v16 a4 ((0 : Int), ((0 : Int), ((0 : Int), ((0 : Int), ((0 : Int), ((0 : Int), ((0 : Int), ((0 : Int), ([], false)))))))))).2.2.2.2.2.2)))))))
    (let v19 : Int := (IntKind.wrap .i64 (v17 + 1))
    (bif decide ((0 : Int) ≤ a4 ∧ a4 < (v18.length : Int)) then
    (let v20 : List (Int × Int × Int × Int × Int × Int × Int × Int × List Int × Bool) := (v18.set (Int.toNat a4) ((nthI v18 a4 ((0 : Int), ((0 : Int), ((0 : Int), ((0 : Int), ((0 : Int), ((0 : Int), ((0 : Int), ((0 : Int), ([], false)))))))))).1, ((nthI v18 a4 ((0 : Int), ((0 : Int), ((0 : Int), ((0 : Int), ((0 : Int), ((0 : Int), ((0 : Int), ((0 : Int), ([], false)))))))))).2.1, ((nthI v18 a4 ((0 : Int), ((0 : Int), ((0 : Int), ((0 : Int), ((0 : Int), ((0 : Int), ((0 : Int), ((0 : Int), ([], false)))))))))).2.2.1, ((nthI v18 a4 ((0 : Int), ((0 : Int), ((0 : Int), ((0 : Int), ((0 : Int), ((0 : Int), ((0 : Int), ((0 : Int), ([], false)))))))))).2.2.2.1, ((nthI v18 a4 ((0 : Int), ((0 : Int), ((0 : Int), ((0 : Int), ((0 : Int), ((0 : Int), ((0 : Int), ((0 : Int), ([], false)))))))))).2.2.2.2.1, ((nthI v18 a4 ((0 : Int), ((0 : Int), ((0 : Int), ((0 : Int), ((0 : Int), ((0 : Int), ((0 : Int), ((0 : Int), ([], false)))))))))).2.2.2.2.2.1, (v19, (nthI v18 a4 ((0 : Int), ((0 : Int), ((0 : Int), ((0 : Int), ((0 : Int), ((0 : Int), ((0 : Int), ((0 : Int), ([], false)))))))))).2.2.2.2.2.2.2))))))))
    (let v21 : Int := (IntKind.wrap .i64 (v19 + 1))
    (bif decide ((0 : Int) ≤ a4 ∧ a4 < (v20.length : Int)) then
    (let v22 : List (Int × Int × Int × Int × Int × Int × Int × Int × List Int × Bool) := (v20.set (Int.toNat a4) ((nthI v20 a4 ((0 : Int), ((0 : Int), ((0 : Int), ((0 : Int), ((0 : Int), ((0 : Int), ((0 : Int), ((0 : Int), ([], false)))))))))).1, ((nthI v20 a4 ((0 : Int), ((0 : Int), ((0 : Int), ((0 : Int), ((0 : Int), ((0 : Int), ((0 : Int), ((0 : Int), ([], false)))))))))).2.1, ((nthI v20 a4 ((0 : Int), ((0 : Int), ((0 : Int), ((0 : Int), ((0 : Int), ((0 : Int), ((0 : Int), ((0 : Int), ([], false)))))))))).2.2.1, ((nthI v20 a4 ((0 : Int), ((0 : Int), ((0 : Int), ((0 : Int), ((0 : Int), ((0 : Int), ((0 : Int), ((0 : Int), ([], false)))))))))).2.2.2.1, ((nthI v20 a4 ((0 : Int), ((0 : Int), ((0 : Int), ((0 : Int), ((0 : Int), ((0 : Int), ((0 : Int), ((0 : Int), ([], false)))))))))).2.2.2.2.1, ((nthI v20 a4 ((0 : Int), ((0 : Int), ((0 : Int), ((0 : Int), ((0 : Int), ((0 : Int), ((0 : Int), ((0 : Int), ([], false)))))))))).2.2.2.2.2.1, ((nthI v20 a4 ((0 : Int), ((0 : Int), ((0 : Int), ((0 : Int), ((0 : Int), ((0 : Int), ((0 : Int), ((0 : Int), ([], false)))))))))).2.2.2.2.2.2.1, (v21, (nthI v20 a4 ((0 : Int), ((0 : Int), ((0 : Int), ((0 : Int), ((0 : Int), ((0 : Int), ((0 : Int), ((0 : Int), ([], false)))))))))).2.2.2.2.2.2.2.2)))))))))
    (bif decide ((0 : Int) ≤ a4 ∧ a4 < (v22.length : Int)) then
    (Option.bind (L.markIntS (IntKind.wrap .i64 (v21 + 1)) ((nthI v22 a4 ((0 : Int), ((0 : Int), ((0 : Int), ((0 : Int), ((0 : Int), ((0 : Int), ((0 : Int), ((0 : Int), ([], false)))))))))).2.2.2.2.2.2.2.2.1)) fun r24 =>
    (let v25 : List (Int × Int × Int × Int × Int × Int × Int × Int × List Int × Bool) := (v22.set (Int.toNat a4) ((nthI v22 a4 ((0 : Int), ((0 : Int), ((0 : Int), ((0 : Int), ((0 : Int), ((0 : Int), ((0 : Int), ((0 : Int), ([], false)))))))))).1, ((nthI v22 a4 ((0 : Int), ((0 : Int), ((0 : Int), ((0 : Int), ((0 : Int), ((0 : Int), ((0 : Int), ((0 : Int), ([], false)))))))))).2.1, ((nthI v22 a4 ((0 : Int), ((0 : Int), ((0 : Int), ((0 : Int), ((0 : Int), ((0 : Int), ((0 : Int), ((0 : Int), ([], false)))))))))).2.2.1, ((nthI v22 a4 ((0 : Int), ((0 : Int), ((0 : Int), ((0 : Int), ((0 : Int), ((0 : Int), ((0 : Int), ((0 : Int), ([], false)))))))))).2.2.2.1, ((nthI v22 a4 ((0 : Int), ((0 : Int), ((0 : Int), ((0 : Int), ((0 : Int), ((0 : Int), ((0 : Int), ((0 : Int), ([], false)))))))))).2.2.2.2.1, ((nthI v22 a4 ((0 : Int), ((0 : Int), ((0 : Int), ((0 : Int), ((0 : Int), ((0 : Int), ((0 : Int), ((0 : Int), ([], false)))))))))).2.2.2.2.2.1, ((nthI v22 a4 ((0 : Int), ((0 : Int), ((0 : Int), ((0 : Int), ((0 : Int), ((0 : Int), ((0 : Int), ((0 : Int), ([], false)))))))))).2.2.2.2.2.2.1, ((nthI v22 a4 ((0 : Int), ((0 : Int), ((0 : Int), ((0 : Int), ((0 : Int), ((0 : Int), ((0 : Int), ((0 : Int), ([], false)))))))))).2.2.2.2.2.2.2.1, (r24.2, (nthI v22 a4 ((0 : Int), ((0 : Int), ((0 : Int), ((0 : Int), ((0 : Int), ((0 : Int), ((0 : Int), ((0 : Int), ([], false)))))))))).2.2.2.2.2.2.2.2.2))))))))))
    (bif decide (3 = 0) then
    none
    else
    (bif decide ((0 : Int) ≤ a4 ∧ a4 < (v25.length : Int)) then
    (let v27 : List (Int × Int × Int × Int × Int × Int × Int × Int × List Int × Bool) := (v25.set (Int.toNat a4) ((nthI v25 a4 ((0 : Int), ((0 : Int), ((0 : Int), ((0 : Int), ((0 : Int), ((0 : Int), ((0 : Int), ((0 : Int), ([], false)))))))))).1, ((nthI v25 a4 ((0 : Int), ((0 : Int), ((0 : Int), ((0 : Int), ((0 : Int), ((0 : Int), ((0 : Int), ((0 : Int), ([], false)))))))))).2.1, ((nthI v25 a4 ((0 : Int), ((0 : Int), ((0 : Int), ((0 : Int), ((0 : Int), ((0 : Int), ((0 : Int), ((0 : Int), ([], false)))))))))).2.2.1, ((nthI v25 a4 ((0 : Int), ((0 : Int), ((0 : Int), ((0 : Int), ((0 : Int), ((0 : Int), ((0 : Int), ((0 : Int), ([], false)))))))))).2.2.2.1, ((nthI v25 a4 ((0 : Int), ((0 : Int), ((0 : Int), ((0 : Int), ((0 : Int), ((0 : Int), ((0 : Int), ((0 : Int), ([], false)))))))))).2.2.2.2.1, ((nthI v25 a4 ((0 : Int), ((0 : Int), ((0 : Int), ((0 : Int), ((0 : Int), ((0 : Int), ((0 : Int), ((0 : Int), ([], false)))))))))).2.2.2.2.2.1, ((nthI v25 a4 ((0 : Int), ((0 : Int), ((0 : Int), ((0 : Int), ((0 : Int), ((0 : Int), ((0 : Int), ((0 : Int), ([], false)))))))))).2.2.2.2.2.2.1, ((nthI v25 a4 ((0 : Int), ((0 : Int), ((0 : Int), ((0 : Int), ((0 : Int), ((0 : Int), ((0 : Int), ((0 : Int), ([], false)))))))))).2.2.2.2.2.2.2.1, ((nthI v25 a4 ((0 : Int), ((0 : Int), ((0 : Int), ((0 : Int), ((0 : Int), ((0 : Int), ((0 : Int), ((0 : Int), ([], false)))))))))).2.2.2.2.2.2.2.2.1, ((Int.tmod r24.1 3) == 0)))))))))))
    (L.markItemS_l0 m e2_0 (IntKind.wrap .i64 (r24.1 + 1)) (IntKind.wrap .i64 (a4 + 1)) v27))
    else
    none))))
    else
    none))
    else
    none)))
    else
    none)))
    else
    none)))
    else
    none)))
    else
    none)))
    else
    none)))
    else
    none)))
    else
    none)
    else
    (e2_0 a3 a5))
noncomputable def L.markItemS (a1 : Int) (a2 : List (Int × Int × Int × Int × Int × Int × Int × Int × List Int × Bool)) : Option (Int × (List (Int × Int × Int × Int × Int × Int × Int × Int × List Int × Bool))) :=
(L.markItemS_l0 fu (fun y30 y31 =>
(some (y30, y31))) a1 0 a2)
noncomputable def H81_2 : LoopH := ⟨⟨((.one (.sl 0)) :: hh :: (hu 3 (hh :: (hu 87 [])))), [], [(138, (.pair (.int .i64) (.pair (.int .i64) (.pair (.int .i64) (.pair (.int .i64) (.pair (.int .i64) (.pair (.int .i64) (.pair (.int .i64) (.pair (.int .i64) (.pair (.sl 3 (.int .i64)) .bool))))))))), .own)]⟩, [2, 3, 4, 6, 7, 8, 9, 10, 11, 12, 13, 14, 15, 16, 17, 18, 19, 20, 21, 22, 23, 24, 25, 26, 27, 28, 29, 30, 31, 32, 33, 34, 35, 36, 37, 38, 39, 40, 41, 42, 43, 44, 45, 46, 47, 48, 49, 50, 51, 52, 53, 54, 55, 56, 57, 58, 59, 60, 61, 62, 63, 64, 65, 66, 67, 68, 69, 70, 71, 72, 73, 74, 75, 76, 77, 78, 79, 80, 81, 82, 83, 84, 85, 86, 87, 88, 89, 90, 91, 92], [], [0, 2, 3, 5, 6, 7, 8, 9, 10, 11, 12, 13, 14, 15, 16, 17, 18, 19, 20, 21, 22, 23, 24, 25, 26, 27, 28, 29, 30, 31, 32, 33, 34, 35, 36, 37, 38, 39, 40, 41, 42, 43, 44, 45, 46, 47, 48, 49, 50, 51, 52, 53, 54, 55, 56, 57, 58, 59, 60, 61, 62, 63, 64, 65, 66, 67, 68, 69, 70, 71, 72, 73, 74, 75, 76, 77, 78, 79, 80, 81, 82, 83, 84, 85, 86, 87, 88, 89, 90, 91, 92]⟩
noncomputable def E81_2 (m : Nat) (ps : List Prm) (k : Kont (Int × (List (Int × Int × Int × Int × Int × Int × Int × Int × List Int × Bool)))) : Option (Int × (List (Int × Int × Int × Int × Int × Int × Int × Int × List Int × Bool))) :=
  match ps with
  | [.v (.int .i64 a3), .v (.int .i64 a4), .row (.pair (.int .i64) (.pair (.int .i64) (.pair (.int .i64) (.pair (.int .i64) (.pair (.int .i64) (.pair (.int .i64) (.pair (.int .i64) (.pair (.int .i64) (.pair (.sl 3 (.int .i64)) .bool))))))))) a5] => L.markItemS_l0 m (fun z34 z35 => k (.exit 0) (⟨((.s1 (.one (.unk))) :: (vi z34) :: (vu 91 [])), [], [⟨138, (.pair (.int .i64) (.pair (.int .i64) (.pair (.int .i64) (.pair (.int .i64) (.pair (.int .i64) (.pair (.int .i64) (.pair (.int .i64) (.pair (.int .i64) (.pair (.sl 3 (.int .i64)) .bool))))))))), z35, .own⟩]⟩ : St)) a3 a4 a5
  | _ => none
noncomputable def S81_2 (a3 a4 : Int) (a5 : List (Int × Int × Int × Int × Int × Int × Int × Int × List Int × Bool)) : St := (⟨((vl 0) :: (vi a3) :: (vu 3 ((vi a4) :: (vu 87 [])))), [], [⟨138, (.pair (.int .i64) (.pair (.int .i64) (.pair (.int .i64) (.pair (.int .i64) (.pair (.int .i64) (.pair (.int .i64) (.pair (.int .i64) (.pair (.int .i64) (.pair (.sl 3 (.int .i64)) .bool))))))))), a5, .own⟩]⟩ : St)
theorem ev81_2 (m : Nat) (k : Kont (Int × (List (Int × Int × Int × Int × Int × Int × Int × Int × List Int × Bool)))) (a3 a4 : Int) (a5 : List (Int × Int × Int × Int × Int × Int × Int × Int × List Int × Bool)) : evC Try.prog G81 loopNil c81_2 (S81_2 a3 a4 a5) (turn Try.prog (0, 1) H81_2 (E81_2 m) k) = E81_2 (m + 1) [.v (.int .i64 a3), .v (.int .i64 a4), .row (.pair (.int .i64) (.pair (.int .i64) (.pair (.int .i64) (.pair (.int .i64) (.pair (.int .i64) (.pair (.int .i64) (.pair (.int .i64) (.pair (.int .i64) (.pair (.sl 3 (.int .i64)) .bool))))))))) a5] k := by kernel_rfl
theorem ok81_2 (m : Nat) : LoopOk Try.prog (0, 1) c81_2 (enter Try.prog (0, 1) H81_2 (E81_2 m)) := by
  refine loop_ok (G := G81) (L := loopNil) (envCons_good good112 envNil_good) (by intro x hx; simp [show loopsOf c81_2 = [] from by kernel_rfl] at hx) (fun ps k => by unfold E81_2; split <;> rfl) (fun m ps k r h => ?_) m
  have h0 := h
  unfold E81_2 at h
  split at h
  · exact ⟨S81_2 _ _ _, by kernel_rfl, (ev81_2 m k _ _ _).trans h0⟩
  · cases h
noncomputable def L81 : LEnv (Int × (List (Int × Int × Int × Int × Int × Int × Int × Int × List Int × Bool))) := (loopCons 2 (enter Try.prog (0, 1) H81_2 (E81_2 fu)) loopNil)
theorem lq81 : loopsOf c81 = [c81_2] := by kernel_rfl
theorem fr81_2 : firstReg c81_2 = some 2 := by kernel_rfl
theorem le81_2 : L81 2 = enter Try.prog (0, 1) H81_2 (E81_2 fu) := by kernel_rfl
theorem lm81 : ∀ x ∈ [c81_2], ∀ id, firstReg x = some id → LoopOk Try.prog (0, 1) x (L81 id) := (loops_cons fr81_2 le81_2 (ok81_2 fu) loops_nil)
theorem lp81 : ∀ x ∈ loopsOf c81, ∀ id, firstReg x = some id → LoopOk Try.prog (0, 1) x (L81 id) := loops_eq lq81 lm81
noncomputable def R81 (x : Int × (List (Int × Int × Int × Int × Int × Int × Int × Int × List Int × Bool))) : Res := ⟨[.one (ai x.1)], [], [⟨138, (.pair (.int .i64) (.pair (.int .i64) (.pair (.int .i64) (.pair (.int .i64) (.pair (.int .i64) (.pair (.int .i64) (.pair (.int .i64) (.pair (.int .i64) (.pair (.sl 3 (.int .i64)) .bool))))))))), x.2, .own⟩]⟩
noncomputable def K81 (r : Res) : Option (Int × (List (Int × Int × Int × Int × Int × Int × Int × Int × List Int × Bool))) :=
  match r with
  | ⟨[.one (.val (.int .i64 v1))], [], [⟨138, (.pair (.int .i64) (.pair (.int .i64) (.pair (.int .i64) (.pair (.int .i64) (.pair (.int .i64) (.pair (.int .i64) (.pair (.int .i64) (.pair (.int .i64) (.pair (.sl 3 (.int .i64)) .bool))))))))), v2, .own⟩]⟩ => some (v1, v2)
  | _ => none
noncomputable def E81 : Fun2 := fun args bs rs =>
  match args, bs, rs with
  | [.s1 (.one (.sl 0)), .s1 (.one (.val (.int .i64 a1)))], [], [⟨138, (.pair (.int .i64) (.pair (.int .i64) (.pair (.int .i64) (.pair (.int .i64) (.pair (.int .i64) (.pair (.int .i64) (.pair (.int .i64) (.pair (.int .i64) (.pair (.sl 3 (.int .i64)) .bool))))))))), a2, .own⟩] => some ⟨Int × (List (Int × Int × Int × Int × Int × Int × Int × Int × List Int × Bool)), L.markItemS a1 a2, R81⟩
  | _, _, _ => none
theorem ev81 (a1 : Int) (a2 : List (Int × Int × Int × Int × Int × Int × Int × Int × List Int × Bool)) : evF Try.prog G81 L81 (0, 1) Try.f81 c81 [vl 0, vi a1] [] [⟨138, (.pair (.int .i64) (.pair (.int .i64) (.pair (.int .i64) (.pair (.int .i64) (.pair (.int .i64) (.pair (.int .i64) (.pair (.int .i64) (.pair (.int .i64) (.pair (.sl 3 (.int .i64)) .bool))))))))), a2, .own⟩] K81 = L.markItemS a1 a2 := by kernel_rfl
theorem good81 : Vm.Good Try.prog 81 E81 := by
  refine evF_good (G := G81) (c := c81) (envCons_good good112 envNil_good) Try.func81 (by kernel_rfl) (by kernel_rfl) (0, 1) (fun args bs rs out t h h2 => ?_)
  unfold E81 at h
  split at h
  · injection h with h
    subst h
    exact ⟨rfl, L81, K81, lp81, (fun r t h => by unfold K81 at h; split at h; (injection h with h; subst h; rfl); cases h), (ev81 _ _).trans h2⟩
  · cases h
/-! ### L.markRecS -/
noncomputable def G82 : Env := envNil
noncomputable def c82 : Code := bodyOf Try.f82
noncomputable def c82_2 : Code := (loopsOf c82).getD 0 .skip
noncomputable def L.markRecS_l0 : Nat → (Int → (List (Int × Int × Int)) → Option (Int × (List (Int × Int × Int)))) → Int → Int → (List (Int × Int × Int)) → Option (Int × (List (Int × Int × Int)))
  | 0, _, _, _, _ => none
  | m + 1, e2_0, a3, a4, a5 =>
    (bif (decide (a4 < (a5.length : Int))) then
    (bif decide ((0 : Int) ≤ a4 ∧ a4 < (a5.length : Int)) then
    (let v8 : List (Int × Int × Int) := (a5.set (Int.toNat a4) (a3, (nthI a5 a4 ((0 : Int), ((0 : Int), (0 : Int)))).2))
    (let v9 : Int := (IntKind.wrap .i64 (a3 + 1))
    (bif decide ((0 : Int) ≤ a4 ∧ a4 < (v8.length : Int)) then
    (let v10 : List (Int × Int × Int) := (v8.set (Int.toNat a4) ((nthI v8 a4 ((0 : Int), ((0 : Int), (0 : Int)))).1, (v9, (nthI v8 a4 ((0 : Int), ((0 : Int), (0 : Int)))).2.2)))
    (let v11 : Int := (IntKind.wrap .i64 (v9 + 1))
    (bif decide ((0 : Int) ≤ a4 ∧ a4 < (v10.length : Int)) then
    (let v12 : List (Int × Int × Int) := (v10.set (Int.toNat a4) ((nthI v10 a4 ((0 : Int), ((0 : Int), (0 : Int)))).1, ((nthI v10 a4 ((0 : Int), ((0 : Int), (0 : Int)))).2.1, v11)))
    (L.markRecS_l0 m e2_0 (IntKind.wrap .i64 (v11 + 1)) (IntKind.wrap .i64 (a4 + 1)) v12))
    else
    none)))
    else
    none)))
    else
    none)
    else
    (e2_0 a3 a5))
noncomputable def L.markRecS (a1 : Int) (a2 : List (Int × Int × Int)) : Option (Int × (List (Int × Int × Int))) :=
(L.markRecS_l0 fu (fun y15 y16 =>
(some (y15, y16))) a1 0 a2)
noncomputable def H82_2 : LoopH := ⟨⟨((.one (.sl 0)) :: hh :: (hu 3 (hh :: (hu 28 [])))), [], [(141, (.pair (.int .i64) (.pair (.int .i64) (.int .i64))), .own)]⟩, [2, 3, 4, 6, 7, 8, 9, 10, 11, 12, 13, 14, 15, 16, 17, 18, 19, 20, 21, 22, 23, 24, 25, 26, 27, 28, 29, 30, 31, 32, 33], [], [0, 2, 3, 5, 6, 7, 8, 9, 10, 11, 12, 13, 14, 15, 16, 17, 18, 19, 20, 21, 22, 23, 24, 25, 26, 27, 28, 29, 30, 31, 32, 33]⟩
noncomputable def E82_2 (m : Nat) (ps : List Prm) (k : Kont (Int × (List (Int × Int × Int)))) : Option (Int × (List (Int × Int × Int))) :=
  match ps with
  | [.v (.int .i64 a3), .v (.int .i64 a4), .row (.pair (.int .i64) (.pair (.int .i64) (.int .i64))) a5] => L.markRecS_l0 m (fun z19 z20 => k (.exit 0) (⟨((.s1 (.one (.unk))) :: (vi z19) :: (vu 32 [])), [], [⟨141, (.pair (.int .i64) (.pair (.int .i64) (.int .i64))), z20, .own⟩]⟩ : St)) a3 a4 a5
  | _ => none
noncomputable def S82_2 (a3 a4 : Int) (a5 : List (Int × Int × Int)) : St := (⟨((vl 0) :: (vi a3) :: (vu 3 ((vi a4) :: (vu 28 [])))), [], [⟨141, (.pair (.int .i64) (.pair (.int .i64) (.int .i64))), a5, .own⟩]⟩ : St)
theorem ev82_2 (m : Nat) (k : Kont (Int × (List (Int × Int × Int)))) (a3 a4 : Int) (a5 : List (Int × Int × Int)) : evC Try.prog G82 loopNil c82_2 (S82_2 a3 a4 a5) (turn Try.prog (0, 1) H82_2 (E82_2 m) k) = E82_2 (m + 1) [.v (.int .i64 a3), .v (.int .i64 a4), .row (.pair (.int .i64) (.pair (.int .i64) (.int .i64))) a5] k := by kernel_rfl
theorem ok82_2 (m : Nat) : LoopOk Try.prog (0, 1) c82_2 (enter Try.prog (0, 1) H82_2 (E82_2 m)) := by
  refine loop_ok (G := G82) (L := loopNil) envNil_good (by intro x hx; simp [show loopsOf c82_2 = [] from by kernel_rfl] at hx) (fun ps k => by unfold E82_2; split <;> rfl) (fun m ps k r h => ?_) m
  have h0 := h
  unfold E82_2 at h
  split at h
  · exact ⟨S82_2 _ _ _, by kernel_rfl, (ev82_2 m k _ _ _).trans h0⟩
  · cases h
noncomputable def L82 : LEnv (Int × (List (Int × Int × Int))) := (loopCons 2 (enter Try.prog (0, 1) H82_2 (E82_2 fu)) loopNil)
theorem lq82 : loopsOf c82 = [c82_2] := by kernel_rfl
theorem fr82_2 : firstReg c82_2 = some 2 := by kernel_rfl
theorem le82_2 : L82 2 = enter Try.prog (0, 1) H82_2 (E82_2 fu) := by kernel_rfl
theorem lm82 : ∀ x ∈ [c82_2], ∀ id, firstReg x = some id → LoopOk Try.prog (0, 1) x (L82 id) := (loops_cons fr82_2 le82_2 (ok82_2 fu) loops_nil)
theorem lp82 : ∀ x ∈ loopsOf c82, ∀ id, firstReg x = some id → LoopOk Try.prog (0, 1) x (L82 id) := loops_eq lq82 lm82
noncomputable def R82 (x : Int × (List (Int × Int × Int))) : Res := ⟨[.one (ai x.1)], [], [⟨141, (.pair (.int .i64) (.pair (.int .i64) (.int .i64))), x.2, .own⟩]⟩
noncomputable def K82 (r : Res) : Option (Int × (List (Int × Int × Int))) :=
  match r with
  | ⟨[.one (.val (.int .i64 v1))], [], [⟨141, (.pair (.int .i64) (.pair (.int .i64) (.int .i64))), v2, .own⟩]⟩ => some (v1, v2)
  | _ => none
noncomputable def E82 : Fun2 := fun args bs rs =>
  match args, bs, rs with
  | [.s1 (.one (.sl 0)), .s1 (.one (.val (.int .i64 a1)))], [], [⟨141, (.pair (.int .i64) (.pair (.int .i64) (.int .i64))), a2, .own⟩] => some ⟨Int × (List (Int × Int × Int)), L.markRecS a1 a2, R82⟩
  | _, _, _ => none
theorem ev82 (a1 : Int) (a2 : List (Int × Int × Int)) : evF Try.prog G82 L82 (0, 1) Try.f82 c82 [vl 0, vi a1] [] [⟨141, (.pair (.int .i64) (.pair (.int .i64) (.int .i64))), a2, .own⟩] K82 = L.markRecS a1 a2 := by kernel_rfl
theorem good82 : Vm.Good Try.prog 82 E82 := by
  refine evF_good (G := G82) (c := c82) envNil_good Try.func82 (by kernel_rfl) (by kernel_rfl) (0, 1) (fun args bs rs out t h h2 => ?_)
  unfold E82 at h
  split at h
  · injection h with h
    subst h
    exact ⟨rfl, L82, K82, lp82, (fun r t h => by unfold K82 at h; split at h; (injection h with h; subst h; rfl); cases h), (ev82 _ _).trans h2⟩
  · cases h
/-! ### L.markBox -/
noncomputable def G26 : Env := (envCons 81 [0] E81 (envCons 82 [0] E82 envNil))
noncomputable def c26 : Code := bodyOf Try.f26
noncomputable def L.markBox (a1 a2 a3 a4 a5 : Int) (a6 : List (Int × Int × Int × Int × Int × Int × Int × Int × List Int × Bool)) (a7 : List (Int × Int × Int)) : Option (Int × (List (Int × Int × Int × Int × Int × Int × Int × Int × List Int × Bool)) × (List (Int × Int × Int))) :=
(Option.bind (L.markItemS a5 a6) fun r8 =>
(Option.bind (L.markRecS r8.1 a7) fun r9 =>
(some (r9.1, r8.2, r9.2))))
noncomputable def R26 (x : Int × (List (Int × Int × Int × Int × Int × Int × Int × Int × List Int × Bool)) × (List (Int × Int × Int))) : Res := ⟨[.one (ai x.1)], [], [⟨138, (.pair (.int .i64) (.pair (.int .i64) (.pair (.int .i64) (.pair (.int .i64) (.pair (.int .i64) (.pair (.int .i64) (.pair (.int .i64) (.pair (.int .i64) (.pair (.sl 3 (.int .i64)) .bool))))))))), x.2.1, .own⟩, ⟨141, (.pair (.int .i64) (.pair (.int .i64) (.int .i64))), x.2.2, .own⟩]⟩
noncomputable def K26 (r : Res) : Option (Int × (List (Int × Int × Int × Int × Int × Int × Int × Int × List Int × Bool)) × (List (Int × Int × Int))) :=
  match r with
  | ⟨[.one (.val (.int .i64 v1))], [], [⟨138, (.pair (.int .i64) (.pair (.int .i64) (.pair (.int .i64) (.pair (.int .i64) (.pair (.int .i64) (.pair (.int .i64) (.pair (.int .i64) (.pair (.int .i64) (.pair (.sl 3 (.int .i64)) .bool))))))))), v2, .own⟩, ⟨141, (.pair (.int .i64) (.pair (.int .i64) (.int .i64))), v3, .own⟩]⟩ => some (v1, v2, v3)
  | _ => none
noncomputable def E26 : Fun2 := fun args bs rs =>
  match args, bs, rs with
  | [.s1 (.agg [.val (.int .i64 a1), .val (.int .i64 a2), .val (.int .i64 a3), .val (.int .i64 a4), .sl 0, .sl 1]), .s1 (.one (.val (.int .i64 a5)))], [], [⟨138, (.pair (.int .i64) (.pair (.int .i64) (.pair (.int .i64) (.pair (.int .i64) (.pair (.int .i64) (.pair (.int .i64) (.pair (.int .i64) (.pair (.int .i64) (.pair (.sl 3 (.int .i64)) .bool))))))))), a6, .own⟩, ⟨141, (.pair (.int .i64) (.pair (.int .i64) (.int .i64))), a7, .own⟩] => some ⟨Int × (List (Int × Int × Int × Int × Int × Int × Int × Int × List Int × Bool)) × (List (Int × Int × Int)), L.markBox a1 a2 a3 a4 a5 a6 a7, R26⟩
  | _, _, _ => none
theorem ev26 (a1 a2 a3 a4 a5 : Int) (a6 : List (Int × Int × Int × Int × Int × Int × Int × Int × List Int × Bool)) (a7 : List (Int × Int × Int)) : evF Try.prog G26 loopNil (0, 2) Try.f26 c26 [.s1 (.agg [ai a1, ai a2, ai a3, ai a4, .sl 0, .sl 1]), vi a5] [] [⟨138, (.pair (.int .i64) (.pair (.int .i64) (.pair (.int .i64) (.pair (.int .i64) (.pair (.int .i64) (.pair (.int .i64) (.pair (.int .i64) (.pair (.int .i64) (.pair (.sl 3 (.int .i64)) .bool))))))))), a6, .own⟩, ⟨141, (.pair (.int .i64) (.pair (.int .i64) (.int .i64))), a7, .own⟩] K26 = L.markBox a1 a2 a3 a4 a5 a6 a7 := by kernel_rfl
theorem good26 : Vm.Good Try.prog 26 E26 := by
  refine evF_good (G := G26) (c := c26) (envCons_good good81 (envCons_good good82 envNil_good)) Try.func26 (by kernel_rfl) (by kernel_rfl) (0, 2) (fun args bs rs out t h h2 => ?_)
  unfold E26 at h
  split at h
  · injection h with h
    subst h
    exact ⟨rfl, loopNil, K26, (by intro x hx; simp [show loopsOf c26 = [] from by kernel_rfl] at hx), (fun r t h => by unfold K26 at h; split at h; (injection h with h; subst h; rfl); cases h), (ev26 _ _ _ _ _ _ _).trans h2⟩
  · cases h
/-! ### L.heldIntS -/
noncomputable def G113 : Env := envNil
noncomputable def c113 : Code := bodyOf Try.f113
noncomputable def c113_2 : Code := (loopsOf c113).getD 0 .skip
noncomputable def L.heldIntS_l0 : Nat → (Int → Int → Option Int) → (Int → Option Int) → Int → Int → List Int → Option Int
  | 0, _, _, _, _, _ => none
  | m + 1, e2_0, e2_1, a3, a4, a5 =>
    (bif (decide (a4 < (a5.length : Int))) then
    (bif decide ((0 : Int) ≤ a4 ∧ a4 < (a5.length : Int)) then
    (bif ((nthI a5 a4 (0 : Int)) != a3) then
    (e2_0 a3 (-1))
    else
    (L.heldIntS_l0 m e2_0 e2_1 (IntKind.wrap .i64 (a3 + 1)) (IntKind.wrap .i64 (a4 + 1)) a5))
    else
    none)
    else
    (e2_1 a3))
noncomputable def L.heldIntS (a1 : Int) (a2 : List Int) : Option Int :=
(L.heldIntS_l0 fu (fun y11 y12 =>
(some y12)) (fun y13 =>
(some y13)) a1 0 a2)
noncomputable def H113_2 : LoopH := ⟨⟨((.one (.sl 0)) :: hh :: (hu 3 (hh :: (hu 15 [])))), [], [(3, (.int .i64), .ro)]⟩, [2, 3, 4, 6, 7, 8, 9, 10, 11, 12, 13, 14, 15, 16, 17, 18, 19, 20], [], [0, 2, 3, 5, 6, 7, 8, 9, 10, 11, 12, 13, 14, 15, 16, 17, 18, 19, 20]⟩
noncomputable def E113_2 (m : Nat) (ps : List Prm) (k : Kont Int) : Option Int :=
  match ps with
  | [.v (.int .i64 a3), .v (.int .i64 a4), .row (.int .i64) a5] => L.heldIntS_l0 m (fun z17 z18 => k .ret (⟨((.s1 (.one (.unk))) :: (vi z17) :: (vu 2 ((vi z18) :: (vu 16 [])))), [], []⟩ : St)) (fun z19 => k (.exit 0) (⟨((.s1 (.one (.unk))) :: (vi z19) :: (vu 19 [])), [], []⟩ : St)) a3 a4 a5
  | _ => none
noncomputable def S113_2 (a3 a4 : Int) (a5 : List Int) : St := (⟨((vl 0) :: (vi a3) :: (vu 3 ((vi a4) :: (vu 15 [])))), [], [⟨3, (.int .i64), a5, .ro⟩]⟩ : St)
theorem ev113_2 (m : Nat) (k : Kont Int) (a3 a4 : Int) (a5 : List Int) : evC Try.prog G113 loopNil c113_2 (S113_2 a3 a4 a5) (turn Try.prog (0, 0) H113_2 (E113_2 m) k) = E113_2 (m + 1) [.v (.int .i64 a3), .v (.int .i64 a4), .row (.int .i64) a5] k := by kernel_rfl
theorem ok113_2 (m : Nat) : LoopOk Try.prog (0, 0) c113_2 (enter Try.prog (0, 0) H113_2 (E113_2 m)) := by
  refine loop_ok (G := G113) (L := loopNil) envNil_good (by intro x hx; simp [show loopsOf c113_2 = [] from by kernel_rfl] at hx) (fun ps k => by unfold E113_2; split <;> rfl) (fun m ps k r h => ?_) m
  have h0 := h
  unfold E113_2 at h
  split at h
  · exact ⟨S113_2 _ _ _, by kernel_rfl, (ev113_2 m k _ _ _).trans h0⟩
  · cases h
noncomputable def L113 : LEnv Int := (loopCons 2 (enter Try.prog (0, 0) H113_2 (E113_2 fu)) loopNil)
theorem lq113 : loopsOf c113 = [c113_2] := by kernel_rfl
theorem fr113_2 : firstReg c113_2 = some 2 := by kernel_rfl
theorem le113_2 : L113 2 = enter Try.prog (0, 0) H113_2 (E113_2 fu) := by kernel_rfl
theorem lm113 : ∀ x ∈ [c113_2], ∀ id, firstReg x = some id → LoopOk Try.prog (0, 0) x (L113 id) := (loops_cons fr113_2 le113_2 (ok113_2 fu) loops_nil)
theorem lp113 : ∀ x ∈ loopsOf c113, ∀ id, firstReg x = some id → LoopOk Try.prog (0, 0) x (L113 id) := loops_eq lq113 lm113
noncomputable def R113 (x : Int) : Res := ⟨[.one (ai x)], [], []⟩
noncomputable def K113 (r : Res) : Option Int :=
  match r with
  | ⟨[.one (.val (.int .i64 v1))], [], []⟩ => some (v1)
  | _ => none
noncomputable def E113 : Fun2 := fun args bs rs =>
  match args, bs, rs with
  | [.s1 (.one (.sl 0)), .s1 (.one (.val (.int .i64 a1)))], [], [⟨3, (.int .i64), a2, .ro⟩] => some ⟨Int, L.heldIntS a1 a2, R113⟩
  | _, _, _ => none
theorem ev113 (a1 : Int) (a2 : List Int) : evF Try.prog G113 L113 (0, 0) Try.f113 c113 [vl 0, vi a1] [] [⟨3, (.int .i64), a2, .ro⟩] K113 = L.heldIntS a1 a2 := by kernel_rfl
theorem good113 : Vm.Good Try.prog 113 E113 := by
  refine evF_good (G := G113) (c := c113) envNil_good Try.func113 (by kernel_rfl) (by kernel_rfl) (0, 0) (fun args bs rs out t h h2 => ?_)
  unfold E113 at h
  split at h
  · injection h with h
    subst h
    exact ⟨rfl, L113, K113, lp113, (fun r t h => by unfold K113 at h; split at h; (injection h with h; subst h; rfl); cases h), (ev113 _ _).trans h2⟩
  · cases h
/-! ### L.heldItemS -/
noncomputable def G83 : Env := (envCons 113 [] E113 envNil)
noncomputable def c83 : Code := bodyOf Try.f83
noncomputable def c83_2 : Code := (loopsOf c83).getD 0 .skip
noncomputable def L.heldItemS_l0 : Nat → (Int → Int → Option Int) → (Int → Option Int) → Int → Int → (List (Int × Int × Int × Int × Int × Int × Int × Int × List Int × Bool)) → Option Int
  | 0, _, _, _, _, _ => none
  | m + 1, e2_0, e2_1, a3, a4, a5 =>
    (bif (decide (a4 < (a5.length : Int))) then
    (bif decide ((0 : Int) ≤ a4 ∧ a4 < (a5.length : Int)) then
    (let v8 : Bool := ((nthI a5 a4 ((0 : Int), ((0 : Int), ((0 : Int), ((0 : Int), ((0 : Int), ((0 : Int), ((0 : Int), ((0 : Int), ([], false)))))))))).1 != a3)
    (bif v8 then
    (e2_0 a3 (-1))
    else
    (let v9 : Int := (IntKind.wrap .i64 (a3 + 1))
    (bif decide ((0 : Int) ≤ a4 ∧ a4 < (a5.length : Int)) then
    (let v10 : Bool := ((nthI a5 a4 ((0 : Int), ((0 : Int), ((0 : Int), ((0 : Int), ((0 : Int), ((0 : Int), ((0 : Int), ((0 : Int), ([], false)))))))))).2.1 != v9)
    (bif v10 then
    (e2_0 v9 (-1))
    else
    (let v11 : Int := (IntKind.wrap .i64 (v9 + 1))
    (bif decide ((0 : Int) ≤ a4 ∧ a4 < (a5.length : Int)) then
    (let v12 : Bool := ((nthI a5 a4 ((0 : Int), ((0 : Int), ((0 : Int), ((0 : Int), ((0 : Int), ((0 : Int), ((0 : Int), ((0 : Int), ([], false)))))))))).2.2.1 != v11)
    (bif v12 then
    (e2_0 v11 (-1))
    else
    (let v13 : Int := (IntKind.wrap .i64 (v11 + 1))
    (bif decide ((0 : Int) ≤ a4 ∧ a4 < (a5.length : Int)) then
    (let v14 : Bool := ((nthI a5 a4 ((0 : Int), ((0 : Int), ((0 : Int), ((0 : Int), ((0 : Int), ((0 : Int), ((0 : Int), ((0 : Int), ([], false)))))))))).2.2.2.1 != v13)
    (bif v14 then
    (e2_0 v13 (-1))
    else
    (let v15 : Int := (IntKind.wrap .i64 (v13 + 1))
    (bif decide ((0 : Int) ≤ a4 ∧ a4 < (a5.length : Int)) then
    (let v16 : Bool := ((nthI a5 a4 ((0 : Int), ((0 : Int), ((0 : Int), ((0 : Int), ((0 : Int), ((0 : Int), ((0 : Int), ((0 : Int), ([], false)))))))))).2.2.2.2.1 != v15)
    (bif v16 then
    (e2_0 v15 (-1))
    else
    (let v17 : Int := (IntKind.wrap .i64 (v15 + 1))
    (bif decide ((0 : Int) ≤ a4 ∧ a4 < (a5.length : Int)) then
    (let v18 : Bool := ((nthI a5 a4 ((0 : Int), ((0 : Int), ((0 : Int), ((0 : Int), ((0 : Int), ((0 : Int), ((0 : Int), ((0 : Int), ([], false)))))))))).2.2.2.2.2.1 != v17)
    (bif v18 then
    (e2_0 v17 (-1))
    else
    (let v19 : Int := (IntKind.wrap .i64 (v17 + 1))
    (bif decide ((0 : Int) ≤ a4 ∧ a4 < (a5.length : Int)) then
    (let v20 : Bool := ((nthI a5 a4 ((0 : Int), ((0 : Int), ((0 : Int), ((0 : Int), ((0 : Int), ((0 : Int), ((0 : Int), ((0 : Int), ([], false)))))))))).2.2.2.2.2.2.1 != v19)
    (bif v20 then
    (e2_0 v19 (-1))
    else
    (let v21 : Int := (IntKind.wrap .i64 (v19 + 1))
    (bif decide ((0 : Int) ≤ a4 ∧ a4 < (a5.length : Int)) then
    (let v22 : Bool := ((nthI a5 a4 ((0 : Int), ((0 : Int), ((0 : Int), ((0 : Int), ((0 : Int), ((0 : Int), ((0 : Int), ((0 : Int), ([], false)))))))))).2.2.2.2.2.2.2.1 != v21)
    (bif v22 then
    (e2_0 v21 (-1))
    else
    (bif decide ((0 : Int) ≤ a4 ∧ a4 < (a5.length : Int)) then
    (Option.bind (L.heldIntS (IntKind.wrap .i64 (v21 + 1)) ((nthI a5 a4 ((0 : Int), ((0 : Int), ((0 : Int), ((0 : Int), ((0 : Int), ((0 : Int), ((0 : Int), ((0 : Int), ([], false)))))))))).2.2.2.2.2.2.2.2.1)) fun r24 =>
    (bif (decide (r24 < 0)) then
    (e2_0 r24 (-1))
    else
    (bif decide ((0 : Int) ≤ a4 ∧ a4 < (a5.length : Int)) then
    (bif decide (3 = 0) then
    none
    else
    (let v27 : Bool := (!((nthI a5 a4 ((0 : Int), ((0 : Int), ((0 : Int), ((0 : Int), ((0 : Int), ((0 : Int), ((0 : Int), ((0 : Int), ([], false)))))))))).2.2.2.2.2.2.2.2.2 == ((Int.tmod r24 3) == 0)))
    (bif v27 then
    (e2_0 r24 (-1))
    else
    (L.heldItemS_l0 m e2_0 e2_1 (IntKind.wrap .i64 (r24 + 1)) (IntKind.wrap .i64 (a4 + 1)) a5))))
    else
    none)))
    else
    none)))
    else
    none))))
    else
    none))))
    else
    none))))
    else
    none))))
    else
    none))))
    else
    none))))
    else
    none))))
    else
    none)
    else
    (e2_1 a3))
noncomputable def L.heldItemS (a1 : Int) (a2 : List (Int × Int × Int × Int × Int × Int × Int × Int × List Int × Bool)) : Option Int :=
(L.heldItemS_l0 fu (fun y30 y31 =>
(some y31)) (fun y32 =>
(some y32)) a1 0 a2)
noncomputable def H83_2 : LoopH := ⟨⟨((.one (.sl 0)) :: hh :: (hu 3 (hh :: (hu 107 [])))), [], [(138, (.pair (.int .i64) (.pair (.int .i64) (.pair (.int .i64) (.pair (.int .i64) (.pair (.int .i64) (.pair (.int .i64) (.pair (.int .i64) (.pair (.int .i64) (.pair (.sl 3 (.int .i64)) .bool))))))))), .ro)]⟩, [2, 3, 4, 6, 7, 8, 9, 10, 11, 12, 13, 14, 15, 16, 17, 18, 19, 20, 21, 22, 23, 24, 25, 26, 27, 28, 29, 30, 31, 32, 33, 34, 35, 36, 37, 38, 39, 40, 41, 42, 43, 44, 45, 46, 47, 48, 49, 50, 51, 52, 53, 54, 55, 56, 57, 58, 59, 60, 61, 62, 63, 64, 65, 66, 67, 68, 69, 70, 71, 72, 73, 74, 75, 76, 77, 78, 79, 80, 81, 82, 83, 84, 85, 86, 87, 88, 89, 90, 91, 92, 93, 94, 95, 96, 97, 98, 99, 100, 101, 102, 103, 104, 105, 106, 107, 108, 109, 110, 111, 112], [], [0, 2, 3, 5, 6, 7, 8, 9, 10, 11, 12, 13, 14, 15, 16, 17, 18, 19, 20, 21, 22, 23, 24, 25, 26, 27, 28, 29, 30, 31, 32, 33, 34, 35, 36, 37, 38, 39, 40, 41, 42, 43, 44, 45, 46, 47, 48, 49, 50, 51, 52, 53, 54, 55, 56, 57, 58, 59, 60, 61, 62, 63, 64, 65, 66, 67, 68, 69, 70, 71, 72, 73, 74, 75, 76, 77, 78, 79, 80, 81, 82, 83, 84, 85, 86, 87, 88, 89, 90, 91, 92, 93, 94, 95, 96, 97, 98, 99, 100, 101, 102, 103, 104, 105, 106, 107, 108, 109, 110, 111, 112]⟩
noncomputable def E83_2 (m : Nat) (ps : List Prm) (k : Kont Int) : Option Int :=
  match ps with
  | [.v (.int .i64 a3), .v (.int .i64 a4), .row (.pair (.int .i64) (.pair (.int .i64) (.pair (.int .i64) (.pair (.int .i64) (.pair (.int .i64) (.pair (.int .i64) (.pair (.int .i64) (.pair (.int .i64) (.pair (.sl 3 (.int .i64)) .bool))))))))) a5] => L.heldItemS_l0 m (fun z36 z37 => k .ret (⟨((.s1 (.one (.unk))) :: (vi z36) :: (vu 2 ((vi z37) :: (vu 108 [])))), [], []⟩ : St)) (fun z38 => k (.exit 0) (⟨((.s1 (.one (.unk))) :: (vi z38) :: (vu 111 [])), [], []⟩ : St)) a3 a4 a5
  | _ => none
noncomputable def S83_2 (a3 a4 : Int) (a5 : List (Int × Int × Int × Int × Int × Int × Int × Int × List Int × Bool)) : St := (⟨((vl 0) :: (vi a3) :: (vu 3 ((vi a4) :: (vu 107 [])))), [], [⟨138, (.pair (.int .i64) (.pair (.int .i64) (.pair (.int .i64) (.pair (.int .i64) (.pair (.int .i64) (.pair (.int .i64) (.pair (.int .i64) (.pair (.int .i64) (.pair (.sl 3 (.int .i64)) .bool))))))))), a5, .ro⟩]⟩ : St)
theorem ev83_2 (m : Nat) (k : Kont Int) (a3 a4 : Int) (a5 : List (Int × Int × Int × Int × Int × Int × Int × Int × List Int × Bool)) : evC Try.prog G83 loopNil c83_2 (S83_2 a3 a4 a5) (turn Try.prog (0, 0) H83_2 (E83_2 m) k) = E83_2 (m + 1) [.v (.int .i64 a3), .v (.int .i64 a4), .row (.pair (.int .i64) (.pair (.int .i64) (.pair (.int .i64) (.pair (.int .i64) (.pair (.int .i64) (.pair (.int .i64) (.pair (.int .i64) (.pair (.int .i64) (.pair (.sl 3 (.int .i64)) .bool))))))))) a5] k := by kernel_rfl
theorem ok83_2 (m : Nat) : LoopOk Try.prog (0, 0) c83_2 (enter Try.prog (0, 0) H83_2 (E83_2 m)) := by
  refine loop_ok (G := G83) (L := loopNil) (envCons_good good113 envNil_good) (by intro x hx; simp [show loopsOf c83_2 = [] from by kernel_rfl] at hx) (fun ps k => by unfold E83_2; split <;> rfl) (fun m ps k r h => ?_) m
  have h0 := h
  unfold E83_2 at h
  split at h
  · exact ⟨S83_2 _ _ _, by kernel_rfl, (ev83_2 m k _ _ _).trans h0⟩
  · cases h
noncomputable def L83 : LEnv Int := (loopCons 2 (enter Try.prog (0, 0) H83_2 (E83_2 fu)) loopNil)
theorem lq83 : loopsOf c83 = [c83_2] := by kernel_rfl
theorem fr83_2 : firstReg c83_2 = some 2 := by kernel_rfl
theorem le83_2 : L83 2 = enter Try.prog (0, 0) H83_2 (E83_2 fu) := by kernel_rfl
theorem lm83 : ∀ x ∈ [c83_2], ∀ id, firstReg x = some id → LoopOk Try.prog (0, 0) x (L83 id) := (loops_cons fr83_2 le83_2 (ok83_2 fu) loops_nil)
theorem lp83 : ∀ x ∈ loopsOf c83, ∀ id, firstReg x = some id → LoopOk Try.prog (0, 0) x (L83 id) := loops_eq lq83 lm83
noncomputable def R83 (x : Int) : Res := ⟨[.one (ai x)], [], []⟩
noncomputable def K83 (r : Res) : Option Int :=
  match r with
  | ⟨[.one (.val (.int .i64 v1))], [], []⟩ => some (v1)
  | _ => none
noncomputable def E83 : Fun2 := fun args bs rs =>
  match args, bs, rs with
  | [.s1 (.one (.sl 0)), .s1 (.one (.val (.int .i64 a1)))], [], [⟨138, (.pair (.int .i64) (.pair (.int .i64) (.pair (.int .i64) (.pair (.int .i64) (.pair (.int .i64) (.pair (.int .i64) (.pair (.int .i64) (.pair (.int .i64) (.pair (.sl 3 (.int .i64)) .bool))))))))), a2, .ro⟩] => some ⟨Int, L.heldItemS a1 a2, R83⟩
  | _, _, _ => none
theorem ev83 (a1 : Int) (a2 : List (Int × Int × Int × Int × Int × Int × Int × Int × List Int × Bool)) : evF Try.prog G83 L83 (0, 0) Try.f83 c83 [vl 0, vi a1] [] [⟨138, (.pair (.int .i64) (.pair (.int .i64) (.pair (.int .i64) (.pair (.int .i64) (.pair (.int .i64) (.pair (.int .i64) (.pair (.int .i64) (.pair (.int .i64) (.pair (.sl 3 (.int .i64)) .bool))))))))), a2, .ro⟩] K83 = L.heldItemS a1 a2 := by kernel_rfl
theorem good83 : Vm.Good Try.prog 83 E83 := by
  refine evF_good (G := G83) (c := c83) (envCons_good good113 envNil_good) Try.func83 (by kernel_rfl) (by kernel_rfl) (0, 0) (fun args bs rs out t h h2 => ?_)
  unfold E83 at h
  split at h
  · injection h with h
    subst h
    exact ⟨rfl, L83, K83, lp83, (fun r t h => by unfold K83 at h; split at h; (injection h with h; subst h; rfl); cases h), (ev83 _ _).trans h2⟩
  · cases h
/-! ### L.heldRecS -/
noncomputable def G84 : Env := envNil
noncomputable def c84 : Code := bodyOf Try.f84
noncomputable def c84_2 : Code := (loopsOf c84).getD 0 .skip
noncomputable def L.heldRecS_l0 : Nat → (Int → Int → Option Int) → (Int → Option Int) → Int → Int → (List (Int × Int × Int)) → Option Int
  | 0, _, _, _, _, _ => none
  | m + 1, e2_0, e2_1, a3, a4, a5 =>
    (bif (decide (a4 < (a5.length : Int))) then
    (bif decide ((0 : Int) ≤ a4 ∧ a4 < (a5.length : Int)) then
    (bif ((nthI a5 a4 ((0 : Int), ((0 : Int), (0 : Int)))).1 != a3) then
    (e2_0 a3 (-1))
    else
    (let v9 : Int := (IntKind.wrap .i64 (a3 + 1))
    (bif decide ((0 : Int) ≤ a4 ∧ a4 < (a5.length : Int)) then
    (bif ((nthI a5 a4 ((0 : Int), ((0 : Int), (0 : Int)))).2.1 != v9) then
    (e2_0 v9 (-1))
    else
    (let v11 : Int := (IntKind.wrap .i64 (v9 + 1))
    (bif decide ((0 : Int) ≤ a4 ∧ a4 < (a5.length : Int)) then
    (let v12 : Bool := ((nthI a5 a4 ((0 : Int), ((0 : Int), (0 : Int)))).2.2 != v11)
    (bif v12 then
    (e2_0 v11 (-1))
    else
    (L.heldRecS_l0 m e2_0 e2_1 (IntKind.wrap .i64 (v11 + 1)) (IntKind.wrap .i64 (a4 + 1)) a5)))
    else
    none)))
    else
    none)))
    else
    none)
    else
    (e2_1 a3))
noncomputable def L.heldRecS (a1 : Int) (a2 : List (Int × Int × Int)) : Option Int :=
(L.heldRecS_l0 fu (fun y15 y16 =>
(some y16)) (fun y17 =>
(some y17)) a1 0 a2)
noncomputable def H84_2 : LoopH := ⟨⟨((.one (.sl 0)) :: hh :: (hu 3 (hh :: (hu 34 [])))), [], [(141, (.pair (.int .i64) (.pair (.int .i64) (.int .i64))), .ro)]⟩, [2, 3, 4, 6, 7, 8, 9, 10, 11, 12, 13, 14, 15, 16, 17, 18, 19, 20, 21, 22, 23, 24, 25, 26, 27, 28, 29, 30, 31, 32, 33, 34, 35, 36, 37, 38, 39], [], [0, 2, 3, 5, 6, 7, 8, 9, 10, 11, 12, 13, 14, 15, 16, 17, 18, 19, 20, 21, 22, 23, 24, 25, 26, 27, 28, 29, 30, 31, 32, 33, 34, 35, 36, 37, 38, 39]⟩
noncomputable def E84_2 (m : Nat) (ps : List Prm) (k : Kont Int) : Option Int :=
  match ps with
  | [.v (.int .i64 a3), .v (.int .i64 a4), .row (.pair (.int .i64) (.pair (.int .i64) (.int .i64))) a5] => L.heldRecS_l0 m (fun z21 z22 => k .ret (⟨((.s1 (.one (.unk))) :: (vi z21) :: (vu 2 ((vi z22) :: (vu 35 [])))), [], []⟩ : St)) (fun z23 => k (.exit 0) (⟨((.s1 (.one (.unk))) :: (vi z23) :: (vu 38 [])), [], []⟩ : St)) a3 a4 a5
  | _ => none
noncomputable def S84_2 (a3 a4 : Int) (a5 : List (Int × Int × Int)) : St := (⟨((vl 0) :: (vi a3) :: (vu 3 ((vi a4) :: (vu 34 [])))), [], [⟨141, (.pair (.int .i64) (.pair (.int .i64) (.int .i64))), a5, .ro⟩]⟩ : St)
theorem ev84_2 (m : Nat) (k : Kont Int) (a3 a4 : Int) (a5 : List (Int × Int × Int)) : evC Try.prog G84 loopNil c84_2 (S84_2 a3 a4 a5) (turn Try.prog (0, 0) H84_2 (E84_2 m) k) = E84_2 (m + 1) [.v (.int .i64 a3), .v (.int .i64 a4), .row (.pair (.int .i64) (.pair (.int .i64) (.int .i64))) a5] k := by kernel_rfl
theorem ok84_2 (m : Nat) : LoopOk Try.prog (0, 0) c84_2 (enter Try.prog (0, 0) H84_2 (E84_2 m)) := by
  refine loop_ok (G := G84) (L := loopNil) envNil_good (by intro x hx; simp [show loopsOf c84_2 = [] from by kernel_rfl] at hx) (fun ps k => by unfold E84_2; split <;> rfl) (fun m ps k r h => ?_) m
  have h0 := h
  unfold E84_2 at h
  split at h
  · exact ⟨S84_2 _ _ _, by kernel_rfl, (ev84_2 m k _ _ _).trans h0⟩
  · cases h
noncomputable def L84 : LEnv Int := (loopCons 2 (enter Try.prog (0, 0) H84_2 (E84_2 fu)) loopNil)
theorem lq84 : loopsOf c84 = [c84_2] := by kernel_rfl
theorem fr84_2 : firstReg c84_2 = some 2 := by kernel_rfl
theorem le84_2 : L84 2 = enter Try.prog (0, 0) H84_2 (E84_2 fu) := by kernel_rfl
theorem lm84 : ∀ x ∈ [c84_2], ∀ id, firstReg x = some id → LoopOk Try.prog (0, 0) x (L84 id) := (loops_cons fr84_2 le84_2 (ok84_2 fu) loops_nil)
theorem lp84 : ∀ x ∈ loopsOf c84, ∀ id, firstReg x = some id → LoopOk Try.prog (0, 0) x (L84 id) := loops_eq lq84 lm84
noncomputable def R84 (x : Int) : Res := ⟨[.one (ai x)], [], []⟩
noncomputable def K84 (r : Res) : Option Int :=
  match r with
  | ⟨[.one (.val (.int .i64 v1))], [], []⟩ => some (v1)
  | _ => none
noncomputable def E84 : Fun2 := fun args bs rs =>
  match args, bs, rs with
  | [.s1 (.one (.sl 0)), .s1 (.one (.val (.int .i64 a1)))], [], [⟨141, (.pair (.int .i64) (.pair (.int .i64) (.int .i64))), a2, .ro⟩] => some ⟨Int, L.heldRecS a1 a2, R84⟩
  | _, _, _ => none
theorem ev84 (a1 : Int) (a2 : List (Int × Int × Int)) : evF Try.prog G84 L84 (0, 0) Try.f84 c84 [vl 0, vi a1] [] [⟨141, (.pair (.int .i64) (.pair (.int .i64) (.int .i64))), a2, .ro⟩] K84 = L.heldRecS a1 a2 := by kernel_rfl
theorem good84 : Vm.Good Try.prog 84 E84 := by
  refine evF_good (G := G84) (c := c84) envNil_good Try.func84 (by kernel_rfl) (by kernel_rfl) (0, 0) (fun args bs rs out t h h2 => ?_)
  unfold E84 at h
  split at h
  · injection h with h
    subst h
    exact ⟨rfl, L84, K84, lp84, (fun r t h => by unfold K84 at h; split at h; (injection h with h; subst h; rfl); cases h), (ev84 _ _).trans h2⟩
  · cases h
/-! ### L.heldBox -/
noncomputable def G27 : Env := (envCons 83 [] E83 (envCons 84 [] E84 envNil))
noncomputable def c27 : Code := bodyOf Try.f27
noncomputable def L.heldBox (a1 a2 a3 a4 a5 : Int) (a6 : List (Int × Int × Int × Int × Int × Int × Int × Int × List Int × Bool)) (a7 : List (Int × Int × Int)) : Option Int :=
(Option.bind (L.heldItemS a5 a6) fun r8 =>
(bif (decide (r8 < 0)) then
(some (-1))
else
(Option.bind (L.heldRecS r8 a7) fun r10 =>
(bif (decide (r10 < 0)) then
(some (-1))
else
(some r10)))))
noncomputable def R27 (x : Int) : Res := ⟨[.one (ai x)], [], []⟩
noncomputable def K27 (r : Res) : Option Int :=
  match r with
  | ⟨[.one (.val (.int .i64 v1))], [], []⟩ => some (v1)
  | _ => none
noncomputable def E27 : Fun2 := fun args bs rs =>
  match args, bs, rs with
  | [.s1 (.agg [.val (.int .i64 a1), .val (.int .i64 a2), .val (.int .i64 a3), .val (.int .i64 a4), .sl 0, .sl 1]), .s1 (.one (.val (.int .i64 a5)))], [], [⟨138, (.pair (.int .i64) (.pair (.int .i64) (.pair (.int .i64) (.pair (.int .i64) (.pair (.int .i64) (.pair (.int .i64) (.pair (.int .i64) (.pair (.int .i64) (.pair (.sl 3 (.int .i64)) .bool))))))))), a6, .ro⟩, ⟨141, (.pair (.int .i64) (.pair (.int .i64) (.int .i64))), a7, .ro⟩] => some ⟨Int, L.heldBox a1 a2 a3 a4 a5 a6 a7, R27⟩
  | _, _, _ => none
theorem ev27 (a1 a2 a3 a4 a5 : Int) (a6 : List (Int × Int × Int × Int × Int × Int × Int × Int × List Int × Bool)) (a7 : List (Int × Int × Int)) : evF Try.prog G27 loopNil (0, 0) Try.f27 c27 [.s1 (.agg [ai a1, ai a2, ai a3, ai a4, .sl 0, .sl 1]), vi a5] [] [⟨138, (.pair (.int .i64) (.pair (.int .i64) (.pair (.int .i64) (.pair (.int .i64) (.pair (.int .i64) (.pair (.int .i64) (.pair (.int .i64) (.pair (.int .i64) (.pair (.sl 3 (.int .i64)) .bool))))))))), a6, .ro⟩, ⟨141, (.pair (.int .i64) (.pair (.int .i64) (.int .i64))), a7, .ro⟩] K27 = L.heldBox a1 a2 a3 a4 a5 a6 a7 := by kernel_rfl
theorem good27 : Vm.Good Try.prog 27 E27 := by
  refine evF_good (G := G27) (c := c27) (envCons_good good83 (envCons_good good84 envNil_good)) Try.func27 (by kernel_rfl) (by kernel_rfl) (0, 0) (fun args bs rs out t h h2 => ?_)
  unfold E27 at h
  split at h
  · injection h with h
    subst h
    exact ⟨rfl, loopNil, K27, (by intro x hx; simp [show loopsOf c27 = [] from by kernel_rfl] at hx), (fun r t h => by unfold K27 at h; split at h; (injection h with h; subst h; rfl); cases h), (ev27 _ _ _ _ _ _ _).trans h2⟩
  · cases h
/-! ### L.FnExactBoxNew -/
noncomputable def G5 : Env := (envCons 23 [] E23 (envCons 24 [] E24 (envCons 25 [] E25 (envCons 26 [4, 5] E26 (envCons 27 [] E27 envNil)))))
noncomputable def c5 : Code := bodyOf Try.f5
noncomputable def L.FnExactBoxNew (a1 a2 : Int) : Option Bool :=
(Option.bind (S.BoxNew a1 a2) fun r3 =>
(Option.bind (I.BoxNew a1 a2) fun r4 =>
(Option.bind (L.eqBox r4.1 r4.2.1 r4.2.2.1 r4.2.2.2.1 r3.1 r3.2.1 r3.2.2.1 r3.2.2.2.1 r4.2.2.2.2.2.1 r4.2.2.2.2.2.2 r3.2.2.2.2.2.1 r3.2.2.2.2.2.2) fun r5 =>
(bif (!r5) then
(some false)
else
(bif (!(r4.2.2.2.2.1 == r3.2.2.2.2.1)) then
(some false)
else
(Option.bind (L.markBox r4.1 r4.2.1 r4.2.2.1 r4.2.2.2.1 1 r4.2.2.2.2.2.1 r4.2.2.2.2.2.2) fun r7 =>
(Option.bind (L.heldBox r4.1 r4.2.1 r4.2.2.1 r4.2.2.2.1 1 r7.2.1 r7.2.2) fun r8 =>
(bif (decide (r8 < 0)) then
(some false)
else
(bif (r8 != r7.1) then
(some false)
else
(Option.bind (I.BoxNew a1 a2) fun r10 =>
(Option.bind (L.eqBox r10.1 r10.2.1 r10.2.2.1 r10.2.2.2.1 r3.1 r3.2.1 r3.2.2.1 r3.2.2.2.1 r10.2.2.2.2.2.1 r10.2.2.2.2.2.2 r3.2.2.2.2.2.1 r3.2.2.2.2.2.2) fun r11 =>
(bif (!r11) then
(some false)
else
(bif (!(r10.2.2.2.2.1 == r3.2.2.2.2.1)) then
(some false)
else
(Option.bind (L.heldBox r4.1 r4.2.1 r4.2.2.1 r4.2.2.2.1 1 r7.2.1 r7.2.2) fun r13 =>
(bif (decide (r13 < 0)) then
(some false)
else
(bif (r13 != r7.1) then
(some false)
else
(some true)))))))))))))))))
noncomputable def R5 (x : Bool) : Res := ⟨[.one (ab x)], [], []⟩
noncomputable def K5 (r : Res) : Option Bool :=
  match r with
  | ⟨[.one (.val (.bool v1))], [], []⟩ => some (v1)
  | _ => none
noncomputable def E5 : Fun2 := fun args bs rs =>
  match args, bs, rs with
  | [.s1 (.one (.val (.int .i64 a1))), .s1 (.one (.val (.int .i64 a2)))], [], [] => some ⟨Bool, L.FnExactBoxNew a1 a2, R5⟩
  | _, _, _ => none
theorem ev5 (a1 a2 : Int) : evF Try.prog G5 loopNil (0, 0) Try.f5 c5 [vi a1, vi a2] [] [] K5 = L.FnExactBoxNew a1 a2 := by kernel_rfl
theorem good5 : Vm.Good Try.prog 5 E5 := by
  refine evF_good (G := G5) (c := c5) (envCons_good good23 (envCons_good good24 (envCons_good good25 (envCons_good good26 (envCons_good good27 envNil_good))))) Try.func5 (by kernel_rfl) (by kernel_rfl) (0, 0) (fun args bs rs out t h h2 => ?_)
  unfold E5 at h
  split at h
  · injection h with h
    subst h
    exact ⟨rfl, loopNil, K5, (by intro x hx; simp [show loopsOf c5 = [] from by kernel_rfl] at hx), (fun r t h => by unfold K5 at h; split at h; (injection h with h; subst h; rfl); cases h), (ev5 _ _).trans h2⟩
  · cases h
end Go.Proofs.Ytflagchmcnfigaa.Run
