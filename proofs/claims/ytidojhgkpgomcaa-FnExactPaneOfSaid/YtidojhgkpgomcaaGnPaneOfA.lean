import Derived.Test.YtidojhgkpgomcaaVmU
import Derived.Test.YtidojhgkpgomcaaProg
namespace Go.Proofs.Ytidojhgkpgomcaa.Run
open Go Go.RowKit Go.Proofs.YtidojhgkpgomcaaW.PrintWords Go.Proofs.Ytidojhgkpgomcaa.Vm
set_option linter.unusedVariables false
set_option maxRecDepth 100000
set_option maxHeartbeats 4000000

noncomputable abbrev sh1 : Sh := (.pair (.int .i64) (.int .i64))
noncomputable abbrev df1 : Int × Int := ((0 : Int), (0 : Int))
noncomputable def lit0 : ByteArray := ⟨((([0, 1, 2, 2, 3, 3, 3, 3, 4, 4, 4, 4, 4, 4, 4, 4, 5, 5, 5, 5, 5, 5, 5, 5, 5, 5, 5, 5, 5, 5, 5, 5, 6, 6, 6, 6, 6, 6, 6, 6, 6, 6, 6, 6, 6, 6, 6, 6, 6, 6, 6, 6, 6, 6, 6, 6, 6, 6, 6, 6, 6, 6, 6, 6].append [7, 7, 7, 7, 7, 7, 7, 7, 7, 7, 7, 7, 7, 7, 7, 7, 7, 7, 7, 7, 7, 7, 7, 7, 7, 7, 7, 7, 7, 7, 7, 7, 7, 7, 7, 7, 7, 7, 7, 7, 7, 7, 7, 7, 7, 7, 7, 7, 7, 7, 7, 7, 7, 7, 7, 7, 7, 7, 7, 7, 7, 7, 7, 7]).append ([8, 8, 8, 8, 8, 8, 8, 8, 8, 8, 8, 8, 8, 8, 8, 8, 8, 8, 8, 8, 8, 8, 8, 8, 8, 8, 8, 8, 8, 8, 8, 8, 8, 8, 8, 8, 8, 8, 8, 8, 8, 8, 8, 8, 8, 8, 8, 8, 8, 8, 8, 8, 8, 8, 8, 8, 8, 8, 8, 8, 8, 8, 8, 8].append [8, 8, 8, 8, 8, 8, 8, 8, 8, 8, 8, 8, 8, 8, 8, 8, 8, 8, 8, 8, 8, 8, 8, 8, 8, 8, 8, 8, 8, 8, 8, 8, 8, 8, 8, 8, 8, 8, 8, 8, 8, 8, 8, 8, 8, 8, 8, 8, 8, 8, 8, 8, 8, 8, 8, 8, 8, 8, 8, 8, 8, 8, 8, 8])).toArray)⟩
/-! ### L.szTokS -/
noncomputable def G59 : Env := envNil
noncomputable def c59 : Code := bodyOf Try.f59
noncomputable def L.szTokS (a1 : Int) (a2 : List (Int × Int)) : Option Int :=
(let v4 : Int := (IntKind.wrap .i64 (a1 - (a2.length : Int)))
(bif (decide (v4 < 0)) then
(some (-1))
else
(some v4)))
noncomputable def R59 (x : Int) : Res := ⟨[.one (ai x)], [], []⟩
noncomputable def K59 (r : Res) : Option Int :=
  match r with
  | ⟨[.one (.val (.int .i64 v1))], [], []⟩ => some (v1)
  | _ => none
noncomputable def E59 : Fun2 := fun args bs rs =>
  match args, bs, rs with
  | [.s1 (.one (.sl 0)), .s1 (.one (.val (.int .i64 a1)))], [], [⟨155, (.pair (.int .i64) (.int .i64)), a2, .ro⟩] => some ⟨Int, L.szTokS a1 a2, R59⟩
  | _, _, _ => none
theorem ev59 (a1 : Int) (a2 : List (Int × Int)) : evF Try.prog G59 loopNil (0, 0) [] Try.f59 c59 [vl 0, vi a1] [] [⟨155, sh1, a2, .ro⟩] K59 = L.szTokS a1 a2 := by kernel_rfl
theorem good59 : Vm.Good Try.prog 59 E59 := by
  refine evF_good (G := G59) (c := c59) envNil_good Try.func59 (by kernel_rfl) (by kernel_rfl) (0, 0) (fun args bs rs out t h h2 => ?_)
  unfold E59 at h
  split at h
  · injection h with h
    subst h
    exact ⟨rfl, [], loopNil, K59, (no_loops (c := c59) (by kernel_rfl)), (fun r t h => by unfold K59 at h; split at h; (injection h with h; subst h; rfl); cases h), (ev59 _ _).trans h2⟩
  · cases h
/-! ### L.szQuery -/
noncomputable def G20 : Env := (envCons 59 [] E59 envNil)
noncomputable def c20 : Code := bodyOf Try.f20
noncomputable def L.szQuery (a1 a2 a3 a4 a5 a6 : Int) (a7 a8 : List (Int × Int)) : Option Int :=
(Option.bind (L.szTokS a6 a7) fun r9 =>
(bif (decide (r9 < 0)) then
(some (-1))
else
(Option.bind (L.szTokS r9 a8) fun r11 =>
(bif (decide (r11 < 0)) then
(some (-1))
else
(some r11)))))
noncomputable def R20 (x : Int) : Res := ⟨[.one (ai x)], [], []⟩
noncomputable def K20 (r : Res) : Option Int :=
  match r with
  | ⟨[.one (.val (.int .i64 v1))], [], []⟩ => some (v1)
  | _ => none
noncomputable def E20 : Fun2 := fun args bs rs =>
  match args, bs, rs with
  | [.s1 (.agg [.sl 0, .sl 1, .val (.int .i64 a1), .val (.int .i64 a2), .val (.int .i64 a3), .val (.int .i64 a4), .val (.int .i64 a5)]), .s1 (.one (.val (.int .i64 a6)))], [], [⟨155, (.pair (.int .i64) (.int .i64)), a7, .ro⟩, ⟨155, (.pair (.int .i64) (.int .i64)), a8, .ro⟩] => some ⟨Int, L.szQuery a1 a2 a3 a4 a5 a6 a7 a8, R20⟩
  | _, _, _ => none
theorem ev20 (a1 a2 a3 a4 a5 a6 : Int) (a7 a8 : List (Int × Int)) : evF Try.prog G20 loopNil (0, 0) [] Try.f20 c20 [.s1 (.agg [.sl 0, .sl 1, ai a1, ai a2, ai a3, ai a4, ai a5]), vi a6] [] [⟨155, sh1, a7, .ro⟩, ⟨155, sh1, a8, .ro⟩] K20 = L.szQuery a1 a2 a3 a4 a5 a6 a7 a8 := by kernel_rfl
theorem good20 : Vm.Good Try.prog 20 E20 := by
  refine evF_good (G := G20) (c := c20) (envCons_good good59 envNil_good) Try.func20 (by kernel_rfl) (by kernel_rfl) (0, 0) (fun args bs rs out t h h2 => ?_)
  unfold E20 at h
  split at h
  · injection h with h
    subst h
    exact ⟨rfl, [], loopNil, K20, (no_loops (c := c20) (by kernel_rfl)), (fun r t h => by unfold K20 at h; split at h; (injection h with h; subst h; rfl); cases h), (ev20 _ _ _ _ _ _ _ _).trans h2⟩
  · cases h
/-! ### L.szIntS -/
noncomputable def G60 : Env := envNil
noncomputable def c60 : Code := bodyOf Try.f60
noncomputable def L.szIntS (a1 : Int) (a2 : List Int) : Option Int :=
(let v4 : Int := (IntKind.wrap .i64 (a1 - (a2.length : Int)))
(bif (decide (v4 < 0)) then
(some (-1))
else
(some v4)))
noncomputable def R60 (x : Int) : Res := ⟨[.one (ai x)], [], []⟩
noncomputable def K60 (r : Res) : Option Int :=
  match r with
  | ⟨[.one (.val (.int .i64 v1))], [], []⟩ => some (v1)
  | _ => none
noncomputable def E60 : Fun2 := fun args bs rs =>
  match args, bs, rs with
  | [.s1 (.one (.sl 0)), .s1 (.one (.val (.int .i64 a1)))], [], [⟨3, (.int .i64), a2, .ro⟩] => some ⟨Int, L.szIntS a1 a2, R60⟩
  | _, _, _ => none
theorem ev60 (a1 : Int) (a2 : List Int) : evF Try.prog G60 loopNil (0, 0) [] Try.f60 c60 [vl 0, vi a1] [] [⟨3, (.int .i64), a2, .ro⟩] K60 = L.szIntS a1 a2 := by kernel_rfl
theorem good60 : Vm.Good Try.prog 60 E60 := by
  refine evF_good (G := G60) (c := c60) envNil_good Try.func60 (by kernel_rfl) (by kernel_rfl) (0, 0) (fun args bs rs out t h h2 => ?_)
  unfold E60 at h
  split at h
  · injection h with h
    subst h
    exact ⟨rfl, [], loopNil, K60, (no_loops (c := c60) (by kernel_rfl)), (fun r t h => by unfold K60 at h; split at h; (injection h with h; subst h; rfl); cases h), (ev60 _ _).trans h2⟩
  · cases h
/-! ### L.szAgg -/
noncomputable def G21 : Env := (envCons 60 [] E60 envNil)
noncomputable def c21 : Code := bodyOf Try.f21
noncomputable def L.szAgg (a1 a2 a3 a4 a5 a6 : Int) (a7 : List Int) : Option Int :=
(Option.bind (L.szIntS a6 a7) fun r8 =>
(bif (decide (r8 < 0)) then
(some (-1))
else
(some r8)))
noncomputable def R21 (x : Int) : Res := ⟨[.one (ai x)], [], []⟩
noncomputable def K21 (r : Res) : Option Int :=
  match r with
  | ⟨[.one (.val (.int .i64 v1))], [], []⟩ => some (v1)
  | _ => none
noncomputable def E21 : Fun2 := fun args bs rs =>
  match args, bs, rs with
  | [.s1 (.agg [.val (.int .i64 a1), .val (.int .i64 a2), .val (.int .u64 a3), .val (.int .i64 a4), .val (.int .i64 a5), .sl 0]), .s1 (.one (.val (.int .i64 a6)))], [], [⟨3, (.int .i64), a7, .ro⟩] => some ⟨Int, L.szAgg a1 a2 a3 a4 a5 a6 a7, R21⟩
  | _, _, _ => none
theorem ev21 (a1 a2 a3 a4 a5 a6 : Int) (a7 : List Int) : evF Try.prog G21 loopNil (0, 0) [] Try.f21 c21 [.s1 (.agg [ai a1, ai a2, ak .u64 a3, ai a4, ai a5, .sl 0]), vi a6] [] [⟨3, (.int .i64), a7, .ro⟩] K21 = L.szAgg a1 a2 a3 a4 a5 a6 a7 := by kernel_rfl
theorem good21 : Vm.Good Try.prog 21 E21 := by
  refine evF_good (G := G21) (c := c21) (envCons_good good60 envNil_good) Try.func21 (by kernel_rfl) (by kernel_rfl) (0, 0) (fun args bs rs out t h h2 => ?_)
  unfold E21 at h
  split at h
  · injection h with h
    subst h
    exact ⟨rfl, [], loopNil, K21, (no_loops (c := c21) (by kernel_rfl)), (fun r t h => by unfold K21 at h; split at h; (injection h with h; subst h; rfl); cases h), (ev21 _ _ _ _ _ _ _).trans h2⟩
  · cases h
/-! ### L.toTok -/
noncomputable def G110 : Env := envNil
noncomputable def c110 : Code := bodyOf Try.f110
noncomputable def L.toTok (a1 a2 : Int) : Option (Int × Int) :=
(some (a1, a2))
noncomputable def R110 (x : Int × Int) : Res := ⟨[.agg [ai x.1, ai x.2]], [], []⟩
noncomputable def K110 (r : Res) : Option (Int × Int) :=
  match r with
  | ⟨[.agg [.val (.int .i64 v1), .val (.int .i64 v2)]], [], []⟩ => some (v1, v2)
  | _ => none
noncomputable def E110 : Fun2 := fun args bs rs =>
  match args, bs, rs with
  | [.s1 (.agg [.val (.int .i64 a1), .val (.int .i64 a2)])], [], [] => some ⟨Int × Int, L.toTok a1 a2, R110⟩
  | _, _, _ => none
theorem ev110 (a1 a2 : Int) : evF Try.prog G110 loopNil (0, 0) [] Try.f110 c110 [.s1 (.agg [ai a1, ai a2])] [] [] K110 = L.toTok a1 a2 := by kernel_rfl
theorem good110 : Vm.Good Try.prog 110 E110 := by
  refine evF_good (G := G110) (c := c110) envNil_good Try.func110 (by kernel_rfl) (by kernel_rfl) (0, 0) (fun args bs rs out t h h2 => ?_)
  unfold E110 at h
  split at h
  · injection h with h
    subst h
    exact ⟨rfl, [], loopNil, K110, (no_loops (c := c110) (by kernel_rfl)), (fun r t h => by unfold K110 at h; split at h; (injection h with h; subst h; rfl); cases h), (ev110 _ _).trans h2⟩
  · cases h
/-! ### L.toTokS -/
noncomputable def G65 : Env := (envCons 110 [] E110 envNil)
noncomputable def c65 : Code := bodyOf Try.f65
noncomputable def c65_3 : Code := (loopsOf c65).getD 0 .skip
noncomputable def L.toTokS_l0 : Nat → ((List (Int × Int)) → Option ((List (Int × Int)))) → Int → (List (Int × Int)) → (List (Int × Int)) → Option ((List (Int × Int)))
  | 0, _, _, _, _ => none
  | m + 1, e3_0, a4, a5, a6 =>
    (bif (decide (a4 < (a5.length : Int))) then
    (bif decide ((0 : Int) ≤ a4 ∧ a4 < (a5.length : Int)) then
    (Option.bind (L.toTok ((nthI a5 a4 df1).1) ((nthI a5 a4 df1).2)) fun r9 =>
    (bif decide ((0 : Int) ≤ a4 ∧ a4 < (a6.length : Int)) then
    (L.toTokS_l0 m e3_0 (IntKind.wrap .i64 (a4 + 1)) a5 (a6.set (Int.toNat a4) (r9.1, r9.2)))
    else
    none))
    else
    none)
    else
    (e3_0 a6))
noncomputable def L.toTokS (a1 : List (Int × Int)) : Option ((List (Int × Int))) :=
(let v2 : Int := (a1.length : Int)
(bif decide ((0 : Int) ≤ v2 ∧ v2 ≤ v2 ∧ (16 : Int) * v2 ≤ 281474976710656 ∧ v2 ≤ 9223372036854775807) then
(L.toTokS_l0 fu (fun y12 =>
(some y12)) 0 a1 (List.replicate (Int.toNat v2) (0, 0)))
else
none))
noncomputable def H65_3 : LoopH := ⟨⟨((.one (.sl 0)) :: (hu 2 ((.one (.sl 1)) :: hh :: (hu 18 [])))), [], [(155, sh1, .ro), (153, sh1, .own)]⟩, ([1, 2] ++ rg 5 18), [], ([0, 1] ++ rg 4 19), [], []⟩
noncomputable def E65_3 (m : Nat) (ps : List Prm) (k : Kont ((List (Int × Int)))) : Option ((List (Int × Int))) :=
  match ps with
  | [.v (.int .i64 a4), .row (.pair (.int .i64) (.int .i64)) a5, .row (.pair (.int .i64) (.int .i64)) a6] => L.toTokS_l0 m (fun z14 => k (.exit 0) (⟨(vu 3 ((vl 0) :: (vu 19 []))), [], [⟨153, (.pair (.int .i64) (.int .i64)), z14, .own⟩]⟩ : St)) a4 a5 a6
  | _ => none
noncomputable def S65_3 (a4 : Int) (a5 a6 : List (Int × Int)) : St := (⟨((vl 0) :: (vu 2 ((vl 1) :: (vi a4) :: (vu 18 [])))), [], [⟨155, sh1, a5, .ro⟩, ⟨153, sh1, a6, .own⟩]⟩ : St)
theorem ev65_3 (m : Nat) (k : Kont ((List (Int × Int)))) (a4 : Int) (a5 a6 : List (Int × Int)) : evC Try.prog G65 loopNil c65_3 (S65_3 a4 a5 a6) (turn Try.prog (0, 0) H65_3 (E65_3 m) k) = E65_3 (m + 1) ([.v (.int .i64 a4), .row sh1 a5, .row sh1 a6]) k := by kernel_rfl
theorem ok65_3 (m : Nat) : LoopOk Try.prog (0, 0) c65_3 (enter Try.prog (0, 0) H65_3 (E65_3 m)) := by
  refine loop_ok (G := G65) (L := loopNil) (envCons_good good110 envNil_good) (no_loops (c := c65_3) (by kernel_rfl)) (fun ps k => by unfold E65_3; split <;> rfl) (fun m ps k r h => ?_) m
  have h0 := h
  unfold E65_3 at h
  split at h
  · exact ⟨S65_3 _ _ _, by kernel_rfl, (ev65_3 m k _ _ _).trans h0⟩
  · cases h
noncomputable def L65 : LEnv ((List (Int × Int))) := (loopCons 3 (enter Try.prog (0, 0) H65_3 (E65_3 fu)) loopNil)
theorem lq65 : loopsOf c65 = [c65_3] := by kernel_rfl
theorem fr65_3 : firstReg c65_3 = some 3 := by kernel_rfl
theorem le65_3 : L65 3 = enter Try.prog (0, 0) H65_3 (E65_3 fu) := by kernel_rfl
theorem lm65 : ∀ x ∈ [c65_3], ∀ id, firstReg x = some id → LoopOk Try.prog (0, 0) x (L65 id) := (loops_cons fr65_3 le65_3 (ok65_3 fu) loops_nil)
theorem lp65 : ∀ x ∈ loopsOf c65, ∀ id, firstReg x = some id → LoopOk Try.prog (0, 0) x (L65 id) := loops_eq lq65 lm65
noncomputable def R65 (x : (List (Int × Int))) : Res := ⟨[.one (.sl 0)], [], [⟨153, sh1, x, .own⟩]⟩
noncomputable def K65 (r : Res) : Option ((List (Int × Int))) :=
  match r with
  | ⟨[.one (.sl 0)], [], [⟨153, (.pair (.int .i64) (.int .i64)), v1, .own⟩]⟩ => some (v1)
  | _ => none
noncomputable def E65 : Fun2 := fun args bs rs =>
  match args, bs, rs with
  | [.s1 (.one (.sl 0))], [], [⟨155, (.pair (.int .i64) (.int .i64)), a1, .ro⟩] => some ⟨(List (Int × Int)), L.toTokS a1, R65⟩
  | _, _, _ => none
theorem ev65 (a1 : List (Int × Int)) : evF Try.prog G65 L65 (0, 0) [] Try.f65 c65 [vl 0] [] [⟨155, sh1, a1, .ro⟩] K65 = L.toTokS a1 := by kernel_rfl
theorem good65 : Vm.Good Try.prog 65 E65 := by
  refine evF_good (G := G65) (c := c65) (envCons_good good110 envNil_good) Try.func65 (by kernel_rfl) (by kernel_rfl) (0, 0) (fun args bs rs out t h h2 => ?_)
  unfold E65 at h
  split at h
  · injection h with h
    subst h
    exact ⟨rfl, [], L65, K65, lp65, (fun r t h => by unfold K65 at h; split at h; (injection h with h; subst h; rfl); cases h), (ev65 _).trans h2⟩
  · cases h
/-! ### L.toWinDef -/
noncomputable def G66 : Env := envNil
noncomputable def c66 : Code := bodyOf Try.f66
noncomputable def L.toWinDef (a1 a2 a3 : Int) : Option (Int × Int × Int) :=
(some (a1, a2, a3))
noncomputable def R66 (x : Int × Int × Int) : Res := ⟨[.agg [ai x.1, ai x.2.1, ai x.2.2]], [], []⟩
noncomputable def K66 (r : Res) : Option (Int × Int × Int) :=
  match r with
  | ⟨[.agg [.val (.int .i64 v1), .val (.int .i64 v2), .val (.int .i64 v3)]], [], []⟩ => some (v1, v2, v3)
  | _ => none
noncomputable def E66 : Fun2 := fun args bs rs =>
  match args, bs, rs with
  | [.s1 (.agg [.val (.int .i64 a1), .val (.int .i64 a2), .val (.int .i64 a3)])], [], [] => some ⟨Int × Int × Int, L.toWinDef a1 a2 a3, R66⟩
  | _, _, _ => none
theorem ev66 (a1 a2 a3 : Int) : evF Try.prog G66 loopNil (0, 0) [] Try.f66 c66 [.s1 (.agg [ai a1, ai a2, ai a3])] [] [] K66 = L.toWinDef a1 a2 a3 := by kernel_rfl
theorem good66 : Vm.Good Try.prog 66 E66 := by
  refine evF_good (G := G66) (c := c66) envNil_good Try.func66 (by kernel_rfl) (by kernel_rfl) (0, 0) (fun args bs rs out t h h2 => ?_)
  unfold E66 at h
  split at h
  · injection h with h
    subst h
    exact ⟨rfl, [], loopNil, K66, (no_loops (c := c66) (by kernel_rfl)), (fun r t h => by unfold K66 at h; split at h; (injection h with h; subst h; rfl); cases h), (ev66 _ _ _).trans h2⟩
  · cases h
/-! ### L.toQuery -/
noncomputable def G23 : Env := (envCons 65 [] E65 (envCons 66 [] E66 envNil))
noncomputable def c23 : Code := bodyOf Try.f23
noncomputable def L.toQuery (a1 a2 a3 a4 a5 : Int) (a6 a7 : List (Int × Int)) : Option (Int × Int × Int × Int × Int × (List (Int × Int)) × (List (Int × Int))) :=
(Option.bind (L.toTokS a6) fun r8 =>
(Option.bind (L.toTokS a7) fun r9 =>
(Option.bind (L.toWinDef a1 a2 a3) fun r10 =>
(some (r10.1, r10.2.1, r10.2.2, a4, a5, r8, r9)))))
noncomputable def R23 (x : Int × Int × Int × Int × Int × (List (Int × Int)) × (List (Int × Int))) : Res := ⟨[.agg [.sl 0, .sl 1, ai x.1, ai x.2.1, ai x.2.2.1, ai x.2.2.2.1, ai x.2.2.2.2.1]], [], [⟨153, sh1, x.2.2.2.2.2.1, .own⟩, ⟨153, sh1, x.2.2.2.2.2.2, .own⟩]⟩
noncomputable def K23 (r : Res) : Option (Int × Int × Int × Int × Int × (List (Int × Int)) × (List (Int × Int))) :=
  match r with
  | ⟨[.agg [.sl 0, .sl 1, .val (.int .i64 v1), .val (.int .i64 v2), .val (.int .i64 v3), .val (.int .i64 v4), .val (.int .i64 v5)]], [], [⟨153, (.pair (.int .i64) (.int .i64)), v6, .own⟩, ⟨153, (.pair (.int .i64) (.int .i64)), v7, .own⟩]⟩ => some (v1, v2, v3, v4, v5, v6, v7)
  | _ => none
noncomputable def E23 : Fun2 := fun args bs rs =>
  match args, bs, rs with
  | [.s1 (.agg [.sl 0, .sl 1, .val (.int .i64 a1), .val (.int .i64 a2), .val (.int .i64 a3), .val (.int .i64 a4), .val (.int .i64 a5)])], [], [⟨155, (.pair (.int .i64) (.int .i64)), a6, .ro⟩, ⟨155, (.pair (.int .i64) (.int .i64)), a7, .ro⟩] => some ⟨Int × Int × Int × Int × Int × (List (Int × Int)) × (List (Int × Int)), L.toQuery a1 a2 a3 a4 a5 a6 a7, R23⟩
  | _, _, _ => none
theorem ev23 (a1 a2 a3 a4 a5 : Int) (a6 a7 : List (Int × Int)) : evF Try.prog G23 loopNil (0, 0) [] Try.f23 c23 [.s1 (.agg [.sl 0, .sl 1, ai a1, ai a2, ai a3, ai a4, ai a5])] [] [⟨155, sh1, a6, .ro⟩, ⟨155, sh1, a7, .ro⟩] K23 = L.toQuery a1 a2 a3 a4 a5 a6 a7 := by kernel_rfl
theorem good23 : Vm.Good Try.prog 23 E23 := by
  refine evF_good (G := G23) (c := c23) (envCons_good good65 (envCons_good good66 envNil_good)) Try.func23 (by kernel_rfl) (by kernel_rfl) (0, 0) (fun args bs rs out t h h2 => ?_)
  unfold E23 at h
  split at h
  · injection h with h
    subst h
    exact ⟨rfl, [], loopNil, K23, (no_loops (c := c23) (by kernel_rfl)), (fun r t h => by unfold K23 at h; split at h; (injection h with h; subst h; rfl); cases h), (ev23 _ _ _ _ _ _ _).trans h2⟩
  · cases h
/-! ### L.toWin -/
noncomputable def G24 : Env := envNil
noncomputable def c24 : Code := bodyOf Try.f24
noncomputable def L.toWin (a1 a2 : Int) : Option (Int × Int) :=
(some (a1, a2))
noncomputable def R24 (x : Int × Int) : Res := ⟨[.agg [ai x.1, ai x.2]], [], []⟩
noncomputable def K24 (r : Res) : Option (Int × Int) :=
  match r with
  | ⟨[.agg [.val (.int .i64 v1), .val (.int .i64 v2)]], [], []⟩ => some (v1, v2)
  | _ => none
noncomputable def E24 : Fun2 := fun args bs rs =>
  match args, bs, rs with
  | [.s1 (.agg [.val (.int .i64 a1), .val (.int .i64 a2)])], [], [] => some ⟨Int × Int, L.toWin a1 a2, R24⟩
  | _, _, _ => none
theorem ev24 (a1 a2 : Int) : evF Try.prog G24 loopNil (0, 0) [] Try.f24 c24 [.s1 (.agg [ai a1, ai a2])] [] [] K24 = L.toWin a1 a2 := by kernel_rfl
theorem good24 : Vm.Good Try.prog 24 E24 := by
  refine evF_good (G := G24) (c := c24) envNil_good Try.func24 (by kernel_rfl) (by kernel_rfl) (0, 0) (fun args bs rs out t h h2 => ?_)
  unfold E24 at h
  split at h
  · injection h with h
    subst h
    exact ⟨rfl, [], loopNil, K24, (no_loops (c := c24) (by kernel_rfl)), (fun r t h => by unfold K24 at h; split at h; (injection h with h; subst h; rfl); cases h), (ev24 _ _).trans h2⟩
  · cases h
/-! ### L.toWide -/
noncomputable def G67 : Env := envNil
noncomputable def c67 : Code := bodyOf Try.f67
noncomputable def L.toWide (a1 a2 : Int) : Option (Int × Int) :=
(some (a1, a2))
noncomputable def R67 (x : Int × Int) : Res := ⟨[.agg [ai x.1, ak .u64 x.2]], [], []⟩
noncomputable def K67 (r : Res) : Option (Int × Int) :=
  match r with
  | ⟨[.agg [.val (.int .i64 v1), .val (.int .u64 v2)]], [], []⟩ => some (v1, v2)
  | _ => none
noncomputable def E67 : Fun2 := fun args bs rs =>
  match args, bs, rs with
  | [.s1 (.agg [.val (.int .i64 a1), .val (.int .u64 a2)])], [], [] => some ⟨Int × Int, L.toWide a1 a2, R67⟩
  | _, _, _ => none
theorem ev67 (a1 a2 : Int) : evF Try.prog G67 loopNil (0, 0) [] Try.f67 c67 [.s1 (.agg [ai a1, ak .u64 a2])] [] [] K67 = L.toWide a1 a2 := by kernel_rfl
theorem good67 : Vm.Good Try.prog 67 E67 := by
  refine evF_good (G := G67) (c := c67) envNil_good Try.func67 (by kernel_rfl) (by kernel_rfl) (0, 0) (fun args bs rs out t h h2 => ?_)
  unfold E67 at h
  split at h
  · injection h with h
    subst h
    exact ⟨rfl, [], loopNil, K67, (no_loops (c := c67) (by kernel_rfl)), (fun r t h => by unfold K67 at h; split at h; (injection h with h; subst h; rfl); cases h), (ev67 _ _).trans h2⟩
  · cases h
/-! ### L.toIntS -/
noncomputable def G68 : Env := envNil
noncomputable def c68 : Code := bodyOf Try.f68
noncomputable def c68_3 : Code := (loopsOf c68).getD 0 .skip
noncomputable def L.toIntS_l0 : Nat → (List Int → Option (List Int)) → Int → List Int → List Int → Option (List Int)
  | 0, _, _, _, _ => none
  | m + 1, e3_0, a4, a5, a6 =>
    (bif (decide (a4 < (a5.length : Int))) then
    (bif decide ((0 : Int) ≤ a4 ∧ a4 < (a5.length : Int)) then
    (bif decide ((0 : Int) ≤ a4 ∧ a4 < (a6.length : Int)) then
    (L.toIntS_l0 m e3_0 (IntKind.wrap .i64 (a4 + 1)) a5 (a6.set (Int.toNat a4) (nthI a5 a4 (0 : Int))))
    else
    none)
    else
    none)
    else
    (e3_0 a6))
noncomputable def L.toIntS (a1 : List Int) : Option (List Int) :=
(let v2 : Int := (a1.length : Int)
(bif decide ((0 : Int) ≤ v2 ∧ v2 ≤ v2 ∧ (8 : Int) * v2 ≤ 281474976710656 ∧ v2 ≤ 9223372036854775807) then
(L.toIntS_l0 fu (fun y11 =>
(some y11)) 0 a1 (List.replicate (Int.toNat v2) (0 : Int)))
else
none))
noncomputable def H68_3 : LoopH := ⟨⟨((.one (.sl 0)) :: (hu 2 ((.one (.sl 1)) :: hh :: (hu 17 [])))), [], [(3, (.int .i64), .ro), (3, (.int .i64), .own)]⟩, ([1, 2] ++ rg 5 17), [], ([0, 1] ++ rg 4 18), [], []⟩
noncomputable def E68_3 (m : Nat) (ps : List Prm) (k : Kont (List Int)) : Option (List Int) :=
  match ps with
  | [.v (.int .i64 a4), .row (.int .i64) a5, .row (.int .i64) a6] => L.toIntS_l0 m (fun z13 => k (.exit 0) (⟨(vu 3 ((vl 0) :: (vu 18 []))), [], [⟨3, (.int .i64), z13, .own⟩]⟩ : St)) a4 a5 a6
  | _ => none
noncomputable def S68_3 (a4 : Int) (a5 a6 : List Int) : St := (⟨((vl 0) :: (vu 2 ((vl 1) :: (vi a4) :: (vu 17 [])))), [], [⟨3, (.int .i64), a5, .ro⟩, ⟨3, (.int .i64), a6, .own⟩]⟩ : St)
theorem ev68_3 (m : Nat) (k : Kont (List Int)) (a4 : Int) (a5 a6 : List Int) : evC Try.prog G68 loopNil c68_3 (S68_3 a4 a5 a6) (turn Try.prog (0, 0) H68_3 (E68_3 m) k) = E68_3 (m + 1) ([.v (.int .i64 a4), .row (.int .i64) a5, .row (.int .i64) a6]) k := by kernel_rfl
theorem ok68_3 (m : Nat) : LoopOk Try.prog (0, 0) c68_3 (enter Try.prog (0, 0) H68_3 (E68_3 m)) := by
  refine loop_ok (G := G68) (L := loopNil) envNil_good (no_loops (c := c68_3) (by kernel_rfl)) (fun ps k => by unfold E68_3; split <;> rfl) (fun m ps k r h => ?_) m
  have h0 := h
  unfold E68_3 at h
  split at h
  · exact ⟨S68_3 _ _ _, by kernel_rfl, (ev68_3 m k _ _ _).trans h0⟩
  · cases h
noncomputable def L68 : LEnv (List Int) := (loopCons 3 (enter Try.prog (0, 0) H68_3 (E68_3 fu)) loopNil)
theorem lq68 : loopsOf c68 = [c68_3] := by kernel_rfl
theorem fr68_3 : firstReg c68_3 = some 3 := by kernel_rfl
theorem le68_3 : L68 3 = enter Try.prog (0, 0) H68_3 (E68_3 fu) := by kernel_rfl
theorem lm68 : ∀ x ∈ [c68_3], ∀ id, firstReg x = some id → LoopOk Try.prog (0, 0) x (L68 id) := (loops_cons fr68_3 le68_3 (ok68_3 fu) loops_nil)
theorem lp68 : ∀ x ∈ loopsOf c68, ∀ id, firstReg x = some id → LoopOk Try.prog (0, 0) x (L68 id) := loops_eq lq68 lm68
noncomputable def R68 (x : List Int) : Res := ⟨[.one (.sl 0)], [], [⟨3, (.int .i64), x, .own⟩]⟩
noncomputable def K68 (r : Res) : Option (List Int) :=
  match r with
  | ⟨[.one (.sl 0)], [], [⟨3, (.int .i64), v1, .own⟩]⟩ => some (v1)
  | _ => none
noncomputable def E68 : Fun2 := fun args bs rs =>
  match args, bs, rs with
  | [.s1 (.one (.sl 0))], [], [⟨3, (.int .i64), a1, .ro⟩] => some ⟨List Int, L.toIntS a1, R68⟩
  | _, _, _ => none
theorem ev68 (a1 : List Int) : evF Try.prog G68 L68 (0, 0) [] Try.f68 c68 [vl 0] [] [⟨3, (.int .i64), a1, .ro⟩] K68 = L.toIntS a1 := by kernel_rfl
theorem good68 : Vm.Good Try.prog 68 E68 := by
  refine evF_good (G := G68) (c := c68) envNil_good Try.func68 (by kernel_rfl) (by kernel_rfl) (0, 0) (fun args bs rs out t h h2 => ?_)
  unfold E68 at h
  split at h
  · injection h with h
    subst h
    exact ⟨rfl, [], L68, K68, lp68, (fun r t h => by unfold K68 at h; split at h; (injection h with h; subst h; rfl); cases h), (ev68 _).trans h2⟩
  · cases h
/-! ### L.toAgg -/
noncomputable def G25 : Env := (envCons 67 [] E67 (envCons 68 [] E68 envNil))
noncomputable def c25 : Code := bodyOf Try.f25
noncomputable def L.toAgg (a1 a2 a3 a4 a5 : Int) (a6 : List Int) : Option (Int × Int × Int × Int × Int × List Int) :=
(Option.bind (L.toWide a2 a3) fun r7 =>
(Option.bind (L.toIntS a6) fun r8 =>
(some (a1, r7.1, r7.2, a4, a5, r8))))
noncomputable def R25 (x : Int × Int × Int × Int × Int × List Int) : Res := ⟨[.agg [ai x.1, ai x.2.1, ak .u64 x.2.2.1, ai x.2.2.2.1, ai x.2.2.2.2.1, .sl 0]], [], [⟨3, (.int .i64), x.2.2.2.2.2, .own⟩]⟩
noncomputable def K25 (r : Res) : Option (Int × Int × Int × Int × Int × List Int) :=
  match r with
  | ⟨[.agg [.val (.int .i64 v1), .val (.int .i64 v2), .val (.int .u64 v3), .val (.int .i64 v4), .val (.int .i64 v5), .sl 0]], [], [⟨3, (.int .i64), v6, .own⟩]⟩ => some (v1, v2, v3, v4, v5, v6)
  | _ => none
noncomputable def E25 : Fun2 := fun args bs rs =>
  match args, bs, rs with
  | [.s1 (.agg [.val (.int .i64 a1), .val (.int .i64 a2), .val (.int .u64 a3), .val (.int .i64 a4), .val (.int .i64 a5), .sl 0])], [], [⟨3, (.int .i64), a6, .ro⟩] => some ⟨Int × Int × Int × Int × Int × List Int, L.toAgg a1 a2 a3 a4 a5 a6, R25⟩
  | _, _, _ => none
theorem ev25 (a1 a2 a3 a4 a5 : Int) (a6 : List Int) : evF Try.prog G25 loopNil (0, 0) [] Try.f25 c25 [.s1 (.agg [ai a1, ai a2, ak .u64 a3, ai a4, ai a5, .sl 0])] [] [⟨3, (.int .i64), a6, .ro⟩] K25 = L.toAgg a1 a2 a3 a4 a5 a6 := by kernel_rfl
theorem good25 : Vm.Good Try.prog 25 E25 := by
  refine evF_good (G := G25) (c := c25) (envCons_good good67 (envCons_good good68 envNil_good)) Try.func25 (by kernel_rfl) (by kernel_rfl) (0, 0) (fun args bs rs out t h h2 => ?_)
  unfold E25 at h
  split at h
  · injection h with h
    subst h
    exact ⟨rfl, [], loopNil, K25, (no_loops (c := c25) (by kernel_rfl)), (fun r t h => by unfold K25 at h; split at h; (injection h with h; subst h; rfl); cases h), (ev25 _ _ _ _ _ _).trans h2⟩
  · cases h
/-! ### S.l03Takes -/
noncomputable def G141 : Env := envNil
noncomputable def c141 : Code := bodyOf Try.f141
noncomputable def S.l03Takes (a1 : Int) : Option Int :=
(bif (decide (a1 ≤ 3)) then
(some 0)
else
(bif (a1 == 11) then
(some 1)
else
(some 2)))
noncomputable def R141 (x : Int) : Res := ⟨[.one (ai x)], [], []⟩
noncomputable def K141 (r : Res) : Option Int :=
  match r with
  | ⟨[.one (.val (.int .i64 v1))], [], []⟩ => some (v1)
  | _ => none
noncomputable def E141 : Fun2 := fun args bs rs =>
  match args, bs, rs with
  | [.s1 (.one (.val (.int .i64 a1)))], [], [] => some ⟨Int, S.l03Takes a1, R141⟩
  | _, _, _ => none
theorem ev141 (a1 : Int) : evF Try.prog G141 loopNil (0, 0) [] Try.f141 c141 [vi a1] [] [] K141 = S.l03Takes a1 := by kernel_rfl
theorem good141 : Vm.Good Try.prog 141 E141 := by
  refine evF_good (G := G141) (c := c141) envNil_good Try.func141 (by kernel_rfl) (by kernel_rfl) (0, 0) (fun args bs rs out t h h2 => ?_)
  unfold E141 at h
  split at h
  · injection h with h
    subst h
    exact ⟨rfl, [], loopNil, K141, (no_loops (c := c141) (by kernel_rfl)), (fun r t h => by unfold K141 at h; split at h; (injection h with h; subst h; rfl); cases h), (ev141 _).trans h2⟩
  · cases h
/-! ### S.l03Depth -/
noncomputable def G128 : Env := (envCons 141 [] E141 envNil)
noncomputable def c128 : Code := bodyOf Try.f128
noncomputable def c128_6 : Code := (loopsOf c128).getD 0 .skip
noncomputable def S.l03Depth_l0 : Nat → (Int → Int → Int → Option Int) → (Int → Int → Option Int) → Int → Int → Int → (List (Int × Int)) → Option Int
  | 0, _, _, _, _, _, _ => none
  | m + 1, e6_0, e6_1, a6, a7, a8, a9 =>
    (bif (decide (a8 < (a9.length : Int))) then
    (bif decide ((0 : Int) ≤ a8 ∧ a8 < (a9.length : Int)) then
    (bif (decide ((nthI a9 a8 df1).1 < 0)) then
    (e6_0 (-1) a6 a7)
    else
    (bif decide ((0 : Int) ≤ a8 ∧ a8 < (a9.length : Int)) then
    (bif (decide (11 < (nthI a9 a8 df1).1)) then
    (e6_0 (-1) a6 a7)
    else
    (bif decide ((0 : Int) ≤ a8 ∧ a8 < (a9.length : Int)) then
    (bif ((nthI a9 a8 df1).1 != 0) then
    (bif decide ((0 : Int) ≤ a8 ∧ a8 < (a9.length : Int)) then
    (bif ((nthI a9 a8 df1).2 != 0) then
    (e6_0 (-1) a6 a7)
    else
    (bif decide ((0 : Int) ≤ a8 ∧ a8 < (a9.length : Int)) then
    (Option.bind (S.l03Takes ((nthI a9 a8 df1).1)) fun r16 =>
    (bif (decide (a6 < r16)) then
    (e6_0 (-1) a6 a7)
    else
    (bif decide ((0 : Int) ≤ a8 ∧ a8 < (a9.length : Int)) then
    (Option.bind (S.l03Takes ((nthI a9 a8 df1).1)) fun r18 =>
    (let v20 : Int := (IntKind.wrap .i64 ((IntKind.wrap .i64 (a6 - r18)) + 1))
    (S.l03Depth_l0 m e6_0 e6_1 v20 (if v20 > a7 then v20 else a7) (IntKind.wrap .i64 (a8 + 1)) a9)))
    else
    none)))
    else
    none))
    else
    none)
    else
    (bif decide ((0 : Int) ≤ a8 ∧ a8 < (a9.length : Int)) then
    (Option.bind (S.l03Takes ((nthI a9 a8 df1).1)) fun r23 =>
    (bif (decide (a6 < r23)) then
    (e6_0 (-1) a6 a7)
    else
    (bif decide ((0 : Int) ≤ a8 ∧ a8 < (a9.length : Int)) then
    (Option.bind (S.l03Takes ((nthI a9 a8 df1).1)) fun r25 =>
    (let v27 : Int := (IntKind.wrap .i64 ((IntKind.wrap .i64 (a6 - r25)) + 1))
    (S.l03Depth_l0 m e6_0 e6_1 v27 (if v27 > a7 then v27 else a7) (IntKind.wrap .i64 (a8 + 1)) a9)))
    else
    none)))
    else
    none))
    else
    none))
    else
    none))
    else
    none)
    else
    (e6_1 a6 a7))
noncomputable def S.l03Depth (a1 : List (Int × Int)) : Option Int :=
(bif (decide ((a1.length : Int) < 1)) then
(some (-1))
else
(bif (decide (20 < (a1.length : Int))) then
(some (-1))
else
(S.l03Depth_l0 fu (fun y30 y31 y32 =>
(some y30)) (fun y33 y34 =>
(bif (y33 != 1) then
(some (-1))
else
(some y34))) 0 0 0 a1)))
noncomputable def H128_6 : LoopH := ⟨⟨((.one (.sl 0)) :: (hu 2 (hh :: hh :: hh :: (hu 69 [])))), [], [(153, sh1, .ro)]⟩, ([1, 2] ++ rg 6 69), [], ([0, 1] ++ rg 5 70), [], []⟩
noncomputable def E128_6 (m : Nat) (ps : List Prm) (k : Kont Int) : Option Int :=
  match ps with
  | [.v (.int .i64 a6), .v (.int .i64 a7), .v (.int .i64 a8), .row (.pair (.int .i64) (.int .i64)) a9] => S.l03Depth_l0 m (fun z40 z41 z42 => k .ret (⟨(vu 2 ((vi z40) :: (vi z41) :: (vi z42) :: (vu 70 []))), [], []⟩ : St)) (fun z43 z44 => k (.exit 0) (⟨(vu 3 ((vi z43) :: (vi z44) :: (vu 70 []))), [], []⟩ : St)) a6 a7 a8 a9
  | _ => none
noncomputable def S128_6 (a6 a7 a8 : Int) (a9 : List (Int × Int)) : St := (⟨((vl 0) :: (vu 2 ((vi a6) :: (vi a7) :: (vi a8) :: (vu 69 [])))), [], [⟨153, sh1, a9, .ro⟩]⟩ : St)
theorem ev128_6 (m : Nat) (k : Kont Int) (a6 a7 a8 : Int) (a9 : List (Int × Int)) : evC Try.prog G128 loopNil c128_6 (S128_6 a6 a7 a8 a9) (turn Try.prog (0, 0) H128_6 (E128_6 m) k) = E128_6 (m + 1) ([.v (.int .i64 a6), .v (.int .i64 a7), .v (.int .i64 a8), .row sh1 a9]) k := by kernel_rfl
theorem ok128_6 (m : Nat) : LoopOk Try.prog (0, 0) c128_6 (enter Try.prog (0, 0) H128_6 (E128_6 m)) := by
  refine loop_ok (G := G128) (L := loopNil) (envCons_good good141 envNil_good) (no_loops (c := c128_6) (by kernel_rfl)) (fun ps k => by unfold E128_6; split <;> rfl) (fun m ps k r h => ?_) m
  have h0 := h
  unfold E128_6 at h
  split at h
  · exact ⟨S128_6 _ _ _ _, by kernel_rfl, (ev128_6 m k _ _ _ _).trans h0⟩
  · cases h
noncomputable def L128 : LEnv Int := (loopCons 6 (enter Try.prog (0, 0) H128_6 (E128_6 fu)) loopNil)
theorem lq128 : loopsOf c128 = [c128_6] := by kernel_rfl
theorem fr128_6 : firstReg c128_6 = some 6 := by kernel_rfl
theorem le128_6 : L128 6 = enter Try.prog (0, 0) H128_6 (E128_6 fu) := by kernel_rfl
theorem lm128 : ∀ x ∈ [c128_6], ∀ id, firstReg x = some id → LoopOk Try.prog (0, 0) x (L128 id) := (loops_cons fr128_6 le128_6 (ok128_6 fu) loops_nil)
theorem lp128 : ∀ x ∈ loopsOf c128, ∀ id, firstReg x = some id → LoopOk Try.prog (0, 0) x (L128 id) := loops_eq lq128 lm128
noncomputable def R128 (x : Int) : Res := ⟨[.one (ai x)], [], []⟩
noncomputable def K128 (r : Res) : Option Int :=
  match r with
  | ⟨[.one (.val (.int .i64 v1))], [], []⟩ => some (v1)
  | _ => none
noncomputable def E128 : Fun2 := fun args bs rs =>
  match args, bs, rs with
  | [.s1 (.one (.sl 0))], [], [⟨153, (.pair (.int .i64) (.int .i64)), a1, .ro⟩] => some ⟨Int, S.l03Depth a1, R128⟩
  | _, _, _ => none
theorem ev128 (a1 : List (Int × Int)) : evF Try.prog G128 L128 (0, 0) [] Try.f128 c128 [vl 0] [] [⟨153, sh1, a1, .ro⟩] K128 = S.l03Depth a1 := by kernel_rfl
theorem good128 : Vm.Good Try.prog 128 E128 := by
  refine evF_good (G := G128) (c := c128) (envCons_good good141 envNil_good) Try.func128 (by kernel_rfl) (by kernel_rfl) (0, 0) (fun args bs rs out t h h2 => ?_)
  unfold E128 at h
  split at h
  · injection h with h
    subst h
    exact ⟨rfl, [], L128, K128, lp128, (fun r t h => by unfold K128 at h; split at h; (injection h with h; subst h; rfl); cases h), (ev128 _).trans h2⟩
  · cases h
/-! ### S.ExprOk -/
noncomputable def G97 : Env := (envCons 128 [] E128 envNil)
noncomputable def c97 : Code := bodyOf Try.f97
noncomputable def S.ExprOk (a1 : List (Int × Int)) : Option Bool :=
(Option.bind (S.l03Depth a1) fun r2 =>
(some (decide (0 ≤ r2))))
noncomputable def R97 (x : Bool) : Res := ⟨[.one (ab x)], [], []⟩
noncomputable def K97 (r : Res) : Option Bool :=
  match r with
  | ⟨[.one (.val (.bool v1))], [], []⟩ => some (v1)
  | _ => none
noncomputable def E97 : Fun2 := fun args bs rs =>
  match args, bs, rs with
  | [.s1 (.one (.sl 0))], [], [⟨153, (.pair (.int .i64) (.int .i64)), a1, .ro⟩] => some ⟨Bool, S.ExprOk a1, R97⟩
  | _, _, _ => none
theorem ev97 (a1 : List (Int × Int)) : evF Try.prog G97 loopNil (0, 0) [] Try.f97 c97 [vl 0] [] [⟨153, sh1, a1, .ro⟩] K97 = S.ExprOk a1 := by kernel_rfl
theorem good97 : Vm.Good Try.prog 97 E97 := by
  refine evF_good (G := G97) (c := c97) (envCons_good good128 envNil_good) Try.func97 (by kernel_rfl) (by kernel_rfl) (0, 0) (fun args bs rs out t h h2 => ?_)
  unfold E97 at h
  split at h
  · injection h with h
    subst h
    exact ⟨rfl, [], loopNil, K97, (no_loops (c := c97) (by kernel_rfl)), (fun r t h => by unfold K97 at h; split at h; (injection h with h; subst h; rfl); cases h), (ev97 _).trans h2⟩
  · cases h
/-! ### S.WinOk -/
noncomputable def G98 : Env := envNil
noncomputable def c98 : Code := bodyOf Try.f98
noncomputable def S.WinOk (a1 a2 a3 : Int) : Option Bool :=
(bif (decide (a1 < 1)) then
(some false)
else
(bif (decide (3 < a1)) then
(some false)
else
(bif (decide (a2 < 1)) then
(some false)
else
(bif (decide (100 < a2)) then
(some false)
else
(bif (a1 != 2) then
(some (a3 == 0))
else
(bif (decide (1 ≤ a3)) then
(bif (decide (a3 ≤ a2)) then
(some (decide (a2 ≤ (IntKind.wrap .i64 (8 * a3)))))
else
(some false))
else
(some false)))))))
noncomputable def R98 (x : Bool) : Res := ⟨[.one (ab x)], [], []⟩
noncomputable def K98 (r : Res) : Option Bool :=
  match r with
  | ⟨[.one (.val (.bool v1))], [], []⟩ => some (v1)
  | _ => none
noncomputable def E98 : Fun2 := fun args bs rs =>
  match args, bs, rs with
  | [.s1 (.agg [.val (.int .i64 a1), .val (.int .i64 a2), .val (.int .i64 a3)])], [], [] => some ⟨Bool, S.WinOk a1 a2 a3, R98⟩
  | _, _, _ => none
theorem ev98 (a1 a2 a3 : Int) : evF Try.prog G98 loopNil (0, 0) [] Try.f98 c98 [.s1 (.agg [ai a1, ai a2, ai a3])] [] [] K98 = S.WinOk a1 a2 a3 := by kernel_rfl
theorem good98 : Vm.Good Try.prog 98 E98 := by
  refine evF_good (G := G98) (c := c98) envNil_good Try.func98 (by kernel_rfl) (by kernel_rfl) (0, 0) (fun args bs rs out t h h2 => ?_)
  unfold E98 at h
  split at h
  · injection h with h
    subst h
    exact ⟨rfl, [], loopNil, K98, (no_loops (c := c98) (by kernel_rfl)), (fun r t h => by unfold K98 at h; split at h; (injection h with h; subst h; rfl); cases h), (ev98 _ _ _).trans h2⟩
  · cases h
/-! ### S.AggKind -/
noncomputable def G99 : Env := envNil
noncomputable def c99 : Code := bodyOf Try.f99
noncomputable def S.AggKind (a1 a2 : Int) : Option Bool :=
(bif (a1 == 6) then
(bif (decide (1 ≤ a2)) then
(some (decide (a2 ≤ 4)))
else
(some false))
else
(bif (decide (1 ≤ a1)) then
(bif (decide (a1 < 6)) then
(some (a2 == 0))
else
(some false))
else
(some false)))
noncomputable def R99 (x : Bool) : Res := ⟨[.one (ab x)], [], []⟩
noncomputable def K99 (r : Res) : Option Bool :=
  match r with
  | ⟨[.one (.val (.bool v1))], [], []⟩ => some (v1)
  | _ => none
noncomputable def E99 : Fun2 := fun args bs rs =>
  match args, bs, rs with
  | [.s1 (.one (.val (.int .i64 a1))), .s1 (.one (.val (.int .i64 a2)))], [], [] => some ⟨Bool, S.AggKind a1 a2, R99⟩
  | _, _, _ => none
theorem ev99 (a1 a2 : Int) : evF Try.prog G99 loopNil (0, 0) [] Try.f99 c99 [vi a1, vi a2] [] [] K99 = S.AggKind a1 a2 := by kernel_rfl
theorem good99 : Vm.Good Try.prog 99 E99 := by
  refine evF_good (G := G99) (c := c99) envNil_good Try.func99 (by kernel_rfl) (by kernel_rfl) (0, 0) (fun args bs rs out t h h2 => ?_)
  unfold E99 at h
  split at h
  · injection h with h
    subst h
    exact ⟨rfl, [], loopNil, K99, (no_loops (c := c99) (by kernel_rfl)), (fun r t h => by unfold K99 at h; split at h; (injection h with h; subst h; rfl); cases h), (ev99 _ _).trans h2⟩
  · cases h
/-! ### S.QueryOk -/
noncomputable def G61 : Env := (envCons 97 [] E97 (envCons 98 [] E98 (envCons 99 [] E99 envNil)))
noncomputable def c61 : Code := bodyOf Try.f61
noncomputable def S.QueryOk (a1 a2 a3 a4 a5 : Int) (a6 a7 : List (Int × Int)) : Option Bool :=
(Option.bind (S.ExprOk a6) fun r8 =>
(bif r8 then
(Option.bind (S.ExprOk a7) fun r9 =>
(bif r9 then
(Option.bind (S.WinOk a1 a2 a3) fun r10 =>
(bif r10 then
(Option.bind (S.AggKind a4 a5) fun r11 =>
(some r11))
else
(some false)))
else
(some false)))
else
(some false)))
noncomputable def R61 (x : Bool) : Res := ⟨[.one (ab x)], [], []⟩
noncomputable def K61 (r : Res) : Option Bool :=
  match r with
  | ⟨[.one (.val (.bool v1))], [], []⟩ => some (v1)
  | _ => none
noncomputable def E61 : Fun2 := fun args bs rs =>
  match args, bs, rs with
  | [.s1 (.agg [.sl 0, .sl 1, .val (.int .i64 a1), .val (.int .i64 a2), .val (.int .i64 a3), .val (.int .i64 a4), .val (.int .i64 a5)])], [], [⟨153, (.pair (.int .i64) (.int .i64)), a6, .ro⟩, ⟨153, (.pair (.int .i64) (.int .i64)), a7, .ro⟩] => some ⟨Bool, S.QueryOk a1 a2 a3 a4 a5 a6 a7, R61⟩
  | _, _, _ => none
theorem ev61 (a1 a2 a3 a4 a5 : Int) (a6 a7 : List (Int × Int)) : evF Try.prog G61 loopNil (0, 0) [] Try.f61 c61 [.s1 (.agg [.sl 0, .sl 1, ai a1, ai a2, ai a3, ai a4, ai a5])] [] [⟨153, sh1, a6, .ro⟩, ⟨153, sh1, a7, .ro⟩] K61 = S.QueryOk a1 a2 a3 a4 a5 a6 a7 := by kernel_rfl
theorem good61 : Vm.Good Try.prog 61 E61 := by
  refine evF_good (G := G61) (c := c61) (envCons_good good97 (envCons_good good98 (envCons_good good99 envNil_good))) Try.func61 (by kernel_rfl) (by kernel_rfl) (0, 0) (fun args bs rs out t h h2 => ?_)
  unfold E61 at h
  split at h
  · injection h with h
    subst h
    exact ⟨rfl, [], loopNil, K61, (no_loops (c := c61) (by kernel_rfl)), (fun r t h => by unfold K61 at h; split at h; (injection h with h; subst h; rfl); cases h), (ev61 _ _ _ _ _ _ _).trans h2⟩
  · cases h
/-! ### S.TopOf -/
noncomputable def G101 : Env := envNil
noncomputable def c101 : Code := bodyOf Try.f101
noncomputable def c101_3 : Code := (loopsOf c101).getD 0 .skip
noncomputable def c101_6 : Code := (loopsOf c101_3).getD 0 .skip
noncomputable def S.TopOf_l1 : Nat → (Int → List Int → List Int → Option (List Int)) → Int → Int → List Int → List Int → Option (List Int)
  | 0, _, _, _, _, _ => none
  | m + 1, e6_0, a10, a11, a12, a13 =>
    (bif (decide (a11 < (a12.length : Int))) then
    (bif decide ((0 : Int) ≤ a11 ∧ a11 < (a12.length : Int)) then
    (bif decide ((0 : Int) ≤ a10 ∧ a10 < (a12.length : Int)) then
    (let v16 : Bool := (decide ((nthI a12 a10 (0 : Int)) < (nthI a12 a11 (0 : Int))))
    (bif v16 then
    (S.TopOf_l1 m e6_0 a11 (IntKind.wrap .i64 (a11 + 1)) a12 a13)
    else
    (S.TopOf_l1 m e6_0 a10 (IntKind.wrap .i64 (a11 + 1)) a12 a13)))
    else
    none)
    else
    none)
    else
    (e6_0 a10 a12 a13))
noncomputable def S.TopOf_l0 : Nat → (List Int → Option (List Int)) → List Int → List Int → Option (List Int)
  | 0, _, _, _ => none
  | m + 1, e3_0, a4, a5 =>
    (bif (decide ((a5.length : Int) < 4)) then
    (bif (decide (0 < (a4.length : Int))) then
    (S.TopOf_l1 fu (fun y19 y20 y21 =>
    (bif decide ((0 : Int) ≤ y19 ∧ y19 < (y20.length : Int)) then
    (let v22 : List Int := [(nthI y20 y19 (0 : Int))]
    (bif decide ((y21.length + v22.length) * 8 ≤ 140737488355328) then
    (bif decide ((0 : Int) ≤ 0 ∧ 0 ≤ y19 ∧ y19 ≤ (y20.length : Int)) then
    (let v23 : Int := (IntKind.wrap .i64 (y19 + 1))
    (bif decide ((0 : Int) ≤ v23 ∧ v23 ≤ (y20.length : Int) ∧ (y20.length : Int) ≤ (y20.length : Int)) then
    (bif decide ((([] : List (Int)).length + ((y20.take (Int.toNat y19)).drop (Int.toNat 0)).length) * 8 ≤ 140737488355328) then
    (let v24 : List Int := (([] : List (Int)) ++ ((y20.take (Int.toNat y19)).drop (Int.toNat 0)))
    (bif decide ((v24.length + ((y20.take (Int.toNat (y20.length : Int))).drop (Int.toNat v23)).length) * 8 ≤ 140737488355328) then
    (let v25 : List Int := (v24 ++ ((y20.take (Int.toNat (y20.length : Int))).drop (Int.toNat v23)))
    (S.TopOf_l0 m e3_0 v25 (y21 ++ v22)))
    else
    none))
    else
    none)
    else
    none))
    else
    none)
    else
    none))
    else
    none)) 0 0 a4 a5)
    else
    (e3_0 a5))
    else
    (e3_0 a5))
noncomputable def S.TopOf (a1 a2 : List Int) : Option (List Int) :=
(bif decide ((([] : List (Int)).length + a1.length) * 8 ≤ 140737488355328) then
(let v3 : List Int := (([] : List (Int)) ++ a1)
(bif decide ((v3.length + a2.length) * 8 ≤ 140737488355328) then
(S.TopOf_l0 fu (fun y26 =>
(some y26)) (v3 ++ a2) [])
else
none))
else
none)
noncomputable def H101_6 : LoopH := ⟨⟨(hu 5 ((.one (.sl 0)) :: (.one (.sl 1)) :: hh :: hh :: (hu 48 []))), [], [(3, (.int .i64), .own), (3, (.int .i64), .own)]⟩, (rg 0 5 ++ rg 9 48), [], (rg 0 4 ++ rg 8 49), [], []⟩
noncomputable def E101_6 (m : Nat) (ps : List Prm) (k : Kont (List Int)) : Option (List Int) :=
  match ps with
  | [.v (.int .i64 a10), .v (.int .i64 a11), .row (.int .i64) a12, .row (.int .i64) a13] => S.TopOf_l1 m (fun z31 z32 z33 => k (.exit 2) (⟨(vu 5 ((vl 0) :: (vl 1) :: (vi z31) :: (vu 49 []))), [], [⟨3, (.int .i64), z32, .own⟩, ⟨3, (.int .i64), z33, .own⟩]⟩ : St)) a10 a11 a12 a13
  | _ => none
noncomputable def S101_6 (a10 a11 : Int) (a12 a13 : List Int) : St := (⟨(vu 5 ((vl 0) :: (vl 1) :: (vi a10) :: (vi a11) :: (vu 48 []))), [], [⟨3, (.int .i64), a12, .own⟩, ⟨3, (.int .i64), a13, .own⟩]⟩ : St)
theorem ev101_6 (m : Nat) (k : Kont (List Int)) (a10 a11 : Int) (a12 a13 : List Int) : evC Try.prog G101 loopNil c101_6 (S101_6 a10 a11 a12 a13) (turn Try.prog (0, 0) H101_6 (E101_6 m) k) = E101_6 (m + 1) ([.v (.int .i64 a10), .v (.int .i64 a11), .row (.int .i64) a12, .row (.int .i64) a13]) k := by kernel_rfl
theorem ok101_6 (m : Nat) : LoopOk Try.prog (0, 0) c101_6 (enter Try.prog (0, 0) H101_6 (E101_6 m)) := by
  refine loop_ok (G := G101) (L := loopNil) envNil_good (no_loops (c := c101_6) (by kernel_rfl)) (fun ps k => by unfold E101_6; split <;> rfl) (fun m ps k r h => ?_) m
  have h0 := h
  unfold E101_6 at h
  split at h
  · exact ⟨S101_6 _ _ _ _, by kernel_rfl, (ev101_6 m k _ _ _ _).trans h0⟩
  · cases h
noncomputable def L101_3 : LEnv (List Int) := (loopCons 6 (enter Try.prog (0, 0) H101_6 (E101_6 fu)) loopNil)
theorem lq101_3 : loopsOf c101_3 = [c101_6] := by kernel_rfl
theorem fr101_6 : firstReg c101_6 = some 6 := by kernel_rfl
theorem le101_6 : L101_3 6 = enter Try.prog (0, 0) H101_6 (E101_6 fu) := by kernel_rfl
theorem lm101_3 : ∀ x ∈ [c101_6], ∀ id, firstReg x = some id → LoopOk Try.prog (0, 0) x (L101_3 id) := (loops_cons fr101_6 le101_6 (ok101_6 fu) loops_nil)
theorem lp101_3 : ∀ x ∈ loopsOf c101_3, ∀ id, firstReg x = some id → LoopOk Try.prog (0, 0) x (L101_3 id) := loops_eq lq101_3 lm101_3
noncomputable def H101_3 : LoopH := ⟨⟨(hu 5 ((.one (.sl 0)) :: (.one (.sl 1)) :: (hu 50 []))), [], [(3, (.int .i64), .own), (3, (.int .i64), .own)]⟩, (rg 0 5 ++ rg 7 50), [], (rg 0 4 ++ [5] ++ rg 7 50), [], []⟩
noncomputable def E101_3 (m : Nat) (ps : List Prm) (k : Kont (List Int)) : Option (List Int) :=
  match ps with
  | [.row (.int .i64) a4, .row (.int .i64) a5] => S.TopOf_l0 m (fun z34 => k (.exit 0) (⟨(vu 6 ((vl 0) :: (vu 50 []))), [], [⟨3, (.int .i64), z34, .own⟩]⟩ : St)) a4 a5
  | _ => none
noncomputable def S101_3 (a4 a5 : List Int) : St := (⟨(vu 5 ((vl 0) :: (vl 1) :: (vu 50 []))), [], [⟨3, (.int .i64), a4, .own⟩, ⟨3, (.int .i64), a5, .own⟩]⟩ : St)
theorem ev101_3 (m : Nat) (k : Kont (List Int)) (a4 a5 : List Int) : evC Try.prog G101 L101_3 c101_3 (S101_3 a4 a5) (turn Try.prog (0, 0) H101_3 (E101_3 m) k) = E101_3 (m + 1) ([.row (.int .i64) a4, .row (.int .i64) a5]) k := by kernel_rfl
theorem ok101_3 (m : Nat) : LoopOk Try.prog (0, 0) c101_3 (enter Try.prog (0, 0) H101_3 (E101_3 m)) := by
  refine loop_ok (G := G101) (L := L101_3) envNil_good lp101_3 (fun ps k => by unfold E101_3; split <;> rfl) (fun m ps k r h => ?_) m
  have h0 := h
  unfold E101_3 at h
  split at h
  · exact ⟨S101_3 _ _, by kernel_rfl, (ev101_3 m k _ _).trans h0⟩
  · cases h
noncomputable def L101 : LEnv (List Int) := (loopCons 3 (enter Try.prog (0, 0) H101_3 (E101_3 fu)) loopNil)
theorem lq101 : loopsOf c101 = [c101_3] := by kernel_rfl
theorem fr101_3 : firstReg c101_3 = some 3 := by kernel_rfl
theorem le101_3 : L101 3 = enter Try.prog (0, 0) H101_3 (E101_3 fu) := by kernel_rfl
theorem lm101 : ∀ x ∈ [c101_3], ∀ id, firstReg x = some id → LoopOk Try.prog (0, 0) x (L101 id) := (loops_cons fr101_3 le101_3 (ok101_3 fu) loops_nil)
theorem lp101 : ∀ x ∈ loopsOf c101, ∀ id, firstReg x = some id → LoopOk Try.prog (0, 0) x (L101 id) := loops_eq lq101 lm101
noncomputable def R101 (x : List Int) : Res := ⟨[.one (.sl 0)], [], [⟨3, (.int .i64), x, .own⟩]⟩
noncomputable def K101 (r : Res) : Option (List Int) :=
  match r with
  | ⟨[.one (.sl 0)], [], [⟨3, (.int .i64), v1, .own⟩]⟩ => some (v1)
  | _ => none
noncomputable def E101 : Fun2 := fun args bs rs =>
  match args, bs, rs with
  | [.s1 (.one (.sl 0)), .s1 (.one (.sl 1))], [], [⟨3, (.int .i64), a1, .ro⟩, ⟨3, (.int .i64), a2, .ro⟩] => some ⟨List Int, S.TopOf a1 a2, R101⟩
  | _, _, _ => none
theorem ev101 (a1 a2 : List Int) : evF Try.prog G101 L101 (0, 0) [] Try.f101 c101 [vl 0, vl 1] [] [⟨3, (.int .i64), a1, .ro⟩, ⟨3, (.int .i64), a2, .ro⟩] K101 = S.TopOf a1 a2 := by kernel_rfl
theorem good101 : Vm.Good Try.prog 101 E101 := by
  refine evF_good (G := G101) (c := c101) envNil_good Try.func101 (by kernel_rfl) (by kernel_rfl) (0, 0) (fun args bs rs out t h h2 => ?_)
  unfold E101 at h
  split at h
  · injection h with h
    subst h
    exact ⟨rfl, [], L101, K101, lp101, (fun r t h => by unfold K101 at h; split at h; (injection h with h; subst h; rfl); cases h), (ev101 _ _).trans h2⟩
  · cases h
/-! ### S.l07Same -/
noncomputable def G100 : Env := envNil
noncomputable def c100 : Code := bodyOf Try.f100
noncomputable def c100_4 : Code := (loopsOf c100).getD 0 .skip
noncomputable def S.l07Same_l0 : Nat → (Bool → Option Bool) → (Option Bool) → Int → List Int → List Int → Option Bool
  | 0, _, _, _, _, _ => none
  | m + 1, e4_0, e4_1, a5, a6, a7 =>
    (bif (decide (a5 < (a6.length : Int))) then
    (bif decide ((0 : Int) ≤ a5 ∧ a5 < (a6.length : Int)) then
    (bif decide ((0 : Int) ≤ a5 ∧ a5 < (a7.length : Int)) then
    (bif ((nthI a6 a5 (0 : Int)) != (nthI a7 a5 (0 : Int))) then
    (e4_0 false)
    else
    (S.l07Same_l0 m e4_0 e4_1 (IntKind.wrap .i64 (a5 + 1)) a6 a7))
    else
    none)
    else
    none)
    else
    e4_1)
noncomputable def S.l07Same (a1 a2 : List Int) : Option Bool :=
(bif ((a1.length : Int) != (a2.length : Int)) then
(some false)
else
(S.l07Same_l0 fu (fun y12 =>
(some y12)) (some true) 0 a1 a2))
noncomputable def H100_4 : LoopH := ⟨⟨((.one (.sl 0)) :: (.one (.sl 1)) :: (hu 3 (hh :: (hu 20 [])))), [], [(3, (.int .i64), .ro), (3, (.int .i64), .ro)]⟩, ([2, 3, 4] ++ rg 6 20), [], (rg 0 4 ++ rg 5 21), [], []⟩
noncomputable def E100_4 (m : Nat) (ps : List Prm) (k : Kont Bool) : Option Bool :=
  match ps with
  | [.v (.int .i64 a5), .row (.int .i64) a6, .row (.int .i64) a7] => S.l07Same_l0 m (fun z14 => k .ret (⟨(vu 4 ((vb z14) :: (vu 21 []))), [], []⟩ : St)) (k (.exit 0) (⟨(vu 26 []), [], []⟩ : St)) a5 a6 a7
  | _ => none
noncomputable def S100_4 (a5 : Int) (a6 a7 : List Int) : St := (⟨((vl 0) :: (vl 1) :: (vu 3 ((vi a5) :: (vu 20 [])))), [], [⟨3, (.int .i64), a6, .ro⟩, ⟨3, (.int .i64), a7, .ro⟩]⟩ : St)
theorem ev100_4 (m : Nat) (k : Kont Bool) (a5 : Int) (a6 a7 : List Int) : evC Try.prog G100 loopNil c100_4 (S100_4 a5 a6 a7) (turn Try.prog (0, 0) H100_4 (E100_4 m) k) = E100_4 (m + 1) ([.v (.int .i64 a5), .row (.int .i64) a6, .row (.int .i64) a7]) k := by kernel_rfl
theorem ok100_4 (m : Nat) : LoopOk Try.prog (0, 0) c100_4 (enter Try.prog (0, 0) H100_4 (E100_4 m)) := by
  refine loop_ok (G := G100) (L := loopNil) envNil_good (no_loops (c := c100_4) (by kernel_rfl)) (fun ps k => by unfold E100_4; split <;> rfl) (fun m ps k r h => ?_) m
  have h0 := h
  unfold E100_4 at h
  split at h
  · exact ⟨S100_4 _ _ _, by kernel_rfl, (ev100_4 m k _ _ _).trans h0⟩
  · cases h
noncomputable def L100 : LEnv Bool := (loopCons 4 (enter Try.prog (0, 0) H100_4 (E100_4 fu)) loopNil)
theorem lq100 : loopsOf c100 = [c100_4] := by kernel_rfl
theorem fr100_4 : firstReg c100_4 = some 4 := by kernel_rfl
theorem le100_4 : L100 4 = enter Try.prog (0, 0) H100_4 (E100_4 fu) := by kernel_rfl
theorem lm100 : ∀ x ∈ [c100_4], ∀ id, firstReg x = some id → LoopOk Try.prog (0, 0) x (L100 id) := (loops_cons fr100_4 le100_4 (ok100_4 fu) loops_nil)
theorem lp100 : ∀ x ∈ loopsOf c100, ∀ id, firstReg x = some id → LoopOk Try.prog (0, 0) x (L100 id) := loops_eq lq100 lm100
noncomputable def R100 (x : Bool) : Res := ⟨[.one (ab x)], [], []⟩
noncomputable def K100 (r : Res) : Option Bool :=
  match r with
  | ⟨[.one (.val (.bool v1))], [], []⟩ => some (v1)
  | _ => none
noncomputable def E100 : Fun2 := fun args bs rs =>
  match args, bs, rs with
  | [.s1 (.one (.sl 0)), .s1 (.one (.sl 1))], [], [⟨3, (.int .i64), a1, .ro⟩, ⟨3, (.int .i64), a2, .ro⟩] => some ⟨Bool, S.l07Same a1 a2, R100⟩
  | _, _, _ => none
theorem ev100 (a1 a2 : List Int) : evF Try.prog G100 L100 (0, 0) [] Try.f100 c100 [vl 0, vl 1] [] [⟨3, (.int .i64), a1, .ro⟩, ⟨3, (.int .i64), a2, .ro⟩] K100 = S.l07Same a1 a2 := by kernel_rfl
theorem good100 : Vm.Good Try.prog 100 E100 := by
  refine evF_good (G := G100) (c := c100) envNil_good Try.func100 (by kernel_rfl) (by kernel_rfl) (0, 0) (fun args bs rs out t h h2 => ?_)
  unfold E100 at h
  split at h
  · injection h with h
    subst h
    exact ⟨rfl, [], L100, K100, lp100, (fun r t h => by unfold K100 at h; split at h; (injection h with h; subst h; rfl); cases h), (ev100 _ _).trans h2⟩
  · cases h
/-! ### S.WideOf -/
noncomputable def G103 : Env := envNil
noncomputable def c103 : Code := bodyOf Try.f103
noncomputable def S.WideOf (a1 : Int) : Option (Int × Int) :=
(bif (decide (a1 < 0)) then
(some ((-1), (IntKind.wrap .u64 a1)))
else
(some (0, (IntKind.wrap .u64 a1))))
noncomputable def R103 (x : Int × Int) : Res := ⟨[.agg [ai x.1, ak .u64 x.2]], [], []⟩
noncomputable def K103 (r : Res) : Option (Int × Int) :=
  match r with
  | ⟨[.agg [.val (.int .i64 v1), .val (.int .u64 v2)]], [], []⟩ => some (v1, v2)
  | _ => none
noncomputable def E103 : Fun2 := fun args bs rs =>
  match args, bs, rs with
  | [.s1 (.one (.val (.int .i64 a1)))], [], [] => some ⟨Int × Int, S.WideOf a1, R103⟩
  | _, _, _ => none
theorem ev103 (a1 : Int) : evF Try.prog G103 loopNil (0, 0) [] Try.f103 c103 [vi a1] [] [] K103 = S.WideOf a1 := by kernel_rfl
theorem good103 : Vm.Good Try.prog 103 E103 := by
  refine evF_good (G := G103) (c := c103) envNil_good Try.func103 (by kernel_rfl) (by kernel_rfl) (0, 0) (fun args bs rs out t h h2 => ?_)
  unfold E103 at h
  split at h
  · injection h with h
    subst h
    exact ⟨rfl, [], loopNil, K103, (no_loops (c := c103) (by kernel_rfl)), (fun r t h => by unfold K103 at h; split at h; (injection h with h; subst h; rfl); cases h), (ev103 _).trans h2⟩
  · cases h
/-! ### S.WideAdd -/
noncomputable def G102 : Env := envNil
noncomputable def c102 : Code := bodyOf Try.f102
noncomputable def S.WideAdd (a1 a2 a3 a4 : Int) : Option (Int × Int) :=
(let v5 : Int := (IntKind.wrap .u64 (a2 + a4))
(let v8 : Int := (IntKind.wrap .u64 ((IntKind.wrap .u64 a1) + (IntKind.wrap .u64 a3)))
(bif (decide (v5 < a2)) then
(some ((IntKind.wrap .i64 (IntKind.wrap .u64 (v8 + 1))), v5))
else
(some ((IntKind.wrap .i64 v8), v5)))))
noncomputable def R102 (x : Int × Int) : Res := ⟨[.agg [ai x.1, ak .u64 x.2]], [], []⟩
noncomputable def K102 (r : Res) : Option (Int × Int) :=
  match r with
  | ⟨[.agg [.val (.int .i64 v1), .val (.int .u64 v2)]], [], []⟩ => some (v1, v2)
  | _ => none
noncomputable def E102 : Fun2 := fun args bs rs =>
  match args, bs, rs with
  | [.s1 (.agg [.val (.int .i64 a1), .val (.int .u64 a2)]), .s1 (.agg [.val (.int .i64 a3), .val (.int .u64 a4)])], [], [] => some ⟨Int × Int, S.WideAdd a1 a2 a3 a4, R102⟩
  | _, _, _ => none
theorem ev102 (a1 a2 a3 a4 : Int) : evF Try.prog G102 loopNil (0, 0) [] Try.f102 c102 [.s1 (.agg [ai a1, ak .u64 a2]), .s1 (.agg [ai a3, ak .u64 a4])] [] [] K102 = S.WideAdd a1 a2 a3 a4 := by kernel_rfl
theorem good102 : Vm.Good Try.prog 102 E102 := by
  refine evF_good (G := G102) (c := c102) envNil_good Try.func102 (by kernel_rfl) (by kernel_rfl) (0, 0) (fun args bs rs out t h h2 => ?_)
  unfold E102 at h
  split at h
  · injection h with h
    subst h
    exact ⟨rfl, [], loopNil, K102, (no_loops (c := c102) (by kernel_rfl)), (fun r t h => by unfold K102 at h; split at h; (injection h with h; subst h; rfl); cases h), (ev102 _ _ _ _).trans h2⟩
  · cases h
/-! ### S.WideNeg -/
noncomputable def G133 : Env := (envCons 102 [] E102 envNil)
noncomputable def c133 : Code := bodyOf Try.f133
noncomputable def S.WideNeg (a1 a2 : Int) : Option (Int × Int) :=
(Option.bind (S.WideAdd (IntKind.wrap .i64 ((-1) - a1)) (IntKind.wrap .u64 (18446744073709551615 - a2)) 0 1) fun r5 =>
(some (r5.1, r5.2)))
noncomputable def R133 (x : Int × Int) : Res := ⟨[.agg [ai x.1, ak .u64 x.2]], [], []⟩
noncomputable def K133 (r : Res) : Option (Int × Int) :=
  match r with
  | ⟨[.agg [.val (.int .i64 v1), .val (.int .u64 v2)]], [], []⟩ => some (v1, v2)
  | _ => none
noncomputable def E133 : Fun2 := fun args bs rs =>
  match args, bs, rs with
  | [.s1 (.agg [.val (.int .i64 a1), .val (.int .u64 a2)])], [], [] => some ⟨Int × Int, S.WideNeg a1 a2, R133⟩
  | _, _, _ => none
theorem ev133 (a1 a2 : Int) : evF Try.prog G133 loopNil (0, 0) [] Try.f133 c133 [.s1 (.agg [ai a1, ak .u64 a2])] [] [] K133 = S.WideNeg a1 a2 := by kernel_rfl
theorem good133 : Vm.Good Try.prog 133 E133 := by
  refine evF_good (G := G133) (c := c133) (envCons_good good102 envNil_good) Try.func133 (by kernel_rfl) (by kernel_rfl) (0, 0) (fun args bs rs out t h h2 => ?_)
  unfold E133 at h
  split at h
  · injection h with h
    subst h
    exact ⟨rfl, [], loopNil, K133, (no_loops (c := c133) (by kernel_rfl)), (fun r t h => by unfold K133 at h; split at h; (injection h with h; subst h; rfl); cases h), (ev133 _ _).trans h2⟩
  · cases h
/-! ### S.l03Times -/
noncomputable def G129 : Env := (envCons 103 [] E103 (envCons 133 [] E133 (envCons 102 [] E102 envNil)))
noncomputable def c129 : Code := bodyOf Try.f129
noncomputable def c129_7 : Code := (loopsOf c129).getD 0 .skip
noncomputable def S.l03Times_l0 : Nat → (Int → Int → Int → Int → Option (Int × Int)) → Int → Int → Int → Int → Int → Int → Int → Option (Int × Int)
  | 0, _, _, _, _, _, _, _, _ => none
  | m + 1, e7_0, a8, a9, a10, a11, a12, a13, a14 =>
    (bif (decide (0 < a8)) then
    (bif decide (2 = 0) then
    none
    else
    (bif ((Int.tmod a8 2) == 1) then
    (Option.bind (S.WideAdd a11 a12 a13 a14) fun r17 =>
    (Option.bind (S.WideAdd a13 a14 a13 a14) fun r18 =>
    (bif decide (2 = 0) then
    none
    else
    (S.l03Times_l0 m e7_0 (IntKind.wrap .u64 (Int.tdiv a8 2)) a9 a10 r17.1 r17.2 r18.1 r18.2))))
    else
    (Option.bind (S.WideAdd a13 a14 a13 a14) fun r20 =>
    (bif decide (2 = 0) then
    none
    else
    (S.l03Times_l0 m e7_0 (IntKind.wrap .u64 (Int.tdiv a8 2)) a9 a10 a11 a12 r20.1 r20.2)))))
    else
    (e7_0 a9 a10 a11 a12))
noncomputable def S.l03Times (a1 a2 : Int) : Option (Int × Int) :=
(Option.bind (S.WideOf a1) fun r3 =>
(let v4 : Int := (IntKind.wrap .u64 a2)
(bif (decide (a2 < 0)) then
(Option.bind (S.WideNeg r3.1 r3.2) fun r6 =>
(S.l03Times_l0 fu (fun y22 y23 y24 y25 =>
(some (y24, y25))) (IntKind.wrap .u64 (0 - v4)) 0 0 0 0 r6.1 r6.2))
else
(S.l03Times_l0 fu (fun y26 y27 y28 y29 =>
(some (y28, y29))) v4 0 0 0 0 r3.1 r3.2))))
noncomputable def H129_7 : LoopH := ⟨⟨(hu 4 ((.one (.ptr 0 0)) :: (.one (.ptr 1 0)) :: (.one (.ptr 2 0)) :: hh :: (hu 25 []))), [(71, [.hole, .hole]), (71, [.hole, .hole]), (71, [.hole, .hole])], []⟩, (rg 0 4 ++ rg 8 25), [], (rg 0 4 ++ rg 6 27), [], []⟩
noncomputable def E129_7 (m : Nat) (ps : List Prm) (k : Kont (Int × Int)) : Option (Int × Int) :=
  match ps with
  | [.v (.int .u64 a8), .v (.int .i64 a9), .v (.int .u64 a10), .v (.int .i64 a11), .v (.int .u64 a12), .v (.int .i64 a13), .v (.int .u64 a14)] => S.l03Times_l0 m (fun z34 z35 z36 z37 => k (.exit 0) (⟨(vu 4 ((vp 0 0) :: (vp 1 0) :: (vu 27 []))), [(71, [ai z34, ak .u64 z35]), (71, [ai z36, ak .u64 z37])], []⟩ : St)) a8 a9 a10 a11 a12 a13 a14
  | _ => none
noncomputable def S129_7 (a8 a9 a10 a11 a12 a13 a14 : Int) : St := (⟨(vu 4 ((vp 0 0) :: (vp 1 0) :: (vp 2 0) :: (vk .u64 a8) :: (vu 25 []))), [(71, [ai a9, ak .u64 a10]), (71, [ai a11, ak .u64 a12]), (71, [ai a13, ak .u64 a14])], []⟩ : St)
theorem ev129_7 (m : Nat) (k : Kont (Int × Int)) (a8 a9 a10 a11 a12 a13 a14 : Int) : evC Try.prog G129 loopNil c129_7 (S129_7 a8 a9 a10 a11 a12 a13 a14) (turn Try.prog (0, 0) H129_7 (E129_7 m) k) = E129_7 (m + 1) ([.v (.int .u64 a8), .v (.int .i64 a9), .v (.int .u64 a10), .v (.int .i64 a11), .v (.int .u64 a12), .v (.int .i64 a13), .v (.int .u64 a14)]) k := by kernel_rfl
theorem ok129_7 (m : Nat) : LoopOk Try.prog (0, 0) c129_7 (enter Try.prog (0, 0) H129_7 (E129_7 m)) := by
  refine loop_ok (G := G129) (L := loopNil) (envCons_good good103 (envCons_good good133 (envCons_good good102 envNil_good))) (no_loops (c := c129_7) (by kernel_rfl)) (fun ps k => by unfold E129_7; split <;> rfl) (fun m ps k r h => ?_) m
  have h0 := h
  unfold E129_7 at h
  split at h
  · exact ⟨S129_7 _ _ _ _ _ _ _, by kernel_rfl, (ev129_7 m k _ _ _ _ _ _ _).trans h0⟩
  · cases h
noncomputable def L129 : LEnv (Int × Int) := (loopCons 7 (enter Try.prog (0, 0) H129_7 (E129_7 fu)) loopNil)
theorem lq129 : loopsOf c129 = [c129_7] := by kernel_rfl
theorem fr129_7 : firstReg c129_7 = some 7 := by kernel_rfl
theorem le129_7 : L129 7 = enter Try.prog (0, 0) H129_7 (E129_7 fu) := by kernel_rfl
theorem lm129 : ∀ x ∈ [c129_7], ∀ id, firstReg x = some id → LoopOk Try.prog (0, 0) x (L129 id) := (loops_cons fr129_7 le129_7 (ok129_7 fu) loops_nil)
theorem lp129 : ∀ x ∈ loopsOf c129, ∀ id, firstReg x = some id → LoopOk Try.prog (0, 0) x (L129 id) := loops_eq lq129 lm129
noncomputable def R129 (x : Int × Int) : Res := ⟨[.agg [ai x.1, ak .u64 x.2]], [], []⟩
noncomputable def K129 (r : Res) : Option (Int × Int) :=
  match r with
  | ⟨[.agg [.val (.int .i64 v1), .val (.int .u64 v2)]], [], []⟩ => some (v1, v2)
  | _ => none
noncomputable def E129 : Fun2 := fun args bs rs =>
  match args, bs, rs with
  | [.s1 (.one (.val (.int .i64 a1))), .s1 (.one (.val (.int .i64 a2)))], [], [] => some ⟨Int × Int, S.l03Times a1 a2, R129⟩
  | _, _, _ => none
theorem ev129 (a1 a2 : Int) : evF Try.prog G129 L129 (0, 0) [] Try.f129 c129 [vi a1, vi a2] [] [] K129 = S.l03Times a1 a2 := by kernel_rfl
theorem good129 : Vm.Good Try.prog 129 E129 := by
  refine evF_good (G := G129) (c := c129) (envCons_good good103 (envCons_good good133 (envCons_good good102 envNil_good))) Try.func129 (by kernel_rfl) (by kernel_rfl) (0, 0) (fun args bs rs out t h h2 => ?_)
  unfold E129 at h
  split at h
  · injection h with h
    subst h
    exact ⟨rfl, [], L129, K129, lp129, (fun r t h => by unfold K129 at h; split at h; (injection h with h; subst h; rfl); cases h), (ev129 _ _).trans h2⟩
  · cases h
/-! ### S.l07Times -/
noncomputable def G104 : Env := (envCons 129 [] E129 envNil)
noncomputable def c104 : Code := bodyOf Try.f104
noncomputable def S.l07Times (a1 a2 : Int) : Option (Int × Int) :=
(Option.bind (S.l03Times a1 a2) fun r3 =>
(some (r3.1, r3.2)))
noncomputable def R104 (x : Int × Int) : Res := ⟨[.agg [ai x.1, ak .u64 x.2]], [], []⟩
noncomputable def K104 (r : Res) : Option (Int × Int) :=
  match r with
  | ⟨[.agg [.val (.int .i64 v1), .val (.int .u64 v2)]], [], []⟩ => some (v1, v2)
  | _ => none
noncomputable def E104 : Fun2 := fun args bs rs =>
  match args, bs, rs with
  | [.s1 (.one (.val (.int .i64 a1))), .s1 (.one (.val (.int .i64 a2)))], [], [] => some ⟨Int × Int, S.l07Times a1 a2, R104⟩
  | _, _, _ => none
theorem ev104 (a1 a2 : Int) : evF Try.prog G104 loopNil (0, 0) [] Try.f104 c104 [vi a1, vi a2] [] [] K104 = S.l07Times a1 a2 := by kernel_rfl
theorem good104 : Vm.Good Try.prog 104 E104 := by
  refine evF_good (G := G104) (c := c104) (envCons_good good129 envNil_good) Try.func104 (by kernel_rfl) (by kernel_rfl) (0, 0) (fun args bs rs out t h h2 => ?_)
  unfold E104 at h
  split at h
  · injection h with h
    subst h
    exact ⟨rfl, [], loopNil, K104, (no_loops (c := c104) (by kernel_rfl)), (fun r t h => by unfold K104 at h; split at h; (injection h with h; subst h; rfl); cases h), (ev104 _ _).trans h2⟩
  · cases h
/-! ### S.WideCmp -/
noncomputable def G105 : Env := envNil
noncomputable def c105 : Code := bodyOf Try.f105
noncomputable def S.WideCmp (a1 a2 a3 a4 : Int) : Option Int :=
(bif (a1 != a3) then
(bif (decide (a1 < a3)) then
(some (-1))
else
(some 1))
else
(bif (a2 != a4) then
(bif (decide (a2 < a4)) then
(some (-1))
else
(some 1))
else
(some 0)))
noncomputable def R105 (x : Int) : Res := ⟨[.one (ai x)], [], []⟩
noncomputable def K105 (r : Res) : Option Int :=
  match r with
  | ⟨[.one (.val (.int .i64 v1))], [], []⟩ => some (v1)
  | _ => none
noncomputable def E105 : Fun2 := fun args bs rs =>
  match args, bs, rs with
  | [.s1 (.agg [.val (.int .i64 a1), .val (.int .u64 a2)]), .s1 (.agg [.val (.int .i64 a3), .val (.int .u64 a4)])], [], [] => some ⟨Int, S.WideCmp a1 a2 a3 a4, R105⟩
  | _, _, _ => none
theorem ev105 (a1 a2 a3 a4 : Int) : evF Try.prog G105 loopNil (0, 0) [] Try.f105 c105 [.s1 (.agg [ai a1, ak .u64 a2]), .s1 (.agg [ai a3, ak .u64 a4])] [] [] K105 = S.WideCmp a1 a2 a3 a4 := by kernel_rfl
theorem good105 : Vm.Good Try.prog 105 E105 := by
  refine evF_good (G := G105) (c := c105) envNil_good Try.func105 (by kernel_rfl) (by kernel_rfl) (0, 0) (fun args bs rs out t h h2 => ?_)
  unfold E105 at h
  split at h
  · injection h with h
    subst h
    exact ⟨rfl, [], loopNil, K105, (no_loops (c := c105) (by kernel_rfl)), (fun r t h => by unfold K105 at h; split at h; (injection h with h; subst h; rfl); cases h), (ev105 _ _ _ _).trans h2⟩
  · cases h
/-! ### S.AggOk -/
noncomputable def G62 : Env := (envCons 101 [] E101 (envCons 100 [] E100 (envCons 103 [] E103 (envCons 102 [] E102 (envCons 104 [] E104 (envCons 105 [] E105 envNil))))))
noncomputable def c62 : Code := bodyOf Try.f62
noncomputable def c62_9 : Code := (loopsOf c62).getD 0 .skip
noncomputable def S.AggOk_l0 : Nat → (Int → Int → Int → Int → Int → Int → Int → List Int → Option Bool) → Int → Int → Int → Int → Int → Int → Int → Int → List Int → Option Bool
  | 0, _, _, _, _, _, _, _, _, _, _ => none
  | m + 1, e9_0, a18, a19, a20, a21, a22, a23, a24, a25, a26 =>
    (bif (decide (a18 < (a26.length : Int))) then
    (bif decide ((0 : Int) ≤ a18 ∧ a18 < (a26.length : Int)) then
    (Option.bind (S.WideOf (nthI a26 a18 (0 : Int))) fun r29 =>
    (Option.bind (S.WideAdd a24 a25 r29.1 r29.2) fun r30 =>
    (S.AggOk_l0 m e9_0 (IntKind.wrap .i64 (a18 + 1)) a19 a20 a21 a22 a23 r30.1 r30.2 a26)))
    else
    none)
    else
    (e9_0 a19 a20 a21 a22 a23 a24 a25 a26))
noncomputable def S.AggOk (a1 a2 a3 a4 a5 : Int) (a6 : List Int) : Option Bool :=
(bif (decide (a1 < 0)) then
(some false)
else
(bif (decide (1000000 < a1)) then
(some false)
else
(bif ((a6.length : Int) != (if 4 < a1 then 4 else a1)) then
(some false)
else
(bif (a1 == 0) then
(bif ((a2 == 0) && ((a3 == 0) && true)) then
(bif (a4 == 0) then
(some (a5 == 0))
else
(some false))
else
(some false))
else
(Option.bind (S.TopOf a6 []) fun r12 =>
(Option.bind (S.l07Same r12 a6) fun r13 =>
(bif (!r13) then
(some false)
else
(bif decide ((0 : Int) ≤ 0 ∧ 0 < (a6.length : Int)) then
(bif ((nthI a6 0 (0 : Int)) != a5) then
(some false)
else
(let v16 : Int := (IntKind.wrap .i64 ((a6.length : Int) - 1))
(bif decide ((0 : Int) ≤ v16 ∧ v16 < (a6.length : Int)) then
(bif (decide ((nthI a6 v16 (0 : Int)) < a4)) then
(some false)
else
(S.AggOk_l0 fu (fun y32 y33 y34 y35 y36 y37 y38 y39 =>
(let v41 : Int := (IntKind.wrap .i64 (y32 - (y39.length : Int)))
(bif (v41 == 0) then
(let v43 : Int := (IntKind.wrap .i64 ((y39.length : Int) - 1))
(bif decide ((0 : Int) ≤ v43 ∧ v43 < (y39.length : Int)) then
(bif (y35 == (nthI y39 v43 (0 : Int))) then
(some ((y33 == y37) && ((y34 == y38) && true)))
else
(some false))
else
none))
else
(same (Option.bind (S.l07Times v41 y35) fun r46 =>
(dup (Option.bind (S.WideAdd y37 y38 r46.1 r46.2) fun r47 =>
(let v48 : Int := (IntKind.wrap .i64 (v41 - 1))
(bif decide ((0 : Int) ≤ 3 ∧ 3 < (y39.length : Int)) then
(same (Option.bind (S.WideOf y35) fun r49 =>
(same (Option.bind (S.WideAdd y37 y38 r49.1 r49.2) fun r50 =>
(same (Option.bind (S.l07Times v48 (nthI y39 3 (0 : Int))) fun r51 =>
(dup (Option.bind (S.WideAdd r50.1 r50.2 r51.1 r51.2) fun r52 =>
(Option.bind (S.WideCmp y33 y34 r47.1 r47.2) fun r53 =>
(bif (decide (0 ≤ r53)) then
(Option.bind (S.WideCmp y33 y34 r52.1 r52.2) fun r55 =>
(some (decide (r55 ≤ 0))))
else
(some false))))))
(Option.bind (S.l07Times v48 (nthI y39 3 (0 : Int))) fun r51 =>
(Option.bind (S.WideAdd r50.1 r50.2 r51.1 r51.2) fun r52 =>
(Option.bind (S.WideCmp y33 y34 r47.1 r47.2) fun r53 =>
(bif (decide (0 ≤ r53)) then
(Option.bind (S.WideCmp y33 y34 r52.1 r52.2) fun r55 =>
(some (decide (r55 ≤ 0))))
else
(some false)))))))
(Option.bind (S.WideAdd y37 y38 r49.1 r49.2) fun r50 =>
(Option.bind (S.l07Times v48 (nthI y39 3 (0 : Int))) fun r51 =>
(Option.bind (S.WideAdd r50.1 r50.2 r51.1 r51.2) fun r52 =>
(Option.bind (S.WideCmp y33 y34 r47.1 r47.2) fun r53 =>
(bif (decide (0 ≤ r53)) then
(Option.bind (S.WideCmp y33 y34 r52.1 r52.2) fun r55 =>
(some (decide (r55 ≤ 0))))
else
(some false))))))))
(Option.bind (S.WideOf y35) fun r49 =>
(Option.bind (S.WideAdd y37 y38 r49.1 r49.2) fun r50 =>
(Option.bind (S.l07Times v48 (nthI y39 3 (0 : Int))) fun r51 =>
(Option.bind (S.WideAdd r50.1 r50.2 r51.1 r51.2) fun r52 =>
(Option.bind (S.WideCmp y33 y34 r47.1 r47.2) fun r53 =>
(bif (decide (0 ≤ r53)) then
(Option.bind (S.WideCmp y33 y34 r52.1 r52.2) fun r55 =>
(some (decide (r55 ≤ 0))))
else
(some false))))))))
else
none)))))
(Option.bind (S.l07Times v41 y35) fun r46 =>
(Option.bind (S.WideAdd y37 y38 r46.1 r46.2) fun r47 =>
(let v48 : Int := (IntKind.wrap .i64 (v41 - 1))
(bif decide ((0 : Int) ≤ 3 ∧ 3 < (y39.length : Int)) then
(same (Option.bind (S.WideOf y35) fun r49 =>
(same (Option.bind (S.WideAdd y37 y38 r49.1 r49.2) fun r50 =>
(same (Option.bind (S.l07Times v48 (nthI y39 3 (0 : Int))) fun r51 =>
(dup (Option.bind (S.WideAdd r50.1 r50.2 r51.1 r51.2) fun r52 =>
(Option.bind (S.WideCmp y33 y34 r47.1 r47.2) fun r53 =>
(bif (decide (0 ≤ r53)) then
(Option.bind (S.WideCmp y33 y34 r52.1 r52.2) fun r55 =>
(some (decide (r55 ≤ 0))))
else
(some false))))))
(Option.bind (S.l07Times v48 (nthI y39 3 (0 : Int))) fun r51 =>
(Option.bind (S.WideAdd r50.1 r50.2 r51.1 r51.2) fun r52 =>
(Option.bind (S.WideCmp y33 y34 r47.1 r47.2) fun r53 =>
(bif (decide (0 ≤ r53)) then
(Option.bind (S.WideCmp y33 y34 r52.1 r52.2) fun r55 =>
(some (decide (r55 ≤ 0))))
else
(some false)))))))
(Option.bind (S.WideAdd y37 y38 r49.1 r49.2) fun r50 =>
(Option.bind (S.l07Times v48 (nthI y39 3 (0 : Int))) fun r51 =>
(Option.bind (S.WideAdd r50.1 r50.2 r51.1 r51.2) fun r52 =>
(Option.bind (S.WideCmp y33 y34 r47.1 r47.2) fun r53 =>
(bif (decide (0 ≤ r53)) then
(Option.bind (S.WideCmp y33 y34 r52.1 r52.2) fun r55 =>
(some (decide (r55 ≤ 0))))
else
(some false))))))))
(Option.bind (S.WideOf y35) fun r49 =>
(Option.bind (S.WideAdd y37 y38 r49.1 r49.2) fun r50 =>
(Option.bind (S.l07Times v48 (nthI y39 3 (0 : Int))) fun r51 =>
(Option.bind (S.WideAdd r50.1 r50.2 r51.1 r51.2) fun r52 =>
(Option.bind (S.WideCmp y33 y34 r47.1 r47.2) fun r53 =>
(bif (decide (0 ≤ r53)) then
(Option.bind (S.WideCmp y33 y34 r52.1 r52.2) fun r55 =>
(some (decide (r55 ≤ 0))))
else
(some false))))))))
else
none)))))))) 0 a1 a2 a3 a4 a5 0 0 a6))
else
none)))
else
none))))))))
noncomputable def H62_9 : LoopH := ⟨⟨((.one (.unk)) :: (.one (.ptr 0 0)) :: (.one (.unk)) :: (.one (.ptr 1 0)) :: hh :: (hu 138 [])), [(73, [.hole, .hole, .hole, .hole, .hole, .sl 0]), (71, [.hole, .hole])], [(3, (.int .i64), .ro)]⟩, ([0, 2] ++ rg 5 138), [], ([0] ++ rg 4 139), [], []⟩
noncomputable def E62_9 (m : Nat) (ps : List Prm) (k : Kont Bool) : Option Bool :=
  match ps with
  | [.v (.int .i64 a18), .v (.int .i64 a19), .v (.int .i64 a20), .v (.int .u64 a21), .v (.int .i64 a22), .v (.int .i64 a23), .v (.int .i64 a24), .v (.int .u64 a25), .row (.int .i64) a26] => S.AggOk_l0 m (fun z65 z66 z67 z68 z69 z70 z71 z72 => k (.exit 0) (⟨((.s1 (.one (.unk))) :: (vp 0 0) :: (.s1 (.one (.unk))) :: (vp 1 0) :: (vu 139 [])), [(73, [ai z65, ai z66, ak .u64 z67, ai z68, ai z69, .sl 0]), (71, [ai z70, ak .u64 z71])], [⟨3, (.int .i64), z72, .ro⟩]⟩ : St)) a18 a19 a20 a21 a22 a23 a24 a25 a26
  | _ => none
noncomputable def S62_9 (a18 a19 a20 a21 a22 a23 a24 a25 : Int) (a26 : List Int) : St := (⟨((.s1 (.one (.unk))) :: (vp 0 0) :: (.s1 (.one (.unk))) :: (vp 1 0) :: (vi a18) :: (vu 138 [])), [(73, [ai a19, ai a20, ak .u64 a21, ai a22, ai a23, .sl 0]), (71, [ai a24, ak .u64 a25])], [⟨3, (.int .i64), a26, .ro⟩]⟩ : St)
theorem ev62_9 (m : Nat) (k : Kont Bool) (a18 a19 a20 a21 a22 a23 a24 a25 : Int) (a26 : List Int) : evC Try.prog G62 loopNil c62_9 (S62_9 a18 a19 a20 a21 a22 a23 a24 a25 a26) (turn Try.prog (0, 0) H62_9 (E62_9 m) k) = E62_9 (m + 1) ([.v (.int .i64 a18), .v (.int .i64 a19), .v (.int .i64 a20), .v (.int .u64 a21), .v (.int .i64 a22), .v (.int .i64 a23), .v (.int .i64 a24), .v (.int .u64 a25), .row (.int .i64) a26]) k := by kernel_rfl
theorem ok62_9 (m : Nat) : LoopOk Try.prog (0, 0) c62_9 (enter Try.prog (0, 0) H62_9 (E62_9 m)) := by
  refine loop_ok (G := G62) (L := loopNil) (envCons_good good101 (envCons_good good100 (envCons_good good103 (envCons_good good102 (envCons_good good104 (envCons_good good105 envNil_good)))))) (no_loops (c := c62_9) (by kernel_rfl)) (fun ps k => by unfold E62_9; split <;> rfl) (fun m ps k r h => ?_) m
  have h0 := h
  unfold E62_9 at h
  split at h
  · exact ⟨S62_9 _ _ _ _ _ _ _ _ _, by kernel_rfl, (ev62_9 m k _ _ _ _ _ _ _ _ _).trans h0⟩
  · cases h
noncomputable def L62 : LEnv Bool := (loopCons 9 (enter Try.prog (0, 0) H62_9 (E62_9 fu)) loopNil)
theorem lq62 : loopsOf c62 = [c62_9] := by kernel_rfl
theorem fr62_9 : firstReg c62_9 = some 9 := by kernel_rfl
theorem le62_9 : L62 9 = enter Try.prog (0, 0) H62_9 (E62_9 fu) := by kernel_rfl
theorem lm62 : ∀ x ∈ [c62_9], ∀ id, firstReg x = some id → LoopOk Try.prog (0, 0) x (L62 id) := (loops_cons fr62_9 le62_9 (ok62_9 fu) loops_nil)
theorem lp62 : ∀ x ∈ loopsOf c62, ∀ id, firstReg x = some id → LoopOk Try.prog (0, 0) x (L62 id) := loops_eq lq62 lm62
noncomputable def R62 (x : Bool) : Res := ⟨[.one (ab x)], [], []⟩
noncomputable def K62 (r : Res) : Option Bool :=
  match r with
  | ⟨[.one (.val (.bool v1))], [], []⟩ => some (v1)
  | _ => none
noncomputable def E62 : Fun2 := fun args bs rs =>
  match args, bs, rs with
  | [.s1 (.agg [.val (.int .i64 a1), .val (.int .i64 a2), .val (.int .u64 a3), .val (.int .i64 a4), .val (.int .i64 a5), .sl 0])], [], [⟨3, (.int .i64), a6, .ro⟩] => some ⟨Bool, S.AggOk a1 a2 a3 a4 a5 a6, R62⟩
  | _, _, _ => none
theorem ev62 (a1 a2 a3 a4 a5 : Int) (a6 : List Int) : evF Try.prog G62 L62 (0, 0) [] Try.f62 c62 [.s1 (.agg [ai a1, ai a2, ak .u64 a3, ai a4, ai a5, .sl 0])] [] [⟨3, (.int .i64), a6, .ro⟩] K62 = S.AggOk a1 a2 a3 a4 a5 a6 := by kernel_rfl
theorem good62 : Vm.Good Try.prog 62 E62 := by
  refine evF_good (G := G62) (c := c62) (envCons_good good101 (envCons_good good100 (envCons_good good103 (envCons_good good102 (envCons_good good104 (envCons_good good105 envNil_good)))))) Try.func62 (by kernel_rfl) (by kernel_rfl) (0, 0) (fun args bs rs out t h h2 => ?_)
  unfold E62 at h
  split at h
  · injection h with h
    subst h
    exact ⟨rfl, [], L62, K62, lp62, (fun r t h => by unfold K62 at h; split at h; (injection h with h; subst h; rfl); cases h), (ev62 _ _ _ _ _ _).trans h2⟩
  · cases h
/-! ### S.WideInt -/
noncomputable def G106 : Env := (envCons 103 [] E103 envNil)
noncomputable def c106 : Code := bodyOf Try.f106
noncomputable def S.WideInt (a1 a2 : Int) : Option (Int × Bool) :=
(let v3 : Int := (IntKind.wrap .i64 a2)
(Option.bind (S.WideOf v3) fun r4 =>
(bif (!((r4.1 == a1) && ((r4.2 == a2) && true))) then
(some (0, false))
else
(some (v3, true)))))
noncomputable def R106 (x : Int × Bool) : Res := ⟨[.one (ai x.1), .one (ab x.2)], [], []⟩
noncomputable def K106 (r : Res) : Option (Int × Bool) :=
  match r with
  | ⟨[.one (.val (.int .i64 v1)), .one (.val (.bool v2))], [], []⟩ => some (v1, v2)
  | _ => none
noncomputable def E106 : Fun2 := fun args bs rs =>
  match args, bs, rs with
  | [.s1 (.agg [.val (.int .i64 a1), .val (.int .u64 a2)])], [], [] => some ⟨Int × Bool, S.WideInt a1 a2, R106⟩
  | _, _, _ => none
theorem ev106 (a1 a2 : Int) : evF Try.prog G106 loopNil (0, 0) [] Try.f106 c106 [.s1 (.agg [ai a1, ak .u64 a2])] [] [] K106 = S.WideInt a1 a2 := by kernel_rfl
theorem good106 : Vm.Good Try.prog 106 E106 := by
  refine evF_good (G := G106) (c := c106) (envCons_good good103 envNil_good) Try.func106 (by kernel_rfl) (by kernel_rfl) (0, 0) (fun args bs rs out t h h2 => ?_)
  unfold E106 at h
  split at h
  · injection h with h
    subst h
    exact ⟨rfl, [], loopNil, K106, (no_loops (c := c106) (by kernel_rfl)), (fun r t h => by unfold K106 at h; split at h; (injection h with h; subst h; rfl); cases h), (ev106 _ _).trans h2⟩
  · cases h
/-! ### S.l02Bits -/
noncomputable def G131 : Env := envNil
noncomputable def c131 : Code := bodyOf Try.f131
noncomputable def c131_4 : Code := (loopsOf c131).getD 0 .skip
noncomputable def c131_10 : Code := (loopsOf c131).getD 1 .skip
noncomputable def S.l02Bits_l0 : Nat → (Int → Int → List Int → Option (List Int)) → Int → Int → Int → Int → List Int → Option (List Int)
  | 0, _, _, _, _, _, _ => none
  | m + 1, e4_0, a3, a4, a5, a6, a7 =>
    (bif (decide (a4 < 64)) then
    (bif decide (2 = 0) then
    none
    else
    (let v10 : Int := (IntKind.wrap .i64 (Int.tmod a3 2))
    (bif decide ((a7.length + [v10].length) * 8 ≤ 140737488355328) then
    (bif decide (2 = 0) then
    none
    else
    (S.l02Bits_l0 m e4_0 (IntKind.wrap .u64 (Int.tdiv a3 2)) (IntKind.wrap .i64 (a4 + 1)) a5 a6 (a7 ++ [v10])))
    else
    none)))
    else
    (e4_0 a5 a6 a7))
noncomputable def S.l02Bits_l1 : Nat → (List Int → Option (List Int)) → Int → Int → List Int → Option (List Int)
  | 0, _, _, _, _ => none
  | m + 1, e10_0, a17, a18, a19 =>
    (bif (decide (a18 < 64)) then
    (bif decide (2 = 0) then
    none
    else
    (let v22 : Int := (IntKind.wrap .i64 (Int.tmod a17 2))
    (bif decide ((a19.length + [v22].length) * 8 ≤ 140737488355328) then
    (bif decide (2 = 0) then
    none
    else
    (S.l02Bits_l1 m e10_0 (IntKind.wrap .u64 (Int.tdiv a17 2)) (IntKind.wrap .i64 (a18 + 1)) (a19 ++ [v22])))
    else
    none)))
    else
    (e10_0 a19))
noncomputable def S.l02Bits (a1 a2 : Int) : Option (List Int) :=
(S.l02Bits_l0 fu (fun y13 y14 y15 =>
(S.l02Bits_l1 fu (fun y25 =>
(some y25)) (IntKind.wrap .u64 y13) 0 y15)) a2 0 a1 a2 [])
noncomputable def H131_4 : LoopH := ⟨⟨((.one (.unk)) :: (.one (.ptr 0 0)) :: (.one (.unk)) :: (.one (.sl 0)) :: hh :: hh :: (hu 33 [])), [(71, [.hole, .hole])], [(3, (.int .i64), .own)]⟩, ([0, 2] ++ rg 6 33), [], ([0] ++ rg 4 35), [], []⟩
noncomputable def E131_4 (m : Nat) (ps : List Prm) (k : Kont (List Int)) : Option (List Int) :=
  match ps with
  | [.v (.int .u64 a3), .v (.int .i64 a4), .v (.int .i64 a5), .v (.int .u64 a6), .row (.int .i64) a7] => S.l02Bits_l0 m (fun z30 z31 z32 => k (.exit 0) (⟨((.s1 (.one (.unk))) :: (vp 0 0) :: (.s1 (.one (.unk))) :: (vl 0) :: (vu 35 [])), [(71, [ai z30, ak .u64 z31])], [⟨3, (.int .i64), z32, .own⟩]⟩ : St)) a3 a4 a5 a6 a7
  | _ => none
noncomputable def S131_4 (a3 a4 a5 a6 : Int) (a7 : List Int) : St := (⟨((.s1 (.one (.unk))) :: (vp 0 0) :: (.s1 (.one (.unk))) :: (vl 0) :: (vk .u64 a3) :: (vi a4) :: (vu 33 [])), [(71, [ai a5, ak .u64 a6])], [⟨3, (.int .i64), a7, .own⟩]⟩ : St)
theorem ev131_4 (m : Nat) (k : Kont (List Int)) (a3 a4 a5 a6 : Int) (a7 : List Int) : evC Try.prog G131 loopNil c131_4 (S131_4 a3 a4 a5 a6 a7) (turn Try.prog (0, 0) H131_4 (E131_4 m) k) = E131_4 (m + 1) ([.v (.int .u64 a3), .v (.int .i64 a4), .v (.int .i64 a5), .v (.int .u64 a6), .row (.int .i64) a7]) k := by kernel_rfl
theorem ok131_4 (m : Nat) : LoopOk Try.prog (0, 0) c131_4 (enter Try.prog (0, 0) H131_4 (E131_4 m)) := by
  refine loop_ok (G := G131) (L := loopNil) envNil_good (no_loops (c := c131_4) (by kernel_rfl)) (fun ps k => by unfold E131_4; split <;> rfl) (fun m ps k r h => ?_) m
  have h0 := h
  unfold E131_4 at h
  split at h
  · exact ⟨S131_4 _ _ _ _ _, by kernel_rfl, (ev131_4 m k _ _ _ _ _).trans h0⟩
  · cases h
noncomputable def H131_10 : LoopH := ⟨⟨(hu 3 ((.one (.sl 0)) :: (hu 2 (hh :: hh :: (hu 31 []))))), [], [(3, (.int .i64), .own)]⟩, ([0, 1, 2, 4, 5] ++ rg 8 31), [], ([0, 1] ++ rg 4 35), [], []⟩
noncomputable def E131_10 (m : Nat) (ps : List Prm) (k : Kont (List Int)) : Option (List Int) :=
  match ps with
  | [.v (.int .u64 a17), .v (.int .i64 a18), .row (.int .i64) a19] => S.l02Bits_l1 m (fun z33 => k (.exit 2) (⟨(vu 3 ((vl 0) :: (vu 35 []))), [], [⟨3, (.int .i64), z33, .own⟩]⟩ : St)) a17 a18 a19
  | _ => none
noncomputable def S131_10 (a17 a18 : Int) (a19 : List Int) : St := (⟨(vu 3 ((vl 0) :: (vu 2 ((vk .u64 a17) :: (vi a18) :: (vu 31 []))))), [], [⟨3, (.int .i64), a19, .own⟩]⟩ : St)
theorem ev131_10 (m : Nat) (k : Kont (List Int)) (a17 a18 : Int) (a19 : List Int) : evC Try.prog G131 loopNil c131_10 (S131_10 a17 a18 a19) (turn Try.prog (0, 0) H131_10 (E131_10 m) k) = E131_10 (m + 1) ([.v (.int .u64 a17), .v (.int .i64 a18), .row (.int .i64) a19]) k := by kernel_rfl
theorem ok131_10 (m : Nat) : LoopOk Try.prog (0, 0) c131_10 (enter Try.prog (0, 0) H131_10 (E131_10 m)) := by
  refine loop_ok (G := G131) (L := loopNil) envNil_good (no_loops (c := c131_10) (by kernel_rfl)) (fun ps k => by unfold E131_10; split <;> rfl) (fun m ps k r h => ?_) m
  have h0 := h
  unfold E131_10 at h
  split at h
  · exact ⟨S131_10 _ _ _, by kernel_rfl, (ev131_10 m k _ _ _).trans h0⟩
  · cases h
noncomputable def L131 : LEnv (List Int) := (loopCons 4 (enter Try.prog (0, 0) H131_4 (E131_4 fu)) (loopCons 10 (enter Try.prog (0, 0) H131_10 (E131_10 fu)) loopNil))
theorem lq131 : loopsOf c131 = [c131_4, c131_10] := by kernel_rfl
theorem fr131_4 : firstReg c131_4 = some 4 := by kernel_rfl
theorem le131_4 : L131 4 = enter Try.prog (0, 0) H131_4 (E131_4 fu) := by kernel_rfl
theorem fr131_10 : firstReg c131_10 = some 10 := by kernel_rfl
theorem le131_10 : L131 10 = enter Try.prog (0, 0) H131_10 (E131_10 fu) := by kernel_rfl
theorem lm131 : ∀ x ∈ [c131_4, c131_10], ∀ id, firstReg x = some id → LoopOk Try.prog (0, 0) x (L131 id) := (loops_cons fr131_4 le131_4 (ok131_4 fu) (loops_cons fr131_10 le131_10 (ok131_10 fu) loops_nil))
theorem lp131 : ∀ x ∈ loopsOf c131, ∀ id, firstReg x = some id → LoopOk Try.prog (0, 0) x (L131 id) := loops_eq lq131 lm131
noncomputable def R131 (x : List Int) : Res := ⟨[.one (.sl 0)], [], [⟨3, (.int .i64), x, .own⟩]⟩
noncomputable def K131 (r : Res) : Option (List Int) :=
  match r with
  | ⟨[.one (.sl 0)], [], [⟨3, (.int .i64), v1, .own⟩]⟩ => some (v1)
  | _ => none
noncomputable def E131 : Fun2 := fun args bs rs =>
  match args, bs, rs with
  | [.s1 (.agg [.val (.int .i64 a1), .val (.int .u64 a2)])], [], [] => some ⟨List Int, S.l02Bits a1 a2, R131⟩
  | _, _, _ => none
theorem ev131 (a1 a2 : Int) : evF Try.prog G131 L131 (0, 0) [] Try.f131 c131 [.s1 (.agg [ai a1, ak .u64 a2])] [] [] K131 = S.l02Bits a1 a2 := by kernel_rfl
theorem good131 : Vm.Good Try.prog 131 E131 := by
  refine evF_good (G := G131) (c := c131) envNil_good Try.func131 (by kernel_rfl) (by kernel_rfl) (0, 0) (fun args bs rs out t h h2 => ?_)
  unfold E131 at h
  split at h
  · injection h with h
    subst h
    exact ⟨rfl, [], L131, K131, lp131, (fun r t h => by unfold K131 at h; split at h; (injection h with h; subst h; rfl); cases h), (ev131 _ _).trans h2⟩
  · cases h
/-! ### S.l02Divide -/
noncomputable def G130 : Env := envNil
noncomputable def c130 : Code := bodyOf Try.f130
noncomputable def c130_4 : Code := (loopsOf c130).getD 0 .skip
noncomputable def S.l02Divide_l0 : Nat → (Int → List Int → Option (Int × List Int)) → Int → Int → Int → List Int → List Int → Option (Int × List Int)
  | 0, _, _, _, _, _, _ => none
  | m + 1, e4_0, a4, a5, a6, a7, a8 =>
    (bif (decide (0 ≤ a6)) then
    (bif decide ((0 : Int) ≤ a6 ∧ a6 < (a7.length : Int)) then
    (let v11 : Int := (IntKind.wrap .i64 ((IntKind.wrap .i64 (2 * a5)) + (nthI a7 a6 (0 : Int))))
    (bif (decide (a4 ≤ v11)) then
    (bif decide ((0 : Int) ≤ a6 ∧ a6 < (a8.length : Int)) then
    (S.l02Divide_l0 m e4_0 a4 (IntKind.wrap .i64 (v11 - a4)) (IntKind.wrap .i64 (a6 - 1)) a7 (a8.set (Int.toNat a6) 1))
    else
    none)
    else
    (S.l02Divide_l0 m e4_0 a4 v11 (IntKind.wrap .i64 (a6 - 1)) a7 a8)))
    else
    none)
    else
    (e4_0 a5 a8))
noncomputable def S.l02Divide (a1 : Int) (a2 : List Int) : Option (Int × List Int) :=
(bif decide ((0 : Int) ≤ 128 ∧ 128 ≤ 128 ∧ (8 : Int) * 128 ≤ 281474976710656 ∧ 128 ≤ 9223372036854775807) then
(S.l02Divide_l0 fu (fun y17 y18 =>
(some (y17, y18))) a1 0 127 a2 (List.replicate (Int.toNat 128) (0 : Int)))
else
none)
noncomputable def H130_4 : LoopH := ⟨⟨((.one (.sl 0)) :: hh :: (hu 4 ((.one (.sl 1)) :: hh :: hh :: (hu 23 [])))), [], [(3, (.int .i64), .ro), (3, (.int .i64), .own)]⟩, (rg 2 4 ++ rg 9 23), [], (rg 0 4 ++ rg 8 24), [], []⟩
noncomputable def E130_4 (m : Nat) (ps : List Prm) (k : Kont (Int × List Int)) : Option (Int × List Int) :=
  match ps with
  | [.v (.int .i64 a4), .v (.int .i64 a5), .v (.int .i64 a6), .row (.int .i64) a7, .row (.int .i64) a8] => S.l02Divide_l0 m (fun z21 z22 => k (.exit 0) (⟨(vu 6 ((vl 0) :: (vi z21) :: (vu 24 []))), [], [⟨3, (.int .i64), z22, .own⟩]⟩ : St)) a4 a5 a6 a7 a8
  | _ => none
noncomputable def S130_4 (a4 a5 a6 : Int) (a7 a8 : List Int) : St := (⟨((vl 0) :: (vi a4) :: (vu 4 ((vl 1) :: (vi a5) :: (vi a6) :: (vu 23 [])))), [], [⟨3, (.int .i64), a7, .ro⟩, ⟨3, (.int .i64), a8, .own⟩]⟩ : St)
theorem ev130_4 (m : Nat) (k : Kont (Int × List Int)) (a4 a5 a6 : Int) (a7 a8 : List Int) : evC Try.prog G130 loopNil c130_4 (S130_4 a4 a5 a6 a7 a8) (turn Try.prog (0, 0) H130_4 (E130_4 m) k) = E130_4 (m + 1) ([.v (.int .i64 a4), .v (.int .i64 a5), .v (.int .i64 a6), .row (.int .i64) a7, .row (.int .i64) a8]) k := by kernel_rfl
theorem ok130_4 (m : Nat) : LoopOk Try.prog (0, 0) c130_4 (enter Try.prog (0, 0) H130_4 (E130_4 m)) := by
  refine loop_ok (G := G130) (L := loopNil) envNil_good (no_loops (c := c130_4) (by kernel_rfl)) (fun ps k => by unfold E130_4; split <;> rfl) (fun m ps k r h => ?_) m
  have h0 := h
  unfold E130_4 at h
  split at h
  · exact ⟨S130_4 _ _ _ _ _, by kernel_rfl, (ev130_4 m k _ _ _ _ _).trans h0⟩
  · cases h
noncomputable def L130 : LEnv (Int × List Int) := (loopCons 4 (enter Try.prog (0, 0) H130_4 (E130_4 fu)) loopNil)
theorem lq130 : loopsOf c130 = [c130_4] := by kernel_rfl
theorem fr130_4 : firstReg c130_4 = some 4 := by kernel_rfl
theorem le130_4 : L130 4 = enter Try.prog (0, 0) H130_4 (E130_4 fu) := by kernel_rfl
theorem lm130 : ∀ x ∈ [c130_4], ∀ id, firstReg x = some id → LoopOk Try.prog (0, 0) x (L130 id) := (loops_cons fr130_4 le130_4 (ok130_4 fu) loops_nil)
theorem lp130 : ∀ x ∈ loopsOf c130, ∀ id, firstReg x = some id → LoopOk Try.prog (0, 0) x (L130 id) := loops_eq lq130 lm130
noncomputable def R130 (x : Int × List Int) : Res := ⟨[.one (.sl 0), .one (ai x.1)], [], [⟨3, (.int .i64), x.2, .own⟩]⟩
noncomputable def K130 (r : Res) : Option (Int × List Int) :=
  match r with
  | ⟨[.one (.sl 0), .one (.val (.int .i64 v1))], [], [⟨3, (.int .i64), v2, .own⟩]⟩ => some (v1, v2)
  | _ => none
noncomputable def E130 : Fun2 := fun args bs rs =>
  match args, bs, rs with
  | [.s1 (.one (.sl 0)), .s1 (.one (.val (.int .i64 a1)))], [], [⟨3, (.int .i64), a2, .ro⟩] => some ⟨Int × List Int, S.l02Divide a1 a2, R130⟩
  | _, _, _ => none
theorem ev130 (a1 : Int) (a2 : List Int) : evF Try.prog G130 L130 (0, 0) [] Try.f130 c130 [vl 0, vi a1] [] [⟨3, (.int .i64), a2, .ro⟩] K130 = S.l02Divide a1 a2 := by kernel_rfl
theorem good130 : Vm.Good Try.prog 130 E130 := by
  refine evF_good (G := G130) (c := c130) envNil_good Try.func130 (by kernel_rfl) (by kernel_rfl) (0, 0) (fun args bs rs out t h h2 => ?_)
  unfold E130 at h
  split at h
  · injection h with h
    subst h
    exact ⟨rfl, [], L130, K130, lp130, (fun r t h => by unfold K130 at h; split at h; (injection h with h; subst h; rfl); cases h), (ev130 _ _).trans h2⟩
  · cases h
/-! ### S.l02Wide -/
noncomputable def G132 : Env := envNil
noncomputable def c132 : Code := bodyOf Try.f132
noncomputable def c132_4 : Code := (loopsOf c132).getD 0 .skip
noncomputable def S.l02Wide_l0 : Nat → (Int → Int → Int → Int → Option (Int × Int)) → Int → Int → Int → Int → Int → List Int → Option (Int × Int)
  | 0, _, _, _, _, _, _, _ => none
  | m + 1, e4_0, a2, a3, a4, a5, a6, a7 =>
    (bif (decide (0 ≤ a4)) then
    (bif decide ((0 : Int) ≤ a4 ∧ a4 < (a7.length : Int)) then
    (let v13 : Int := (IntKind.wrap .i64 (64 + a4))
    (bif decide ((0 : Int) ≤ v13 ∧ v13 < (a7.length : Int)) then
    (S.l02Wide_l0 m e4_0 (IntKind.wrap .u64 ((IntKind.wrap .u64 (2 * a2)) + (IntKind.wrap .u64 (nthI a7 a4 (0 : Int))))) (IntKind.wrap .u64 ((IntKind.wrap .u64 (2 * a3)) + (IntKind.wrap .u64 (nthI a7 v13 (0 : Int))))) (IntKind.wrap .i64 (a4 - 1)) a5 a6 a7)
    else
    none))
    else
    none)
    else
    (e4_0 a2 a3 a5 a6))
noncomputable def S.l02Wide (a1 : List Int) : Option (Int × Int) :=
(S.l02Wide_l0 fu (fun y17 y18 y19 y20 =>
(some ((IntKind.wrap .i64 y18), y17))) 0 0 63 0 0 a1)
noncomputable def H132_4 : LoopH := ⟨⟨((.one (.sl 0)) :: (.one (.unk)) :: (.one (.ptr 0 0)) :: hh :: hh :: hh :: (hu 25 [])), [(71, [.hole, .hole])], [(3, (.int .i64), .ro)]⟩, ([1] ++ rg 6 25), [], ([0, 1] ++ rg 5 26), [], []⟩
noncomputable def E132_4 (m : Nat) (ps : List Prm) (k : Kont (Int × Int)) : Option (Int × Int) :=
  match ps with
  | [.v (.int .u64 a2), .v (.int .u64 a3), .v (.int .i64 a4), .v (.int .i64 a5), .v (.int .u64 a6), .row (.int .i64) a7] => S.l02Wide_l0 m (fun z26 z27 z28 z29 => k (.exit 0) (⟨(vu 2 ((vp 0 0) :: (vk .u64 z26) :: (vk .u64 z27) :: (vu 26 []))), [(71, [ai z28, ak .u64 z29])], []⟩ : St)) a2 a3 a4 a5 a6 a7
  | _ => none
noncomputable def S132_4 (a2 a3 a4 a5 a6 : Int) (a7 : List Int) : St := (⟨((vl 0) :: (.s1 (.one (.unk))) :: (vp 0 0) :: (vk .u64 a2) :: (vk .u64 a3) :: (vi a4) :: (vu 25 [])), [(71, [ai a5, ak .u64 a6])], [⟨3, (.int .i64), a7, .ro⟩]⟩ : St)
theorem ev132_4 (m : Nat) (k : Kont (Int × Int)) (a2 a3 a4 a5 a6 : Int) (a7 : List Int) : evC Try.prog G132 loopNil c132_4 (S132_4 a2 a3 a4 a5 a6 a7) (turn Try.prog (0, 0) H132_4 (E132_4 m) k) = E132_4 (m + 1) ([.v (.int .u64 a2), .v (.int .u64 a3), .v (.int .i64 a4), .v (.int .i64 a5), .v (.int .u64 a6), .row (.int .i64) a7]) k := by kernel_rfl
theorem ok132_4 (m : Nat) : LoopOk Try.prog (0, 0) c132_4 (enter Try.prog (0, 0) H132_4 (E132_4 m)) := by
  refine loop_ok (G := G132) (L := loopNil) envNil_good (no_loops (c := c132_4) (by kernel_rfl)) (fun ps k => by unfold E132_4; split <;> rfl) (fun m ps k r h => ?_) m
  have h0 := h
  unfold E132_4 at h
  split at h
  · exact ⟨S132_4 _ _ _ _ _ _, by kernel_rfl, (ev132_4 m k _ _ _ _ _ _).trans h0⟩
  · cases h
noncomputable def L132 : LEnv (Int × Int) := (loopCons 4 (enter Try.prog (0, 0) H132_4 (E132_4 fu)) loopNil)
theorem lq132 : loopsOf c132 = [c132_4] := by kernel_rfl
theorem fr132_4 : firstReg c132_4 = some 4 := by kernel_rfl
theorem le132_4 : L132 4 = enter Try.prog (0, 0) H132_4 (E132_4 fu) := by kernel_rfl
theorem lm132 : ∀ x ∈ [c132_4], ∀ id, firstReg x = some id → LoopOk Try.prog (0, 0) x (L132 id) := (loops_cons fr132_4 le132_4 (ok132_4 fu) loops_nil)
theorem lp132 : ∀ x ∈ loopsOf c132, ∀ id, firstReg x = some id → LoopOk Try.prog (0, 0) x (L132 id) := loops_eq lq132 lm132
noncomputable def R132 (x : Int × Int) : Res := ⟨[.agg [ai x.1, ak .u64 x.2]], [], []⟩
noncomputable def K132 (r : Res) : Option (Int × Int) :=
  match r with
  | ⟨[.agg [.val (.int .i64 v1), .val (.int .u64 v2)]], [], []⟩ => some (v1, v2)
  | _ => none
noncomputable def E132 : Fun2 := fun args bs rs =>
  match args, bs, rs with
  | [.s1 (.one (.sl 0))], [], [⟨3, (.int .i64), a1, .ro⟩] => some ⟨Int × Int, S.l02Wide a1, R132⟩
  | _, _, _ => none
theorem ev132 (a1 : List Int) : evF Try.prog G132 L132 (0, 0) [] Try.f132 c132 [vl 0] [] [⟨3, (.int .i64), a1, .ro⟩] K132 = S.l02Wide a1 := by kernel_rfl
theorem good132 : Vm.Good Try.prog 132 E132 := by
  refine evF_good (G := G132) (c := c132) envNil_good Try.func132 (by kernel_rfl) (by kernel_rfl) (0, 0) (fun args bs rs out t h h2 => ?_)
  unfold E132 at h
  split at h
  · injection h with h
    subst h
    exact ⟨rfl, [], L132, K132, lp132, (fun r t h => by unfold K132 at h; split at h; (injection h with h; subst h; rfl); cases h), (ev132 _).trans h2⟩
  · cases h
/-! ### S.WideMean -/
noncomputable def G107 : Env := (envCons 131 [] E131 (envCons 130 [] E130 (envCons 132 [] E132 (envCons 106 [] E106 (envCons 133 [] E133 (envCons 103 [] E103 (envCons 102 [] E102 envNil)))))))
noncomputable def c107 : Code := bodyOf Try.f107
noncomputable def S.WideMean (a1 a2 a3 : Int) : Option (Int × Bool) :=
(bif (decide (a3 < 1)) then
(some (0, false))
else
(bif (decide (1000000 < a3)) then
(some (0, false))
else
(bif (decide (0 ≤ a1)) then
(Option.bind (S.l02Bits a1 a2) fun r7 =>
(Option.bind (S.l02Divide a3 r7) fun r8 =>
(Option.bind (S.l02Wide r8.2) fun r9 =>
(Option.bind (S.WideInt r9.1 r9.2) fun r10 =>
(some (r10.1, r10.2))))))
else
(Option.bind (S.WideNeg a1 a2) fun r11 =>
(Option.bind (S.l02Bits r11.1 r11.2) fun r12 =>
(Option.bind (S.l02Divide a3 r12) fun r13 =>
(Option.bind (S.l02Wide r13.2) fun r14 =>
(Option.bind (S.WideNeg r14.1 r14.2) fun r15 =>
(bif (decide (0 < r13.1)) then
(Option.bind (S.WideOf (-1)) fun r17 =>
(Option.bind (S.WideAdd r15.1 r15.2 r17.1 r17.2) fun r18 =>
(Option.bind (S.WideInt r18.1 r18.2) fun r19 =>
(some (r19.1, r19.2)))))
else
(Option.bind (S.WideInt r15.1 r15.2) fun r20 =>
(some (r20.1, r20.2))))))))))))
noncomputable def R107 (x : Int × Bool) : Res := ⟨[.one (ai x.1), .one (ab x.2)], [], []⟩
noncomputable def K107 (r : Res) : Option (Int × Bool) :=
  match r with
  | ⟨[.one (.val (.int .i64 v1)), .one (.val (.bool v2))], [], []⟩ => some (v1, v2)
  | _ => none
noncomputable def E107 : Fun2 := fun args bs rs =>
  match args, bs, rs with
  | [.s1 (.agg [.val (.int .i64 a1), .val (.int .u64 a2)]), .s1 (.one (.val (.int .i64 a3)))], [], [] => some ⟨Int × Bool, S.WideMean a1 a2 a3, R107⟩
  | _, _, _ => none
theorem ev107 (a1 a2 a3 : Int) : evF Try.prog G107 loopNil (0, 0) [] Try.f107 c107 [.s1 (.agg [ai a1, ak .u64 a2]), vi a3] [] [] K107 = S.WideMean a1 a2 a3 := by kernel_rfl
theorem good107 : Vm.Good Try.prog 107 E107 := by
  refine evF_good (G := G107) (c := c107) (envCons_good good131 (envCons_good good130 (envCons_good good132 (envCons_good good106 (envCons_good good133 (envCons_good good103 (envCons_good good102 envNil_good))))))) Try.func107 (by kernel_rfl) (by kernel_rfl) (0, 0) (fun args bs rs out t h h2 => ?_)
  unfold E107 at h
  split at h
  · injection h with h
    subst h
    exact ⟨rfl, [], loopNil, K107, (no_loops (c := c107) (by kernel_rfl)), (fun r t h => by unfold K107 at h; split at h; (injection h with h; subst h; rfl); cases h), (ev107 _ _ _).trans h2⟩
  · cases h
/-! ### S.AggDone -/
noncomputable def G63 : Env := (envCons 62 [] E62 (envCons 99 [] E99 (envCons 106 [] E106 (envCons 107 [] E107 envNil))))
noncomputable def c63 : Code := bodyOf Try.f63
noncomputable def S.AggDone (a1 a2 a3 a4 a5 a6 a7 : Int) (a8 : List Int) : Option (Bool × List Int) :=
(Option.bind (S.AggOk a3 a4 a5 a6 a7 a8) fun r9 =>
(bif (!r9) then
(some (false, []))
else
(bif (a3 == 0) then
(some (false, []))
else
(Option.bind (S.AggKind a1 a2) fun r10 =>
(bif (!r10) then
(some (false, []))
else
(bif (a1 == 1) then
(some (false, [a3]))
else
(bif (a1 == 2) then
(Option.bind (S.WideInt a4 a5) fun r11 =>
(bif (!r11.2) then
(some (true, []))
else
(some (false, [r11.1]))))
else
(bif (a1 == 3) then
(some (false, [a6]))
else
(bif (a1 == 4) then
(some (false, [a7]))
else
(bif (a1 == 5) then
(Option.bind (S.WideMean a4 a5 a3) fun r12 =>
(some (false, [r12.1])))
else
(let v13 : Int := (a8.length : Int)
(let v14 : Int := (if v13 < a2 then v13 else a2)
(bif decide ((0 : Int) ≤ 0 ∧ 0 ≤ v14 ∧ v14 ≤ (a8.length : Int)) then
(bif decide ((([] : List (Int)).length + ((a8.take (Int.toNat v14)).drop (Int.toNat 0)).length) * 8 ≤ 140737488355328) then
(let v15 : List Int := (([] : List (Int)) ++ ((a8.take (Int.toNat v14)).drop (Int.toNat 0)))
(some (false, v15)))
else
none)
else
none)))))))))))))
noncomputable def R63 (x : Bool × List Int) : Res := ⟨[.one (.sl 0), .one (ab x.1)], [], [⟨3, (.int .i64), x.2, .own⟩]⟩
noncomputable def K63 (r : Res) : Option (Bool × List Int) :=
  match r with
  | ⟨[.one (.sl 0), .one (.val (.bool v1))], [], [⟨3, (.int .i64), v2, .own⟩]⟩ => some (v1, v2)
  | _ => none
noncomputable def E63 : Fun2 := fun args bs rs =>
  match args, bs, rs with
  | [.s1 (.one (.val (.int .i64 a1))), .s1 (.one (.val (.int .i64 a2))), .s1 (.agg [.val (.int .i64 a3), .val (.int .i64 a4), .val (.int .u64 a5), .val (.int .i64 a6), .val (.int .i64 a7), .sl 0])], [], [⟨3, (.int .i64), a8, .ro⟩] => some ⟨Bool × List Int, S.AggDone a1 a2 a3 a4 a5 a6 a7 a8, R63⟩
  | _, _, _ => none
theorem ev63 (a1 a2 a3 a4 a5 a6 a7 : Int) (a8 : List Int) : evF Try.prog G63 loopNil (0, 0) [] Try.f63 c63 [vi a1, vi a2, .s1 (.agg [ai a3, ai a4, ak .u64 a5, ai a6, ai a7, .sl 0])] [] [⟨3, (.int .i64), a8, .ro⟩] K63 = S.AggDone a1 a2 a3 a4 a5 a6 a7 a8 := by kernel_rfl
theorem good63 : Vm.Good Try.prog 63 E63 := by
  refine evF_good (G := G63) (c := c63) (envCons_good good62 (envCons_good good99 (envCons_good good106 (envCons_good good107 envNil_good)))) Try.func63 (by kernel_rfl) (by kernel_rfl) (0, 0) (fun args bs rs out t h h2 => ?_)
  unfold E63 at h
  split at h
  · injection h with h
    subst h
    exact ⟨rfl, [], loopNil, K63, (no_loops (c := c63) (by kernel_rfl)), (fun r t h => by unfold K63 at h; split at h; (injection h with h; subst h; rfl); cases h), (ev63 _ _ _ _ _ _ _ _).trans h2⟩
  · cases h
/-! ### S.l04Key -/
noncomputable def G108 : Env := envNil
noncomputable def c108 : Code := bodyOf Try.f108
noncomputable def S.l04Key (a1 : Int) : Option Bool :=
(bif (decide (0 ≤ a1)) then
(some (decide (a1 ≤ 15)))
else
(some false))
noncomputable def R108 (x : Bool) : Res := ⟨[.one (ab x)], [], []⟩
noncomputable def K108 (r : Res) : Option Bool :=
  match r with
  | ⟨[.one (.val (.bool v1))], [], []⟩ => some (v1)
  | _ => none
noncomputable def E108 : Fun2 := fun args bs rs =>
  match args, bs, rs with
  | [.s1 (.one (.val (.int .i64 a1)))], [], [] => some ⟨Bool, S.l04Key a1, R108⟩
  | _, _, _ => none
theorem ev108 (a1 : Int) : evF Try.prog G108 loopNil (0, 0) [] Try.f108 c108 [vi a1] [] [] K108 = S.l04Key a1 := by kernel_rfl
theorem good108 : Vm.Good Try.prog 108 E108 := by
  refine evF_good (G := G108) (c := c108) envNil_good Try.func108 (by kernel_rfl) (by kernel_rfl) (0, 0) (fun args bs rs out t h h2 => ?_)
  unfold E108 at h
  split at h
  · injection h with h
    subst h
    exact ⟨rfl, [], loopNil, K108, (no_loops (c := c108) (by kernel_rfl)), (fun r t h => by unfold K108 at h; split at h; (injection h with h; subst h; rfl); cases h), (ev108 _).trans h2⟩
  · cases h
/-! ### S.l06Win -/
noncomputable def G109 : Env := envNil
noncomputable def c109 : Code := bodyOf Try.f109
noncomputable def S.l06Win (a1 a2 : Int) : Option Bool :=
(bif (decide (0 ≤ a1)) then
(bif (decide (a1 < a2)) then
(some (decide (a2 ≤ 1100)))
else
(some false))
else
(some false))
noncomputable def R109 (x : Bool) : Res := ⟨[.one (ab x)], [], []⟩
noncomputable def K109 (r : Res) : Option Bool :=
  match r with
  | ⟨[.one (.val (.bool v1))], [], []⟩ => some (v1)
  | _ => none
noncomputable def E109 : Fun2 := fun args bs rs =>
  match args, bs, rs with
  | [.s1 (.agg [.val (.int .i64 a1), .val (.int .i64 a2)])], [], [] => some ⟨Bool, S.l06Win a1 a2, R109⟩
  | _, _, _ => none
theorem ev109 (a1 a2 : Int) : evF Try.prog G109 loopNil (0, 0) [] Try.f109 c109 [.s1 (.agg [ai a1, ai a2])] [] [] K109 = S.l06Win a1 a2 := by kernel_rfl
theorem good109 : Vm.Good Try.prog 109 E109 := by
  refine evF_good (G := G109) (c := c109) envNil_good Try.func109 (by kernel_rfl) (by kernel_rfl) (0, 0) (fun args bs rs out t h h2 => ?_)
  unfold E109 at h
  split at h
  · injection h with h
    subst h
    exact ⟨rfl, [], loopNil, K109, (no_loops (c := c109) (by kernel_rfl)), (fun r t h => by unfold K109 at h; split at h; (injection h with h; subst h; rfl); cases h), (ev109 _ _).trans h2⟩
  · cases h
/-! ### S.PaneOk -/
noncomputable def G64 : Env := (envCons 108 [] E108 (envCons 109 [] E109 envNil))
noncomputable def c64 : Code := bodyOf Try.f64
noncomputable def S.PaneOk (a1 a2 a3 a4 a5 a6 : Int) (a7 : Bool) (a8 : List Int) : Option Bool :=
(bif (decide (a1 < 0)) then
(some false)
else
(bif (decide (4 ≤ a1)) then
(some false)
else
(Option.bind (S.l04Key a2) fun r11 =>
(bif (!r11) then
(some false)
else
(Option.bind (S.l06Win a3 a4) fun r12 =>
(bif (!r12) then
(some false)
else
(bif (decide (a5 < 0)) then
(some false)
else
(bif (decide (16 ≤ a5)) then
(some false)
else
(bif (decide (a6 < 1)) then
(some false)
else
(bif (decide (1000000 < a6)) then
(some false)
else
(bif (decide (4 < (a8.length : Int))) then
(some false)
else
(some (((a8.length : Int) == 0) == a7)))))))))))))
noncomputable def R64 (x : Bool) : Res := ⟨[.one (ab x)], [], []⟩
noncomputable def K64 (r : Res) : Option Bool :=
  match r with
  | ⟨[.one (.val (.bool v1))], [], []⟩ => some (v1)
  | _ => none
noncomputable def E64 : Fun2 := fun args bs rs =>
  match args, bs, rs with
  | [.s1 (.agg [.val (.int .i64 a1), .val (.int .i64 a2), .val (.int .i64 a3), .val (.int .i64 a4), .val (.int .i64 a5), .val (.int .i64 a6), .sl 0, .val (.bool a7)])], [], [⟨3, (.int .i64), a8, .ro⟩] => some ⟨Bool, S.PaneOk a1 a2 a3 a4 a5 a6 a7 a8, R64⟩
  | _, _, _ => none
theorem ev64 (a1 a2 a3 a4 a5 a6 : Int) (a7 : Bool) (a8 : List Int) : evF Try.prog G64 loopNil (0, 0) [] Try.f64 c64 [.s1 (.agg [ai a1, ai a2, ai a3, ai a4, ai a5, ai a6, .sl 0, ab a7])] [] [⟨3, (.int .i64), a8, .ro⟩] K64 = S.PaneOk a1 a2 a3 a4 a5 a6 a7 a8 := by kernel_rfl
theorem good64 : Vm.Good Try.prog 64 E64 := by
  refine evF_good (G := G64) (c := c64) (envCons_good good108 (envCons_good good109 envNil_good)) Try.func64 (by kernel_rfl) (by kernel_rfl) (0, 0) (fun args bs rs out t h h2 => ?_)
  unfold E64 at h
  split at h
  · injection h with h
    subst h
    exact ⟨rfl, [], loopNil, K64, (no_loops (c := c64) (by kernel_rfl)), (fun r t h => by unfold K64 at h; split at h; (injection h with h; subst h; rfl); cases h), (ev64 _ _ _ _ _ _ _ _).trans h2⟩
  · cases h
/-! ### S.PaneOf -/
noncomputable def G22 : Env := (envCons 61 [] E61 (envCons 62 [] E62 (envCons 63 [] E63 (envCons 64 [] E64 envNil))))
noncomputable def c22 : Code := bodyOf Try.f22
noncomputable def S.PaneOf (a1 a2 a3 a4 a5 a6 a7 a8 a9 a10 a11 a12 a13 a14 a15 : Int) (a16 a17 : List (Int × Int)) (a18 : List Int) : Option (Int × Int × Int × Int × Int × Int × Bool × Bool × List Int) :=
(Option.bind (S.QueryOk a2 a3 a4 a5 a6 a16 a17) fun r19 =>
(bif (!r19) then
(some (0, 0, 0, 0, 0, 0, false, false, []))
else
(Option.bind (S.AggOk a11 a12 a13 a14 a15 a18) fun r20 =>
(bif (!r20) then
(some (0, 0, 0, 0, 0, 0, false, false, []))
else
(bif (a11 == 0) then
(some (0, 0, 0, 0, 0, 0, false, false, []))
else
(Option.bind (S.AggDone a5 a6 a11 a12 a13 a14 a15 a18) fun r21 =>
(Option.bind (S.PaneOk a1 a7 a8 a9 a10 a11 r21.1 r21.2) fun r22 =>
(bif (!r22) then
(some (0, 0, 0, 0, 0, 0, false, false, []))
else
(some (a1, a7, a8, a9, a10, a11, r21.1, true, r21.2))))))))))
noncomputable def R22 (x : Int × Int × Int × Int × Int × Int × Bool × Bool × List Int) : Res := ⟨[.agg [ai x.1, ai x.2.1, ai x.2.2.1, ai x.2.2.2.1, ai x.2.2.2.2.1, ai x.2.2.2.2.2.1, .sl 0, ab x.2.2.2.2.2.2.1], .one (ab x.2.2.2.2.2.2.2.1)], [], [⟨3, (.int .i64), x.2.2.2.2.2.2.2.2, .own⟩]⟩
noncomputable def K22 (r : Res) : Option (Int × Int × Int × Int × Int × Int × Bool × Bool × List Int) :=
  match r with
  | ⟨[.agg [.val (.int .i64 v1), .val (.int .i64 v2), .val (.int .i64 v3), .val (.int .i64 v4), .val (.int .i64 v5), .val (.int .i64 v6), .sl 0, .val (.bool v7)], .one (.val (.bool v8))], [], [⟨3, (.int .i64), v9, .own⟩]⟩ => some (v1, v2, v3, v4, v5, v6, v7, v8, v9)
  | _ => none
noncomputable def E22 : Fun2 := fun args bs rs =>
  match args, bs, rs with
  | [.s1 (.one (.val (.int .i64 a1))), .s1 (.agg [.sl 0, .sl 1, .val (.int .i64 a2), .val (.int .i64 a3), .val (.int .i64 a4), .val (.int .i64 a5), .val (.int .i64 a6)]), .s1 (.one (.val (.int .i64 a7))), .s1 (.agg [.val (.int .i64 a8), .val (.int .i64 a9)]), .s1 (.one (.val (.int .i64 a10))), .s1 (.agg [.val (.int .i64 a11), .val (.int .i64 a12), .val (.int .u64 a13), .val (.int .i64 a14), .val (.int .i64 a15), .sl 2])], [], [⟨153, (.pair (.int .i64) (.int .i64)), a16, .ro⟩, ⟨153, (.pair (.int .i64) (.int .i64)), a17, .ro⟩, ⟨3, (.int .i64), a18, .ro⟩] => some ⟨Int × Int × Int × Int × Int × Int × Bool × Bool × List Int, S.PaneOf a1 a2 a3 a4 a5 a6 a7 a8 a9 a10 a11 a12 a13 a14 a15 a16 a17 a18, R22⟩
  | _, _, _ => none
theorem ev22 (a1 a2 a3 a4 a5 a6 a7 a8 a9 a10 a11 a12 a13 a14 a15 : Int) (a16 a17 : List (Int × Int)) (a18 : List Int) : evF Try.prog G22 loopNil (0, 0) [] Try.f22 c22 [vi a1, .s1 (.agg [.sl 0, .sl 1, ai a2, ai a3, ai a4, ai a5, ai a6]), vi a7, .s1 (.agg [ai a8, ai a9]), vi a10, .s1 (.agg [ai a11, ai a12, ak .u64 a13, ai a14, ai a15, .sl 2])] [] [⟨153, sh1, a16, .ro⟩, ⟨153, sh1, a17, .ro⟩, ⟨3, (.int .i64), a18, .ro⟩] K22 = S.PaneOf a1 a2 a3 a4 a5 a6 a7 a8 a9 a10 a11 a12 a13 a14 a15 a16 a17 a18 := by kernel_rfl
theorem good22 : Vm.Good Try.prog 22 E22 := by
  refine evF_good (G := G22) (c := c22) (envCons_good good61 (envCons_good good62 (envCons_good good63 (envCons_good good64 envNil_good)))) Try.func22 (by kernel_rfl) (by kernel_rfl) (0, 0) (fun args bs rs out t h h2 => ?_)
  unfold E22 at h
  split at h
  · injection h with h
    subst h
    exact ⟨rfl, [], loopNil, K22, (no_loops (c := c22) (by kernel_rfl)), (fun r t h => by unfold K22 at h; split at h; (injection h with h; subst h; rfl); cases h), (ev22 _ _ _ _ _ _ _ _ _ _ _ _ _ _ _ _ _ _).trans h2⟩
  · cases h
/-! ### I.in -/
noncomputable def G89 : Env := envNil
noncomputable def c89 : Code := bodyOf Try.f89
noncomputable def I.in (a1 a2 a3 : Int) : Option Bool :=
(bif (decide (a2 ≤ a1)) then
(some (decide (a1 ≤ a3)))
else
(some false))
noncomputable def R89 (x : Bool) : Res := ⟨[.one (ab x)], [], []⟩
noncomputable def K89 (r : Res) : Option Bool :=
  match r with
  | ⟨[.one (.val (.bool v1))], [], []⟩ => some (v1)
  | _ => none
noncomputable def E89 : Fun2 := fun args bs rs =>
  match args, bs, rs with
  | [.s1 (.one (.val (.int .i64 a1))), .s1 (.one (.val (.int .i64 a2))), .s1 (.one (.val (.int .i64 a3)))], [], [] => some ⟨Bool, I.in a1 a2 a3, R89⟩
  | _, _, _ => none
theorem ev89 (a1 a2 a3 : Int) : evF Try.prog G89 loopNil (0, 0) [] Try.f89 c89 [vi a1, vi a2, vi a3] [] [] K89 = I.in a1 a2 a3 := by kernel_rfl
theorem good89 : Vm.Good Try.prog 89 E89 := by
  refine evF_good (G := G89) (c := c89) envNil_good Try.func89 (by kernel_rfl) (by kernel_rfl) (0, 0) (fun args bs rs out t h h2 => ?_)
  unfold E89 at h
  split at h
  · injection h with h
    subst h
    exact ⟨rfl, [], loopNil, K89, (no_loops (c := c89) (by kernel_rfl)), (fun r t h => by unfold K89 at h; split at h; (injection h with h; subst h; rfl); cases h), (ev89 _ _ _).trans h2⟩
  · cases h
/-! ### I.Tok_takes -/
noncomputable def G142 : Env := envNil
noncomputable def c142 : Code := bodyOf Try.f142
noncomputable def I.Tok_takes (a1 a2 : Int) : Option Int :=
(bif (decide (a1 ≤ 3)) then
(some 0)
else
(bif (a1 == 11) then
(some 1)
else
(some 2)))
noncomputable def R142 (x : Int) : Res := ⟨[.one (ai x)], [], []⟩
noncomputable def K142 (r : Res) : Option Int :=
  match r with
  | ⟨[.one (.val (.int .i64 v1))], [], []⟩ => some (v1)
  | _ => none
noncomputable def E142 : Fun2 := fun args bs rs =>
  match args, bs, rs with
  | [.s1 (.agg [.val (.int .i64 a1), .val (.int .i64 a2)])], [], [] => some ⟨Int, I.Tok_takes a1 a2, R142⟩
  | _, _, _ => none
theorem ev142 (a1 a2 : Int) : evF Try.prog G142 loopNil (0, 0) [] Try.f142 c142 [.s1 (.agg [ai a1, ai a2])] [] [] K142 = I.Tok_takes a1 a2 := by kernel_rfl
theorem good142 : Vm.Good Try.prog 142 E142 := by
  refine evF_good (G := G142) (c := c142) envNil_good Try.func142 (by kernel_rfl) (by kernel_rfl) (0, 0) (fun args bs rs out t h h2 => ?_)
  unfold E142 at h
  split at h
  · injection h with h
    subst h
    exact ⟨rfl, [], loopNil, K142, (no_loops (c := c142) (by kernel_rfl)), (fun r t h => by unfold K142 at h; split at h; (injection h with h; subst h; rfl); cases h), (ev142 _ _).trans h2⟩
  · cases h
/-! ### I.depth -/
noncomputable def G134 : Env := (envCons 89 [] E89 (envCons 142 [] E142 envNil))
noncomputable def c134 : Code := bodyOf Try.f134
noncomputable def c134_5 : Code := (loopsOf c134).getD 0 .skip
noncomputable def I.depth_l0 : Nat → (Int → Int → Int → Option Int) → (Int → Int → Option Int) → Int → Int → Int → Int → (List (Int × Int)) → Option Int
  | 0, _, _, _, _, _, _, _ => none
  | m + 1, e5_0, e5_1, a5, a6, a7, a8, a9 =>
    (bif (decide (a8 < a7)) then
    (bif decide ((0 : Int) ≤ a8 ∧ a8 < (a9.length : Int)) then
    (Option.bind (I.in ((nthI a9 a8 df1).1) 0 11) fun r11 =>
    (bif (!r11) then
    (e5_0 (-1) a5 a6)
    else
    (bif ((nthI a9 a8 df1).1 != 0) then
    (bif ((nthI a9 a8 df1).2 != 0) then
    (e5_0 (-1) a5 a6)
    else
    (Option.bind (I.Tok_takes ((nthI a9 a8 df1).1) ((nthI a9 a8 df1).2)) fun r14 =>
    (bif (decide (a5 < r14)) then
    (e5_0 (-1) a5 a6)
    else
    (Option.bind (I.Tok_takes ((nthI a9 a8 df1).1) ((nthI a9 a8 df1).2)) fun r16 =>
    (let v18 : Int := (IntKind.wrap .i64 (a5 + (IntKind.wrap .i64 (1 - r16))))
    (I.depth_l0 m e5_0 e5_1 v18 (if v18 > a6 then v18 else a6) a7 (IntKind.wrap .i64 (a8 + 1)) a9))))))
    else
    (Option.bind (I.Tok_takes ((nthI a9 a8 df1).1) ((nthI a9 a8 df1).2)) fun r21 =>
    (bif (decide (a5 < r21)) then
    (e5_0 (-1) a5 a6)
    else
    (Option.bind (I.Tok_takes ((nthI a9 a8 df1).1) ((nthI a9 a8 df1).2)) fun r23 =>
    (let v25 : Int := (IntKind.wrap .i64 (a5 + (IntKind.wrap .i64 (1 - r23))))
    (I.depth_l0 m e5_0 e5_1 v25 (if v25 > a6 then v25 else a6) a7 (IntKind.wrap .i64 (a8 + 1)) a9))))))))
    else
    none)
    else
    (e5_1 a5 a6))
noncomputable def I.depth (a1 : List (Int × Int)) : Option Int :=
(Option.bind (I.in (a1.length : Int) 1 20) fun r3 =>
(bif (!r3) then
(some (-1))
else
(I.depth_l0 fu (fun y28 y29 y30 =>
(some y28)) (fun y31 y32 =>
(bif (y31 != 1) then
(some (-1))
else
(some y32))) 0 0 (a1.length : Int) 0 a1)))
noncomputable def H134_5 : LoopH := ⟨⟨(hu 3 (hh :: hh :: (hu 6 ((.one (.sl 0)) :: hh :: hh :: (hu 35 []))))), [], [(153, sh1, .ro)]⟩, ([0, 1, 2] ++ rg 5 6 ++ rg 14 35), [], ([0, 1] ++ rg 5 44), [], []⟩
noncomputable def E134_5 (m : Nat) (ps : List Prm) (k : Kont Int) : Option Int :=
  match ps with
  | [.v (.int .i64 a5), .v (.int .i64 a6), .v (.int .i64 a7), .v (.int .i64 a8), .row (.pair (.int .i64) (.int .i64)) a9] => I.depth_l0 m (fun z38 z39 z40 => k .ret (⟨(vu 2 ((vi z38) :: (vi z39) :: (vi z40) :: (vu 44 []))), [], []⟩ : St)) (fun z41 z42 => k (.exit 0) (⟨(vu 3 ((vi z41) :: (vi z42) :: (vu 44 []))), [], []⟩ : St)) a5 a6 a7 a8 a9
  | _ => none
noncomputable def S134_5 (a5 a6 a7 a8 : Int) (a9 : List (Int × Int)) : St := (⟨(vu 3 ((vi a5) :: (vi a6) :: (vu 6 ((vl 0) :: (vi a7) :: (vi a8) :: (vu 35 []))))), [], [⟨153, sh1, a9, .ro⟩]⟩ : St)
theorem ev134_5 (m : Nat) (k : Kont Int) (a5 a6 a7 a8 : Int) (a9 : List (Int × Int)) : evC Try.prog G134 loopNil c134_5 (S134_5 a5 a6 a7 a8 a9) (turn Try.prog (0, 0) H134_5 (E134_5 m) k) = E134_5 (m + 1) ([.v (.int .i64 a5), .v (.int .i64 a6), .v (.int .i64 a7), .v (.int .i64 a8), .row sh1 a9]) k := by kernel_rfl
theorem ok134_5 (m : Nat) : LoopOk Try.prog (0, 0) c134_5 (enter Try.prog (0, 0) H134_5 (E134_5 m)) := by
  refine loop_ok (G := G134) (L := loopNil) (envCons_good good89 (envCons_good good142 envNil_good)) (no_loops (c := c134_5) (by kernel_rfl)) (fun ps k => by unfold E134_5; split <;> rfl) (fun m ps k r h => ?_) m
  have h0 := h
  unfold E134_5 at h
  split at h
  · exact ⟨S134_5 _ _ _ _ _, by kernel_rfl, (ev134_5 m k _ _ _ _ _).trans h0⟩
  · cases h
noncomputable def L134 : LEnv Int := (loopCons 5 (enter Try.prog (0, 0) H134_5 (E134_5 fu)) loopNil)
theorem lq134 : loopsOf c134 = [c134_5] := by kernel_rfl
theorem fr134_5 : firstReg c134_5 = some 5 := by kernel_rfl
theorem le134_5 : L134 5 = enter Try.prog (0, 0) H134_5 (E134_5 fu) := by kernel_rfl
theorem lm134 : ∀ x ∈ [c134_5], ∀ id, firstReg x = some id → LoopOk Try.prog (0, 0) x (L134 id) := (loops_cons fr134_5 le134_5 (ok134_5 fu) loops_nil)
theorem lp134 : ∀ x ∈ loopsOf c134, ∀ id, firstReg x = some id → LoopOk Try.prog (0, 0) x (L134 id) := loops_eq lq134 lm134
noncomputable def R134 (x : Int) : Res := ⟨[.one (ai x)], [], []⟩
noncomputable def K134 (r : Res) : Option Int :=
  match r with
  | ⟨[.one (.val (.int .i64 v1))], [], []⟩ => some (v1)
  | _ => none
noncomputable def E134 : Fun2 := fun args bs rs =>
  match args, bs, rs with
  | [.s1 (.one (.sl 0))], [], [⟨153, (.pair (.int .i64) (.int .i64)), a1, .ro⟩] => some ⟨Int, I.depth a1, R134⟩
  | _, _, _ => none
theorem ev134 (a1 : List (Int × Int)) : evF Try.prog G134 L134 (0, 0) [] Try.f134 c134 [vl 0] [] [⟨153, sh1, a1, .ro⟩] K134 = I.depth a1 := by kernel_rfl
theorem good134 : Vm.Good Try.prog 134 E134 := by
  refine evF_good (G := G134) (c := c134) (envCons_good good89 (envCons_good good142 envNil_good)) Try.func134 (by kernel_rfl) (by kernel_rfl) (0, 0) (fun args bs rs out t h h2 => ?_)
  unfold E134 at h
  split at h
  · injection h with h
    subst h
    exact ⟨rfl, [], L134, K134, lp134, (fun r t h => by unfold K134 at h; split at h; (injection h with h; subst h; rfl); cases h), (ev134 _).trans h2⟩
  · cases h
/-! ### I.isExpr -/
noncomputable def G111 : Env := (envCons 134 [] E134 envNil)
noncomputable def c111 : Code := bodyOf Try.f111
noncomputable def I.isExpr (a1 : List (Int × Int)) : Option Bool :=
(Option.bind (I.depth a1) fun r2 =>
(some (decide (0 < r2))))
noncomputable def R111 (x : Bool) : Res := ⟨[.one (ab x)], [], []⟩
noncomputable def K111 (r : Res) : Option Bool :=
  match r with
  | ⟨[.one (.val (.bool v1))], [], []⟩ => some (v1)
  | _ => none
noncomputable def E111 : Fun2 := fun args bs rs =>
  match args, bs, rs with
  | [.s1 (.one (.sl 0))], [], [⟨153, (.pair (.int .i64) (.int .i64)), a1, .ro⟩] => some ⟨Bool, I.isExpr a1, R111⟩
  | _, _, _ => none
theorem ev111 (a1 : List (Int × Int)) : evF Try.prog G111 loopNil (0, 0) [] Try.f111 c111 [vl 0] [] [⟨153, sh1, a1, .ro⟩] K111 = I.isExpr a1 := by kernel_rfl
theorem good111 : Vm.Good Try.prog 111 E111 := by
  refine evF_good (G := G111) (c := c111) (envCons_good good134 envNil_good) Try.func111 (by kernel_rfl) (by kernel_rfl) (0, 0) (fun args bs rs out t h h2 => ?_)
  unfold E111 at h
  split at h
  · injection h with h
    subst h
    exact ⟨rfl, [], loopNil, K111, (no_loops (c := c111) (by kernel_rfl)), (fun r t h => by unfold K111 at h; split at h; (injection h with h; subst h; rfl); cases h), (ev111 _).trans h2⟩
  · cases h
/-! ### I.isWinDef -/
noncomputable def G112 : Env := (envCons 89 [] E89 envNil)
noncomputable def c112 : Code := bodyOf Try.f112
noncomputable def I.isWinDef (a1 a2 a3 : Int) : Option Bool :=
(Option.bind (I.in a2 1 100) fun r4 =>
(bif (!r4) then
(some false)
else
(bif (a1 == 1) then
(some (a3 == 0))
else
(bif (a1 == 3) then
(some (a3 == 0))
else
(bif (a1 == 2) then
(Option.bind (I.in a3 1 a2) fun r5 =>
(bif r5 then
(some (decide (a2 ≤ (IntKind.wrap .i64 (8 * a3)))))
else
(some false)))
else
(some false))))))
noncomputable def R112 (x : Bool) : Res := ⟨[.one (ab x)], [], []⟩
noncomputable def K112 (r : Res) : Option Bool :=
  match r with
  | ⟨[.one (.val (.bool v1))], [], []⟩ => some (v1)
  | _ => none
noncomputable def E112 : Fun2 := fun args bs rs =>
  match args, bs, rs with
  | [.s1 (.agg [.val (.int .i64 a1), .val (.int .i64 a2), .val (.int .i64 a3)])], [], [] => some ⟨Bool, I.isWinDef a1 a2 a3, R112⟩
  | _, _, _ => none
theorem ev112 (a1 a2 a3 : Int) : evF Try.prog G112 loopNil (0, 0) [] Try.f112 c112 [.s1 (.agg [ai a1, ai a2, ai a3])] [] [] K112 = I.isWinDef a1 a2 a3 := by kernel_rfl
theorem good112 : Vm.Good Try.prog 112 E112 := by
  refine evF_good (G := G112) (c := c112) (envCons_good good89 envNil_good) Try.func112 (by kernel_rfl) (by kernel_rfl) (0, 0) (fun args bs rs out t h h2 => ?_)
  unfold E112 at h
  split at h
  · injection h with h
    subst h
    exact ⟨rfl, [], loopNil, K112, (no_loops (c := c112) (by kernel_rfl)), (fun r t h => by unfold K112 at h; split at h; (injection h with h; subst h; rfl); cases h), (ev112 _ _ _).trans h2⟩
  · cases h
/-! ### I.isAggKind -/
noncomputable def G113 : Env := (envCons 89 [] E89 envNil)
noncomputable def c113 : Code := bodyOf Try.f113
noncomputable def I.isAggKind (a1 a2 : Int) : Option Bool :=
(bif (a1 == 6) then
(Option.bind (I.in a2 1 4) fun r3 =>
(some r3))
else
(Option.bind (I.in a1 1 5) fun r4 =>
(bif r4 then
(some (a2 == 0))
else
(some false))))
noncomputable def R113 (x : Bool) : Res := ⟨[.one (ab x)], [], []⟩
noncomputable def K113 (r : Res) : Option Bool :=
  match r with
  | ⟨[.one (.val (.bool v1))], [], []⟩ => some (v1)
  | _ => none
noncomputable def E113 : Fun2 := fun args bs rs =>
  match args, bs, rs with
  | [.s1 (.one (.val (.int .i64 a1))), .s1 (.one (.val (.int .i64 a2)))], [], [] => some ⟨Bool, I.isAggKind a1 a2, R113⟩
  | _, _, _ => none
theorem ev113 (a1 a2 : Int) : evF Try.prog G113 loopNil (0, 0) [] Try.f113 c113 [vi a1, vi a2] [] [] K113 = I.isAggKind a1 a2 := by kernel_rfl
theorem good113 : Vm.Good Try.prog 113 E113 := by
  refine evF_good (G := G113) (c := c113) (envCons_good good89 envNil_good) Try.func113 (by kernel_rfl) (by kernel_rfl) (0, 0) (fun args bs rs out t h h2 => ?_)
  unfold E113 at h
  split at h
  · injection h with h
    subst h
    exact ⟨rfl, [], loopNil, K113, (no_loops (c := c113) (by kernel_rfl)), (fun r t h => by unfold K113 at h; split at h; (injection h with h; subst h; rfl); cases h), (ev113 _ _).trans h2⟩
  · cases h
/-! ### I.isQuery -/
noncomputable def G69 : Env := (envCons 111 [] E111 (envCons 112 [] E112 (envCons 113 [] E113 envNil)))
noncomputable def c69 : Code := bodyOf Try.f69
noncomputable def I.isQuery (a1 a2 a3 a4 a5 : Int) (a6 a7 : List (Int × Int)) : Option Bool :=
(Option.bind (I.isExpr a6) fun r8 =>
(bif r8 then
(Option.bind (I.isExpr a7) fun r9 =>
(bif r9 then
(Option.bind (I.isWinDef a1 a2 a3) fun r10 =>
(bif r10 then
(Option.bind (I.isAggKind a4 a5) fun r11 =>
(some r11))
else
(some false)))
else
(some false)))
else
(some false)))
noncomputable def R69 (x : Bool) : Res := ⟨[.one (ab x)], [], []⟩
noncomputable def K69 (r : Res) : Option Bool :=
  match r with
  | ⟨[.one (.val (.bool v1))], [], []⟩ => some (v1)
  | _ => none
noncomputable def E69 : Fun2 := fun args bs rs =>
  match args, bs, rs with
  | [.s1 (.agg [.sl 0, .sl 1, .val (.int .i64 a1), .val (.int .i64 a2), .val (.int .i64 a3), .val (.int .i64 a4), .val (.int .i64 a5)])], [], [⟨153, (.pair (.int .i64) (.int .i64)), a6, .ro⟩, ⟨153, (.pair (.int .i64) (.int .i64)), a7, .ro⟩] => some ⟨Bool, I.isQuery a1 a2 a3 a4 a5 a6 a7, R69⟩
  | _, _, _ => none
theorem ev69 (a1 a2 a3 a4 a5 : Int) (a6 a7 : List (Int × Int)) : evF Try.prog G69 loopNil (0, 0) [] Try.f69 c69 [.s1 (.agg [.sl 0, .sl 1, ai a1, ai a2, ai a3, ai a4, ai a5])] [] [⟨153, sh1, a6, .ro⟩, ⟨153, sh1, a7, .ro⟩] K69 = I.isQuery a1 a2 a3 a4 a5 a6 a7 := by kernel_rfl
theorem good69 : Vm.Good Try.prog 69 E69 := by
  refine evF_good (G := G69) (c := c69) (envCons_good good111 (envCons_good good112 (envCons_good good113 envNil_good))) Try.func69 (by kernel_rfl) (by kernel_rfl) (0, 0) (fun args bs rs out t h h2 => ?_)
  unfold E69 at h
  split at h
  · injection h with h
    subst h
    exact ⟨rfl, [], loopNil, K69, (no_loops (c := c69) (by kernel_rfl)), (fun r t h => by unfold K69 at h; split at h; (injection h with h; subst h; rfl); cases h), (ev69 _ _ _ _ _ _ _).trans h2⟩
  · cases h
/-! ### I.WideOf -/
noncomputable def G116 : Env := envNil
noncomputable def c116 : Code := bodyOf Try.f116
noncomputable def I.WideOf (a1 : Int) : Option (Int × Int) :=
(bif decide ((0 : Int) ≤ 63) then
(some ((Int.fdiv a1 (2 ^ min (Int.toNat 63) (IntKind.bits .i64))), (IntKind.wrap .u64 a1)))
else
none)
noncomputable def R116 (x : Int × Int) : Res := ⟨[.agg [ai x.1, ak .u64 x.2]], [], []⟩
noncomputable def K116 (r : Res) : Option (Int × Int) :=
  match r with
  | ⟨[.agg [.val (.int .i64 v1), .val (.int .u64 v2)]], [], []⟩ => some (v1, v2)
  | _ => none
noncomputable def E116 : Fun2 := fun args bs rs =>
  match args, bs, rs with
  | [.s1 (.one (.val (.int .i64 a1)))], [], [] => some ⟨Int × Int, I.WideOf a1, R116⟩
  | _, _, _ => none
theorem ev116 (a1 : Int) : evF Try.prog G116 loopNil (0, 0) [] Try.f116 c116 [vi a1] [] [] K116 = I.WideOf a1 := by kernel_rfl
theorem good116 : Vm.Good Try.prog 116 E116 := by
  refine evF_good (G := G116) (c := c116) envNil_good Try.func116 (by kernel_rfl) (by kernel_rfl) (0, 0) (fun args bs rs out t h h2 => ?_)
  unfold E116 at h
  split at h
  · injection h with h
    subst h
    exact ⟨rfl, [], loopNil, K116, (no_loops (c := c116) (by kernel_rfl)), (fun r t h => by unfold K116 at h; split at h; (injection h with h; subst h; rfl); cases h), (ev116 _).trans h2⟩
  · cases h
/-! ### I.WideAdd -/
noncomputable def G114 : Env := envNil
noncomputable def c114 : Code := bodyOf Try.f114
noncomputable def I.WideAdd (a1 a2 a3 a4 : Int) : Option (Int × Int) :=
(bif decide ((0 : Int) ≤ a2 ∧ (0 : Int) ≤ a4 ∧ (0 : Int) ≤ 0 ∧ (0 : Int) ≤ 1) then
(some ((IntKind.wrap .i64 ((IntKind.wrap .i64 (a1 + a3)) + (IntKind.wrap .i64 ((a2 + a4 + 0) / 18446744073709551616)))), ((a2 + a4 + 0) % 18446744073709551616)))
else
none)
noncomputable def R114 (x : Int × Int) : Res := ⟨[.agg [ai x.1, ak .u64 x.2]], [], []⟩
noncomputable def K114 (r : Res) : Option (Int × Int) :=
  match r with
  | ⟨[.agg [.val (.int .i64 v1), .val (.int .u64 v2)]], [], []⟩ => some (v1, v2)
  | _ => none
noncomputable def E114 : Fun2 := fun args bs rs =>
  match args, bs, rs with
  | [.s1 (.agg [.val (.int .i64 a1), .val (.int .u64 a2)]), .s1 (.agg [.val (.int .i64 a3), .val (.int .u64 a4)])], [], [] => some ⟨Int × Int, I.WideAdd a1 a2 a3 a4, R114⟩
  | _, _, _ => none
theorem ev114 (a1 a2 a3 a4 : Int) : evF Try.prog G114 loopNil (0, 0) [] Try.f114 c114 [.s1 (.agg [ai a1, ak .u64 a2]), .s1 (.agg [ai a3, ak .u64 a4])] [] [] K114 = I.WideAdd a1 a2 a3 a4 := by kernel_rfl
theorem good114 : Vm.Good Try.prog 114 E114 := by
  refine evF_good (G := G114) (c := c114) envNil_good Try.func114 (by kernel_rfl) (by kernel_rfl) (0, 0) (fun args bs rs out t h h2 => ?_)
  unfold E114 at h
  split at h
  · injection h with h
    subst h
    exact ⟨rfl, [], loopNil, K114, (no_loops (c := c114) (by kernel_rfl)), (fun r t h => by unfold K114 at h; split at h; (injection h with h; subst h; rfl); cases h), (ev114 _ _ _ _).trans h2⟩
  · cases h
/-! ### I.WideNeg -/
noncomputable def G115 : Env := (envCons 114 [] E114 envNil)
noncomputable def c115 : Code := bodyOf Try.f115
noncomputable def I.WideNeg (a1 a2 : Int) : Option (Int × Int) :=
(let v3 : Int := (Go.bits .xor .i64 (if IntKind.signed .i64 then -1 else IntKind.max .i64) a1)
(let v4 : Int := (Go.bits .xor .u64 (if IntKind.signed .u64 then -1 else IntKind.max .u64) a2)
(Option.bind (I.WideAdd v3 v4 0 1) fun r5 =>
(some (r5.1, r5.2)))))
noncomputable def R115 (x : Int × Int) : Res := ⟨[.agg [ai x.1, ak .u64 x.2]], [], []⟩
noncomputable def K115 (r : Res) : Option (Int × Int) :=
  match r with
  | ⟨[.agg [.val (.int .i64 v1), .val (.int .u64 v2)]], [], []⟩ => some (v1, v2)
  | _ => none
noncomputable def E115 : Fun2 := fun args bs rs =>
  match args, bs, rs with
  | [.s1 (.agg [.val (.int .i64 a1), .val (.int .u64 a2)])], [], [] => some ⟨Int × Int, I.WideNeg a1 a2, R115⟩
  | _, _, _ => none
theorem ev115 (a1 a2 : Int) : evF Try.prog G115 loopNil (0, 0) [] Try.f115 c115 [.s1 (.agg [ai a1, ak .u64 a2])] [] [] K115 = I.WideNeg a1 a2 := by kernel_rfl
theorem good115 : Vm.Good Try.prog 115 E115 := by
  refine evF_good (G := G115) (c := c115) (envCons_good good114 envNil_good) Try.func115 (by kernel_rfl) (by kernel_rfl) (0, 0) (fun args bs rs out t h h2 => ?_)
  unfold E115 at h
  split at h
  · injection h with h
    subst h
    exact ⟨rfl, [], loopNil, K115, (no_loops (c := c115) (by kernel_rfl)), (fun r t h => by unfold K115 at h; split at h; (injection h with h; subst h; rfl); cases h), (ev115 _ _).trans h2⟩
  · cases h
/-! ### G.bits.Mul64 -/
noncomputable def G137 : Env := envNil
noncomputable def c137 : Code := bodyOf Try.f137
noncomputable def G.bits.Mul64 (a1 a2 : Int) : Option (Int × Int) :=
(let v3 : Int := (Go.bits .and .u64 a1 4294967295)
(bif decide ((0 : Int) ≤ 32) then
(let v4 : Int := (Int.fdiv a1 (2 ^ min (Int.toNat 32) (IntKind.bits .u64)))
(let v5 : Int := (Go.bits .and .u64 a2 4294967295)
(bif decide ((0 : Int) ≤ 32) then
(let v6 : Int := (Int.fdiv a2 (2 ^ min (Int.toNat 32) (IntKind.bits .u64)))
(bif decide ((0 : Int) ≤ 32) then
(let v10 : Int := (IntKind.wrap .u64 ((IntKind.wrap .u64 (v4 * v5)) + (Int.fdiv (IntKind.wrap .u64 (v3 * v5)) (2 ^ min (Int.toNat 32) (IntKind.bits .u64)))))
(bif decide ((0 : Int) ≤ 32) then
(bif decide ((0 : Int) ≤ 32) then
(some ((IntKind.wrap .u64 ((IntKind.wrap .u64 ((IntKind.wrap .u64 (v4 * v6)) + (Int.fdiv v10 (2 ^ min (Int.toNat 32) (IntKind.bits .u64))))) + (Int.fdiv (IntKind.wrap .u64 ((Go.bits .and .u64 v10 4294967295) + (IntKind.wrap .u64 (v3 * v6)))) (2 ^ min (Int.toNat 32) (IntKind.bits .u64))))), (IntKind.wrap .u64 (a1 * a2))))
else
none)
else
none))
else
none))
else
none)))
else
none))
noncomputable def R137 (x : Int × Int) : Res := ⟨[.one (ak .u64 x.1), .one (ak .u64 x.2)], [], []⟩
noncomputable def K137 (r : Res) : Option (Int × Int) :=
  match r with
  | ⟨[.one (.val (.int .u64 v1)), .one (.val (.int .u64 v2))], [], []⟩ => some (v1, v2)
  | _ => none
noncomputable def E137 : Fun2 := fun args bs rs =>
  match args, bs, rs with
  | [.s1 (.one (.val (.int .u64 a1))), .s1 (.one (.val (.int .u64 a2)))], [], [] => some ⟨Int × Int, G.bits.Mul64 a1 a2, R137⟩
  | _, _, _ => none
theorem ev137 (a1 a2 : Int) : evF Try.prog G137 loopNil (0, 0) [] Try.f137 c137 [vk .u64 a1, vk .u64 a2] [] [] K137 = G.bits.Mul64 a1 a2 := by kernel_rfl
theorem good137 : Vm.Good Try.prog 137 E137 := by
  refine evF_good (G := G137) (c := c137) envNil_good Try.func137 (by kernel_rfl) (by kernel_rfl) (0, 0) (fun args bs rs out t h h2 => ?_)
  unfold E137 at h
  split at h
  · injection h with h
    subst h
    exact ⟨rfl, [], loopNil, K137, (no_loops (c := c137) (by kernel_rfl)), (fun r t h => by unfold K137 at h; split at h; (injection h with h; subst h; rfl); cases h), (ev137 _ _).trans h2⟩
  · cases h
/-! ### I.wideTimes -/
noncomputable def G118 : Env := (envCons 137 [] E137 (envCons 115 [] E115 envNil))
noncomputable def c118 : Code := bodyOf Try.f118
noncomputable def I.wideTimes (a1 a2 : Int) : Option (Int × Int) :=
(let v3 : Int := (IntKind.wrap .u64 a1)
(bif (decide (a1 < 0)) then
(Option.bind (G.bits.Mul64 (IntKind.wrap .u64 (0 - v3)) (IntKind.wrap .u64 a2)) fun r7 =>
(let v8 : Int := (IntKind.wrap .i64 r7.1)
(bif (decide (a1 < 0)) then
(Option.bind (I.WideNeg v8 r7.2) fun r10 =>
(some (r10.1, r10.2)))
else
(some (v8, r7.2)))))
else
(Option.bind (G.bits.Mul64 v3 (IntKind.wrap .u64 a2)) fun r12 =>
(let v13 : Int := (IntKind.wrap .i64 r12.1)
(bif (decide (a1 < 0)) then
(Option.bind (I.WideNeg v13 r12.2) fun r15 =>
(some (r15.1, r15.2)))
else
(some (v13, r12.2)))))))
noncomputable def R118 (x : Int × Int) : Res := ⟨[.agg [ai x.1, ak .u64 x.2]], [], []⟩
noncomputable def K118 (r : Res) : Option (Int × Int) :=
  match r with
  | ⟨[.agg [.val (.int .i64 v1), .val (.int .u64 v2)]], [], []⟩ => some (v1, v2)
  | _ => none
noncomputable def E118 : Fun2 := fun args bs rs =>
  match args, bs, rs with
  | [.s1 (.one (.val (.int .i64 a1))), .s1 (.one (.val (.int .i64 a2)))], [], [] => some ⟨Int × Int, I.wideTimes a1 a2, R118⟩
  | _, _, _ => none
theorem ev118 (a1 a2 : Int) : evF Try.prog G118 loopNil (0, 0) [] Try.f118 c118 [vi a1, vi a2] [] [] K118 = I.wideTimes a1 a2 := by kernel_rfl
theorem good118 : Vm.Good Try.prog 118 E118 := by
  refine evF_good (G := G118) (c := c118) (envCons_good good137 (envCons_good good115 envNil_good)) Try.func118 (by kernel_rfl) (by kernel_rfl) (0, 0) (fun args bs rs out t h h2 => ?_)
  unfold E118 at h
  split at h
  · injection h with h
    subst h
    exact ⟨rfl, [], loopNil, K118, (no_loops (c := c118) (by kernel_rfl)), (fun r t h => by unfold K118 at h; split at h; (injection h with h; subst h; rfl); cases h), (ev118 _ _).trans h2⟩
  · cases h
/-! ### G.cmp.isNaN_int -/
noncomputable def G126 : Env := envNil
noncomputable def c126 : Code := bodyOf Try.f126
noncomputable def G.cmp.isNaN_int (a1 : Int) : Option Bool :=
(some (a1 != a1))
noncomputable def R126 (x : Bool) : Res := ⟨[.one (ab x)], [], []⟩
noncomputable def K126 (r : Res) : Option Bool :=
  match r with
  | ⟨[.one (.val (.bool v1))], [], []⟩ => some (v1)
  | _ => none
noncomputable def E126 : Fun2 := fun args bs rs =>
  match args, bs, rs with
  | [.s1 (.one (.val (.int .i64 a1)))], [], [] => some ⟨Bool, G.cmp.isNaN_int a1, R126⟩
  | _, _, _ => none
theorem ev126 (a1 : Int) : evF Try.prog G126 loopNil (0, 0) [] Try.f126 c126 [vi a1] [] [] K126 = G.cmp.isNaN_int a1 := by kernel_rfl
theorem good126 : Vm.Good Try.prog 126 E126 := by
  refine evF_good (G := G126) (c := c126) envNil_good Try.func126 (by kernel_rfl) (by kernel_rfl) (0, 0) (fun args bs rs out t h h2 => ?_)
  unfold E126 at h
  split at h
  · injection h with h
    subst h
    exact ⟨rfl, [], loopNil, K126, (no_loops (c := c126) (by kernel_rfl)), (fun r t h => by unfold K126 at h; split at h; (injection h with h; subst h; rfl); cases h), (ev126 _).trans h2⟩
  · cases h
/-! ### G.cmp.Compare_int -/
noncomputable def G81 : Env := (envCons 126 [] E126 envNil)
noncomputable def c81 : Code := bodyOf Try.f81
noncomputable def G.cmp.Compare_int (a1 a2 : Int) : Option Int :=
(Option.bind (G.cmp.isNaN_int a1) fun r3 =>
(Option.bind (G.cmp.isNaN_int a2) fun r4 =>
(bif r3 then
(bif r4 then
(some 0)
else
(some (-1)))
else
(bif r4 then
(some 1)
else
(bif (decide (a1 < a2)) then
(some (-1))
else
(bif (decide (a2 < a1)) then
(some 1)
else
(some 0)))))))
noncomputable def R81 (x : Int) : Res := ⟨[.one (ai x)], [], []⟩
noncomputable def K81 (r : Res) : Option Int :=
  match r with
  | ⟨[.one (.val (.int .i64 v1))], [], []⟩ => some (v1)
  | _ => none
noncomputable def E81 : Fun2 := fun args bs rs =>
  match args, bs, rs with
  | [.s1 (.one (.val (.int .i64 a1))), .s1 (.one (.val (.int .i64 a2)))], [], [] => some ⟨Int, G.cmp.Compare_int a1 a2, R81⟩
  | _, _, _ => none
theorem ev81 (a1 a2 : Int) : evF Try.prog G81 loopNil (0, 0) [] Try.f81 c81 [vi a1, vi a2] [] [] K81 = G.cmp.Compare_int a1 a2 := by kernel_rfl
theorem good81 : Vm.Good Try.prog 81 E81 := by
  refine evF_good (G := G81) (c := c81) (envCons_good good126 envNil_good) Try.func81 (by kernel_rfl) (by kernel_rfl) (0, 0) (fun args bs rs out t h h2 => ?_)
  unfold E81 at h
  split at h
  · injection h with h
    subst h
    exact ⟨rfl, [], loopNil, K81, (no_loops (c := c81) (by kernel_rfl)), (fun r t h => by unfold K81 at h; split at h; (injection h with h; subst h; rfl); cases h), (ev81 _ _).trans h2⟩
  · cases h
/-! ### G.cmp.isNaN_uint64 -/
noncomputable def G143 : Env := envNil
noncomputable def c143 : Code := bodyOf Try.f143
noncomputable def G.cmp.isNaN_uint64 (a1 : Int) : Option Bool :=
(some (a1 != a1))
noncomputable def R143 (x : Bool) : Res := ⟨[.one (ab x)], [], []⟩
noncomputable def K143 (r : Res) : Option Bool :=
  match r with
  | ⟨[.one (.val (.bool v1))], [], []⟩ => some (v1)
  | _ => none
noncomputable def E143 : Fun2 := fun args bs rs =>
  match args, bs, rs with
  | [.s1 (.one (.val (.int .u64 a1)))], [], [] => some ⟨Bool, G.cmp.isNaN_uint64 a1, R143⟩
  | _, _, _ => none
theorem ev143 (a1 : Int) : evF Try.prog G143 loopNil (0, 0) [] Try.f143 c143 [vk .u64 a1] [] [] K143 = G.cmp.isNaN_uint64 a1 := by kernel_rfl
theorem good143 : Vm.Good Try.prog 143 E143 := by
  refine evF_good (G := G143) (c := c143) envNil_good Try.func143 (by kernel_rfl) (by kernel_rfl) (0, 0) (fun args bs rs out t h h2 => ?_)
  unfold E143 at h
  split at h
  · injection h with h
    subst h
    exact ⟨rfl, [], loopNil, K143, (no_loops (c := c143) (by kernel_rfl)), (fun r t h => by unfold K143 at h; split at h; (injection h with h; subst h; rfl); cases h), (ev143 _).trans h2⟩
  · cases h
/-! ### G.cmp.Compare_uint64 -/
noncomputable def G136 : Env := (envCons 143 [] E143 envNil)
noncomputable def c136 : Code := bodyOf Try.f136
noncomputable def G.cmp.Compare_uint64 (a1 a2 : Int) : Option Int :=
(Option.bind (G.cmp.isNaN_uint64 a1) fun r3 =>
(Option.bind (G.cmp.isNaN_uint64 a2) fun r4 =>
(bif r3 then
(bif r4 then
(some 0)
else
(some (-1)))
else
(bif r4 then
(some 1)
else
(bif (decide (a1 < a2)) then
(some (-1))
else
(bif (decide (a2 < a1)) then
(some 1)
else
(some 0)))))))
noncomputable def R136 (x : Int) : Res := ⟨[.one (ai x)], [], []⟩
noncomputable def K136 (r : Res) : Option Int :=
  match r with
  | ⟨[.one (.val (.int .i64 v1))], [], []⟩ => some (v1)
  | _ => none
noncomputable def E136 : Fun2 := fun args bs rs =>
  match args, bs, rs with
  | [.s1 (.one (.val (.int .u64 a1))), .s1 (.one (.val (.int .u64 a2)))], [], [] => some ⟨Int, G.cmp.Compare_uint64 a1 a2, R136⟩
  | _, _, _ => none
theorem ev136 (a1 a2 : Int) : evF Try.prog G136 loopNil (0, 0) [] Try.f136 c136 [vk .u64 a1, vk .u64 a2] [] [] K136 = G.cmp.Compare_uint64 a1 a2 := by kernel_rfl
theorem good136 : Vm.Good Try.prog 136 E136 := by
  refine evF_good (G := G136) (c := c136) (envCons_good good143 envNil_good) Try.func136 (by kernel_rfl) (by kernel_rfl) (0, 0) (fun args bs rs out t h h2 => ?_)
  unfold E136 at h
  split at h
  · injection h with h
    subst h
    exact ⟨rfl, [], loopNil, K136, (no_loops (c := c136) (by kernel_rfl)), (fun r t h => by unfold K136 at h; split at h; (injection h with h; subst h; rfl); cases h), (ev136 _ _).trans h2⟩
  · cases h
/-! ### G.cmp.Or_int -/
noncomputable def G80 : Env := envNil
noncomputable def c80 : Code := bodyOf Try.f80
noncomputable def c80_3 : Code := (loopsOf c80).getD 0 .skip
noncomputable def G.cmp.Or_int_l0 : Nat → (Int → Int → Option Int) → (Int → Option Int) → Int → Int → Int → List Int → Option Int
  | 0, _, _, _, _, _, _ => none
  | m + 1, e3_0, e3_1, a3, a4, a5, a6 =>
    (bif (decide (a5 < a4)) then
    (bif decide ((0 : Int) ≤ a5 ∧ a5 < (a6.length : Int)) then
    (let v8 : Int := (nthI a6 a5 (0 : Int))
    (bif (v8 != a3) then
    (e3_0 v8 a3)
    else
    (G.cmp.Or_int_l0 m e3_0 e3_1 a3 a4 (IntKind.wrap .i64 (a5 + 1)) a6)))
    else
    none)
    else
    (e3_1 a3))
noncomputable def G.cmp.Or_int (a1 : List Int) : Option Int :=
(G.cmp.Or_int_l0 fu (fun y10 y11 =>
(some y10)) (fun y12 =>
(some y12)) 0 (a1.length : Int) 0 a1)
noncomputable def H80_3 : LoopH := ⟨⟨(hu 3 (hh :: (hu 2 ((.one (.sl 0)) :: hh :: hh :: (hu 9 []))))), [], [(3, (.int .i64), .ro)]⟩, ([0, 1, 2, 4, 5] ++ rg 9 9), [], ([0, 1] ++ rg 4 14), [], []⟩
noncomputable def E80_3 (m : Nat) (ps : List Prm) (k : Kont Int) : Option Int :=
  match ps with
  | [.v (.int .i64 a3), .v (.int .i64 a4), .v (.int .i64 a5), .row (.int .i64) a6] => G.cmp.Or_int_l0 m (fun z16 z17 => k .ret (⟨(vu 2 ((vi z16) :: (vi z17) :: (vu 14 []))), [], []⟩ : St)) (fun z18 => k (.exit 0) (⟨(vu 3 ((vi z18) :: (vu 14 []))), [], []⟩ : St)) a3 a4 a5 a6
  | _ => none
noncomputable def S80_3 (a3 a4 a5 : Int) (a6 : List Int) : St := (⟨(vu 3 ((vi a3) :: (vu 2 ((vl 0) :: (vi a4) :: (vi a5) :: (vu 9 []))))), [], [⟨3, (.int .i64), a6, .ro⟩]⟩ : St)
theorem ev80_3 (m : Nat) (k : Kont Int) (a3 a4 a5 : Int) (a6 : List Int) : evC Try.prog G80 loopNil c80_3 (S80_3 a3 a4 a5 a6) (turn Try.prog (0, 0) H80_3 (E80_3 m) k) = E80_3 (m + 1) ([.v (.int .i64 a3), .v (.int .i64 a4), .v (.int .i64 a5), .row (.int .i64) a6]) k := by kernel_rfl
theorem ok80_3 (m : Nat) : LoopOk Try.prog (0, 0) c80_3 (enter Try.prog (0, 0) H80_3 (E80_3 m)) := by
  refine loop_ok (G := G80) (L := loopNil) envNil_good (no_loops (c := c80_3) (by kernel_rfl)) (fun ps k => by unfold E80_3; split <;> rfl) (fun m ps k r h => ?_) m
  have h0 := h
  unfold E80_3 at h
  split at h
  · exact ⟨S80_3 _ _ _ _, by kernel_rfl, (ev80_3 m k _ _ _ _).trans h0⟩
  · cases h
noncomputable def L80 : LEnv Int := (loopCons 3 (enter Try.prog (0, 0) H80_3 (E80_3 fu)) loopNil)
theorem lq80 : loopsOf c80 = [c80_3] := by kernel_rfl
theorem fr80_3 : firstReg c80_3 = some 3 := by kernel_rfl
theorem le80_3 : L80 3 = enter Try.prog (0, 0) H80_3 (E80_3 fu) := by kernel_rfl
theorem lm80 : ∀ x ∈ [c80_3], ∀ id, firstReg x = some id → LoopOk Try.prog (0, 0) x (L80 id) := (loops_cons fr80_3 le80_3 (ok80_3 fu) loops_nil)
theorem lp80 : ∀ x ∈ loopsOf c80, ∀ id, firstReg x = some id → LoopOk Try.prog (0, 0) x (L80 id) := loops_eq lq80 lm80
noncomputable def R80 (x : Int) : Res := ⟨[.one (ai x)], [], []⟩
noncomputable def K80 (r : Res) : Option Int :=
  match r with
  | ⟨[.one (.val (.int .i64 v1))], [], []⟩ => some (v1)
  | _ => none
noncomputable def E80 : Fun2 := fun args bs rs =>
  match args, bs, rs with
  | [.s1 (.one (.sl 0))], [], [⟨3, (.int .i64), a1, .ro⟩] => some ⟨Int, G.cmp.Or_int a1, R80⟩
  | _, _, _ => none
theorem ev80 (a1 : List Int) : evF Try.prog G80 L80 (0, 0) [] Try.f80 c80 [vl 0] [] [⟨3, (.int .i64), a1, .ro⟩] K80 = G.cmp.Or_int a1 := by kernel_rfl
theorem good80 : Vm.Good Try.prog 80 E80 := by
  refine evF_good (G := G80) (c := c80) envNil_good Try.func80 (by kernel_rfl) (by kernel_rfl) (0, 0) (fun args bs rs out t h h2 => ?_)
  unfold E80 at h
  split at h
  · injection h with h
    subst h
    exact ⟨rfl, [], L80, K80, lp80, (fun r t h => by unfold K80 at h; split at h; (injection h with h; subst h; rfl); cases h), (ev80 _).trans h2⟩
  · cases h
/-! ### I.WideCmp -/
noncomputable def G117 : Env := (envCons 81 [] E81 (envCons 136 [] E136 (envCons 80 [] E80 envNil)))
noncomputable def c117 : Code := bodyOf Try.f117
noncomputable def I.WideCmp (a1 a2 a3 a4 : Int) : Option Int :=
(Option.bind (G.cmp.Compare_int a1 a3) fun r5 =>
(Option.bind (G.cmp.Compare_uint64 a2 a4) fun r6 =>
(Option.bind (G.cmp.Or_int [r5, r6]) fun r7 =>
(some r7))))
noncomputable def R117 (x : Int) : Res := ⟨[.one (ai x)], [], []⟩
noncomputable def K117 (r : Res) : Option Int :=
  match r with
  | ⟨[.one (.val (.int .i64 v1))], [], []⟩ => some (v1)
  | _ => none
noncomputable def E117 : Fun2 := fun args bs rs =>
  match args, bs, rs with
  | [.s1 (.agg [.val (.int .i64 a1), .val (.int .u64 a2)]), .s1 (.agg [.val (.int .i64 a3), .val (.int .u64 a4)])], [], [] => some ⟨Int, I.WideCmp a1 a2 a3 a4, R117⟩
  | _, _, _ => none
theorem ev117 (a1 a2 a3 a4 : Int) : evF Try.prog G117 loopNil (0, 0) [] Try.f117 c117 [.s1 (.agg [ai a1, ak .u64 a2]), .s1 (.agg [ai a3, ak .u64 a4])] [] [] K117 = I.WideCmp a1 a2 a3 a4 := by kernel_rfl
theorem good117 : Vm.Good Try.prog 117 E117 := by
  refine evF_good (G := G117) (c := c117) (envCons_good good81 (envCons_good good136 (envCons_good good80 envNil_good))) Try.func117 (by kernel_rfl) (by kernel_rfl) (0, 0) (fun args bs rs out t h h2 => ?_)
  unfold E117 at h
  split at h
  · injection h with h
    subst h
    exact ⟨rfl, [], loopNil, K117, (no_loops (c := c117) (by kernel_rfl)), (fun r t h => by unfold K117 at h; split at h; (injection h with h; subst h; rfl); cases h), (ev117 _ _ _ _).trans h2⟩
  · cases h
/-! ### I.isAgg -/
noncomputable def G70 : Env := (envCons 89 [] E89 (envCons 116 [] E116 (envCons 115 [] E115 (envCons 114 [] E114 (envCons 118 [] E118 (envCons 117 [] E117 envNil))))))
noncomputable def c70 : Code := bodyOf Try.f70
noncomputable def c70_7 : Code := (loopsOf c70).getD 0 .skip
noncomputable def I.isAgg_l0 : Nat → (Bool → Int → Int → Int → Int → Int → Int → Int → List Int → Option Bool) → (Int → Int → Int → Int → Int → Int → Int → List Int → Option Bool) → Int → Int → Int → Int → Int → Int → Int → Int → Int → List Int → Option Bool
  | 0, _, _, _, _, _, _, _, _, _, _, _, _ => none
  | m + 1, e7_0, e7_1, a14, a15, a16, a17, a18, a19, a20, a21, a22, a23 =>
    (bif (decide (a15 < a14)) then
    (bif decide ((0 : Int) ≤ a15 ∧ a15 < (a23.length : Int)) then
    (let v25 : Int := (nthI a23 a15 (0 : Int))
    (bif (decide (0 < a15)) then
    (let v27 : Int := (IntKind.wrap .i64 (a15 - 1))
    (bif decide ((0 : Int) ≤ v27 ∧ v27 < (a23.length : Int)) then
    (bif (decide ((nthI a23 v27 (0 : Int)) < v25)) then
    (e7_0 false a16 a17 a18 a19 a20 a21 a22 a23)
    else
    (Option.bind (I.WideOf v25) fun r29 =>
    (Option.bind (I.WideNeg r29.1 r29.2) fun r30 =>
    (Option.bind (I.WideAdd a21 a22 r30.1 r30.2) fun r31 =>
    (I.isAgg_l0 m e7_0 e7_1 a14 (IntKind.wrap .i64 (a15 + 1)) a16 a17 a18 a19 a20 r31.1 r31.2 a23)))))
    else
    none))
    else
    (Option.bind (I.WideOf v25) fun r33 =>
    (Option.bind (I.WideNeg r33.1 r33.2) fun r34 =>
    (Option.bind (I.WideAdd a21 a22 r34.1 r34.2) fun r35 =>
    (I.isAgg_l0 m e7_0 e7_1 a14 (IntKind.wrap .i64 (a15 + 1)) a16 a17 a18 a19 a20 r35.1 r35.2 a23))))))
    else
    none)
    else
    (e7_1 a16 a17 a18 a19 a20 a21 a22 a23))
noncomputable def I.isAgg (a1 a2 a3 a4 a5 : Int) (a6 : List Int) : Option Bool :=
(bif (a1 == 0) then
(bif ((a2 == 0) && ((a3 == 0) && true)) then
(bif (a4 == 0) then
(bif (a5 == 0) then
(some ((a6.length : Int) == 0))
else
(some false))
else
(some false))
else
(some false))
else
(Option.bind (I.in a1 1 1000000) fun r9 =>
(bif (!r9) then
(some false)
else
(bif ((a6.length : Int) != (if 4 < a1 then 4 else a1)) then
(some false)
else
(bif decide ((0 : Int) ≤ 0 ∧ 0 < (a6.length : Int)) then
(bif ((nthI a6 0 (0 : Int)) != a5) then
(some false)
else
(I.isAgg_l0 fu (fun y37 y38 y39 y40 y41 y42 y43 y44 y45 =>
(some y37)) (fun y46 y47 y48 y49 y50 y51 y52 y53 =>
(let v55 : Int := (IntKind.wrap .i64 ((y53.length : Int) - 1))
(bif decide ((0 : Int) ≤ v55 ∧ v55 < (y53.length : Int)) then
(let v56 : Int := (nthI y53 v55 (0 : Int))
(bif (decide (y46 ≤ 4)) then
(bif (y49 == v56) then
(some ((y51 == 0) && ((y52 == 0) && true)))
else
(some false))
else
(let v60 : Int := (IntKind.wrap .i64 ((IntKind.wrap .i64 (y46 - 4)) - 1))
(Option.bind (I.WideOf y49) fun r61 =>
(Option.bind (I.WideNeg r61.1 r61.2) fun r62 =>
(Option.bind (I.WideAdd y51 y52 r62.1 r62.2) fun r63 =>
(bif (decide (y49 ≤ v56)) then
(Option.bind (I.wideTimes y49 v60) fun r65 =>
(Option.bind (I.WideCmp r65.1 r65.2 r63.1 r63.2) fun r66 =>
(bif (decide (r66 ≤ 0)) then
(Option.bind (I.wideTimes v56 v60) fun r68 =>
(Option.bind (I.WideCmp r63.1 r63.2 r68.1 r68.2) fun r69 =>
(some (decide (r69 ≤ 0)))))
else
(some false))))
else
(some false))))))))
else
none))) (a6.length : Int) 0 a1 a2 a3 a4 a5 a2 a3 a6))
else
none)))))
noncomputable def H70_7 : LoopH := ⟨⟨((.one (.unk)) :: (.one (.ptr 0 0)) :: (.one (.unk)) :: (.one (.ptr 1 0)) :: (hu 52 ((.one (.sl 0)) :: hh :: hh :: (hu 73 [])))), [(73, [.hole, .hole, .hole, .hole, .hole, .sl 0]), (71, [.hole, .hole])], [(3, (.int .i64), .ro)]⟩, ([0, 2] ++ rg 4 52 ++ rg 59 73), [], ([0] ++ rg 4 128), [], []⟩
noncomputable def E70_7 (m : Nat) (ps : List Prm) (k : Kont Bool) : Option Bool :=
  match ps with
  | [.v (.int .i64 a14), .v (.int .i64 a15), .v (.int .i64 a16), .v (.int .i64 a17), .v (.int .u64 a18), .v (.int .i64 a19), .v (.int .i64 a20), .v (.int .i64 a21), .v (.int .u64 a22), .row (.int .i64) a23] => I.isAgg_l0 m (fun z88 z89 z90 z91 z92 z93 z94 z95 z96 => k .ret (⟨((.s1 (.one (.unk))) :: (vp 0 0) :: (vb z88) :: (vp 1 0) :: (vu 128 [])), [(73, [ai z89, ai z90, ak .u64 z91, ai z92, ai z93, .sl 0]), (71, [ai z94, ak .u64 z95])], [⟨3, (.int .i64), z96, .ro⟩]⟩ : St)) (fun z97 z98 z99 z100 z101 z102 z103 z104 => k (.exit 0) (⟨((.s1 (.one (.unk))) :: (vp 0 0) :: (.s1 (.one (.unk))) :: (vp 1 0) :: (vu 128 [])), [(73, [ai z97, ai z98, ak .u64 z99, ai z100, ai z101, .sl 0]), (71, [ai z102, ak .u64 z103])], [⟨3, (.int .i64), z104, .ro⟩]⟩ : St)) a14 a15 a16 a17 a18 a19 a20 a21 a22 a23
  | _ => none
noncomputable def S70_7 (a14 a15 a16 a17 a18 a19 a20 a21 a22 : Int) (a23 : List Int) : St := (⟨((.s1 (.one (.unk))) :: (vp 0 0) :: (.s1 (.one (.unk))) :: (vp 1 0) :: (vu 52 ((vl 0) :: (vi a14) :: (vi a15) :: (vu 73 [])))), [(73, [ai a16, ai a17, ak .u64 a18, ai a19, ai a20, .sl 0]), (71, [ai a21, ak .u64 a22])], [⟨3, (.int .i64), a23, .ro⟩]⟩ : St)
theorem ev70_7 (m : Nat) (k : Kont Bool) (a14 a15 a16 a17 a18 a19 a20 a21 a22 : Int) (a23 : List Int) : evC Try.prog G70 loopNil c70_7 (S70_7 a14 a15 a16 a17 a18 a19 a20 a21 a22 a23) (turn Try.prog (0, 0) H70_7 (E70_7 m) k) = E70_7 (m + 1) ([.v (.int .i64 a14), .v (.int .i64 a15), .v (.int .i64 a16), .v (.int .i64 a17), .v (.int .u64 a18), .v (.int .i64 a19), .v (.int .i64 a20), .v (.int .i64 a21), .v (.int .u64 a22), .row (.int .i64) a23]) k := by kernel_rfl
theorem ok70_7 (m : Nat) : LoopOk Try.prog (0, 0) c70_7 (enter Try.prog (0, 0) H70_7 (E70_7 m)) := by
  refine loop_ok (G := G70) (L := loopNil) (envCons_good good89 (envCons_good good116 (envCons_good good115 (envCons_good good114 (envCons_good good118 (envCons_good good117 envNil_good)))))) (no_loops (c := c70_7) (by kernel_rfl)) (fun ps k => by unfold E70_7; split <;> rfl) (fun m ps k r h => ?_) m
  have h0 := h
  unfold E70_7 at h
  split at h
  · exact ⟨S70_7 _ _ _ _ _ _ _ _ _ _, by kernel_rfl, (ev70_7 m k _ _ _ _ _ _ _ _ _ _).trans h0⟩
  · cases h
noncomputable def L70 : LEnv Bool := (loopCons 7 (enter Try.prog (0, 0) H70_7 (E70_7 fu)) loopNil)
theorem lq70 : loopsOf c70 = [c70_7] := by kernel_rfl
theorem fr70_7 : firstReg c70_7 = some 7 := by kernel_rfl
theorem le70_7 : L70 7 = enter Try.prog (0, 0) H70_7 (E70_7 fu) := by kernel_rfl
theorem lm70 : ∀ x ∈ [c70_7], ∀ id, firstReg x = some id → LoopOk Try.prog (0, 0) x (L70 id) := (loops_cons fr70_7 le70_7 (ok70_7 fu) loops_nil)
theorem lp70 : ∀ x ∈ loopsOf c70, ∀ id, firstReg x = some id → LoopOk Try.prog (0, 0) x (L70 id) := loops_eq lq70 lm70
noncomputable def R70 (x : Bool) : Res := ⟨[.one (ab x)], [], []⟩
noncomputable def K70 (r : Res) : Option Bool :=
  match r with
  | ⟨[.one (.val (.bool v1))], [], []⟩ => some (v1)
  | _ => none
noncomputable def E70 : Fun2 := fun args bs rs =>
  match args, bs, rs with
  | [.s1 (.agg [.val (.int .i64 a1), .val (.int .i64 a2), .val (.int .u64 a3), .val (.int .i64 a4), .val (.int .i64 a5), .sl 0])], [], [⟨3, (.int .i64), a6, .ro⟩] => some ⟨Bool, I.isAgg a1 a2 a3 a4 a5 a6, R70⟩
  | _, _, _ => none
theorem ev70 (a1 a2 a3 a4 a5 : Int) (a6 : List Int) : evF Try.prog G70 L70 (0, 0) [] Try.f70 c70 [.s1 (.agg [ai a1, ai a2, ak .u64 a3, ai a4, ai a5, .sl 0])] [] [⟨3, (.int .i64), a6, .ro⟩] K70 = I.isAgg a1 a2 a3 a4 a5 a6 := by kernel_rfl
theorem good70 : Vm.Good Try.prog 70 E70 := by
  refine evF_good (G := G70) (c := c70) (envCons_good good89 (envCons_good good116 (envCons_good good115 (envCons_good good114 (envCons_good good118 (envCons_good good117 envNil_good)))))) Try.func70 (by kernel_rfl) (by kernel_rfl) (0, 0) (fun args bs rs out t h h2 => ?_)
  unfold E70 at h
  split at h
  · injection h with h
    subst h
    exact ⟨rfl, [], L70, K70, lp70, (fun r t h => by unfold K70 at h; split at h; (injection h with h; subst h; rfl); cases h), (ev70 _ _ _ _ _ _).trans h2⟩
  · cases h
/-! ### I.WideInt -/
noncomputable def G138 : Env := (envCons 116 [] E116 envNil)
noncomputable def c138 : Code := bodyOf Try.f138
noncomputable def I.WideInt (a1 a2 : Int) : Option (Int × Bool) :=
(let v3 : Int := (IntKind.wrap .i64 a2)
(Option.bind (I.WideOf v3) fun r4 =>
(bif ((r4.1 == a1) && ((r4.2 == a2) && true)) then
(some (v3, true))
else
(some (0, false)))))
noncomputable def R138 (x : Int × Bool) : Res := ⟨[.one (ai x.1), .one (ab x.2)], [], []⟩
noncomputable def K138 (r : Res) : Option (Int × Bool) :=
  match r with
  | ⟨[.one (.val (.int .i64 v1)), .one (.val (.bool v2))], [], []⟩ => some (v1, v2)
  | _ => none
noncomputable def E138 : Fun2 := fun args bs rs =>
  match args, bs, rs with
  | [.s1 (.agg [.val (.int .i64 a1), .val (.int .u64 a2)])], [], [] => some ⟨Int × Bool, I.WideInt a1 a2, R138⟩
  | _, _, _ => none
theorem ev138 (a1 a2 : Int) : evF Try.prog G138 loopNil (0, 0) [] Try.f138 c138 [.s1 (.agg [ai a1, ak .u64 a2])] [] [] K138 = I.WideInt a1 a2 := by kernel_rfl
theorem good138 : Vm.Good Try.prog 138 E138 := by
  refine evF_good (G := G138) (c := c138) (envCons_good good116 envNil_good) Try.func138 (by kernel_rfl) (by kernel_rfl) (0, 0) (fun args bs rs out t h h2 => ?_)
  unfold E138 at h
  split at h
  · injection h with h
    subst h
    exact ⟨rfl, [], loopNil, K138, (no_loops (c := c138) (by kernel_rfl)), (fun r t h => by unfold K138 at h; split at h; (injection h with h; subst h; rfl); cases h), (ev138 _ _).trans h2⟩
  · cases h
/-! ### I.Wide_size -/
noncomputable def G144 : Env := (envCons 115 [] E115 envNil)
noncomputable def c144 : Code := bodyOf Try.f144
noncomputable def I.Wide_size (a1 a2 : Int) : Option (Int × Int) :=
(bif (decide (a1 < 0)) then
(Option.bind (I.WideNeg a1 a2) fun r4 =>
(some ((IntKind.wrap .u64 r4.1), r4.2)))
else
(some ((IntKind.wrap .u64 a1), a2)))
noncomputable def R144 (x : Int × Int) : Res := ⟨[.one (ak .u64 x.1), .one (ak .u64 x.2)], [], []⟩
noncomputable def K144 (r : Res) : Option (Int × Int) :=
  match r with
  | ⟨[.one (.val (.int .u64 v1)), .one (.val (.int .u64 v2))], [], []⟩ => some (v1, v2)
  | _ => none
noncomputable def E144 : Fun2 := fun args bs rs =>
  match args, bs, rs with
  | [.s1 (.agg [.val (.int .i64 a1), .val (.int .u64 a2)])], [], [] => some ⟨Int × Int, I.Wide_size a1 a2, R144⟩
  | _, _, _ => none
theorem ev144 (a1 a2 : Int) : evF Try.prog G144 loopNil (0, 0) [] Try.f144 c144 [.s1 (.agg [ai a1, ak .u64 a2])] [] [] K144 = I.Wide_size a1 a2 := by kernel_rfl
theorem good144 : Vm.Good Try.prog 144 E144 := by
  refine evF_good (G := G144) (c := c144) (envCons_good good115 envNil_good) Try.func144 (by kernel_rfl) (by kernel_rfl) (0, 0) (fun args bs rs out t h h2 => ?_)
  unfold E144 at h
  split at h
  · injection h with h
    subst h
    exact ⟨rfl, [], loopNil, K144, (no_loops (c := c144) (by kernel_rfl)), (fun r t h => by unfold K144 at h; split at h; (injection h with h; subst h; rfl); cases h), (ev144 _ _).trans h2⟩
  · cases h
/-! ### G.bits.Len64 -/
noncomputable def G148 : Env := envNil
noncomputable def c148 : Code := bodyOf Try.f148
noncomputable def G.bits.Len64 (a1 : Int) : Option Int :=
(bif (decide (4294967296 ≤ a1)) then
(bif decide ((0 : Int) ≤ 32) then
(let v3 : Int := (Int.fdiv a1 (2 ^ min (Int.toNat 32) (IntKind.bits .u64)))
(bif (decide (65536 ≤ v3)) then
(bif decide ((0 : Int) ≤ 16) then
(let v5 : Int := (Int.fdiv v3 (2 ^ min (Int.toNat 16) (IntKind.bits .u64)))
(let v6 : Int := (IntKind.wrap .i64 (32 + 16))
(bif (decide (256 ≤ v5)) then
(bif decide ((0 : Int) ≤ 8) then
(let v10 : Int := (IntKind.wrap .u8 (Int.fdiv v5 (2 ^ min (Int.toNat 8) (IntKind.bits .u64))))
(bif decide ((0 : Int) ≤ v10 ∧ v10 < (lit0.size : Int)) then
(some (IntKind.wrap .i64 ((IntKind.wrap .i64 (v6 + 8)) + (IntKind.wrap .i64 (byteAt lit0 v10)))))
else
none))
else
none)
else
(let v14 : Int := (IntKind.wrap .u8 v5)
(bif decide ((0 : Int) ≤ v14 ∧ v14 < (lit0.size : Int)) then
(some (IntKind.wrap .i64 (v6 + (IntKind.wrap .i64 (byteAt lit0 v14)))))
else
none)))))
else
none)
else
(bif (decide (256 ≤ v3)) then
(bif decide ((0 : Int) ≤ 8) then
(let v21 : Int := (IntKind.wrap .u8 (Int.fdiv v3 (2 ^ min (Int.toNat 8) (IntKind.bits .u64))))
(bif decide ((0 : Int) ≤ v21 ∧ v21 < (lit0.size : Int)) then
(some (IntKind.wrap .i64 ((IntKind.wrap .i64 (32 + 8)) + (IntKind.wrap .i64 (byteAt lit0 v21)))))
else
none))
else
none)
else
(let v25 : Int := (IntKind.wrap .u8 v3)
(bif decide ((0 : Int) ≤ v25 ∧ v25 < (lit0.size : Int)) then
(some (IntKind.wrap .i64 (32 + (IntKind.wrap .i64 (byteAt lit0 v25)))))
else
none)))))
else
none)
else
(bif (decide (65536 ≤ a1)) then
(bif decide ((0 : Int) ≤ 16) then
(let v30 : Int := (Int.fdiv a1 (2 ^ min (Int.toNat 16) (IntKind.bits .u64)))
(let v31 : Int := (IntKind.wrap .i64 (0 + 16))
(bif (decide (256 ≤ v30)) then
(bif decide ((0 : Int) ≤ 8) then
(let v35 : Int := (IntKind.wrap .u8 (Int.fdiv v30 (2 ^ min (Int.toNat 8) (IntKind.bits .u64))))
(bif decide ((0 : Int) ≤ v35 ∧ v35 < (lit0.size : Int)) then
(some (IntKind.wrap .i64 ((IntKind.wrap .i64 (v31 + 8)) + (IntKind.wrap .i64 (byteAt lit0 v35)))))
else
none))
else
none)
else
(let v39 : Int := (IntKind.wrap .u8 v30)
(bif decide ((0 : Int) ≤ v39 ∧ v39 < (lit0.size : Int)) then
(some (IntKind.wrap .i64 (v31 + (IntKind.wrap .i64 (byteAt lit0 v39)))))
else
none)))))
else
none)
else
(bif (decide (256 ≤ a1)) then
(bif decide ((0 : Int) ≤ 8) then
(let v46 : Int := (IntKind.wrap .u8 (Int.fdiv a1 (2 ^ min (Int.toNat 8) (IntKind.bits .u64))))
(bif decide ((0 : Int) ≤ v46 ∧ v46 < (lit0.size : Int)) then
(some (IntKind.wrap .i64 ((IntKind.wrap .i64 (0 + 8)) + (IntKind.wrap .i64 (byteAt lit0 v46)))))
else
none))
else
none)
else
(let v50 : Int := (IntKind.wrap .u8 a1)
(bif decide ((0 : Int) ≤ v50 ∧ v50 < (lit0.size : Int)) then
(some (IntKind.wrap .i64 (0 + (IntKind.wrap .i64 (byteAt lit0 v50)))))
else
none)))))
noncomputable def R148 (x : Int) : Res := ⟨[.one (ai x)], [], []⟩
noncomputable def K148 (r : Res) : Option Int :=
  match r with
  | ⟨[.one (.val (.int .i64 v1))], [], []⟩ => some (v1)
  | _ => none
noncomputable def E148 : Fun2 := fun args bs rs =>
  match args, bs, rs with
  | [.s1 (.one (.val (.int .u64 a1)))], [], [] => some ⟨Int, G.bits.Len64 a1, R148⟩
  | _, _, _ => none
theorem ev148 (a1 : Int) : evF Try.prog G148 loopNil (0, 0) [] Try.f148 c148 [vk .u64 a1] [] [] K148 = G.bits.Len64 a1 := by kernel_rfl
theorem good148 : Vm.Good Try.prog 148 E148 := by
  refine evF_good (G := G148) (c := c148) envNil_good Try.func148 (by kernel_rfl) (by kernel_rfl) (0, 0) (fun args bs rs out t h h2 => ?_)
  unfold E148 at h
  split at h
  · injection h with h
    subst h
    exact ⟨rfl, [], loopNil, K148, (no_loops (c := c148) (by kernel_rfl)), (fun r t h => by unfold K148 at h; split at h; (injection h with h; subst h; rfl); cases h), (ev148 _).trans h2⟩
  · cases h
/-! ### G.bits.LeadingZeros64 -/
noncomputable def G147 : Env := (envCons 148 [] E148 envNil)
noncomputable def c147 : Code := bodyOf Try.f147
noncomputable def G.bits.LeadingZeros64 (a1 : Int) : Option Int :=
(Option.bind (G.bits.Len64 a1) fun r2 =>
(some (IntKind.wrap .i64 (64 - r2))))
noncomputable def R147 (x : Int) : Res := ⟨[.one (ai x)], [], []⟩
noncomputable def K147 (r : Res) : Option Int :=
  match r with
  | ⟨[.one (.val (.int .i64 v1))], [], []⟩ => some (v1)
  | _ => none
noncomputable def E147 : Fun2 := fun args bs rs =>
  match args, bs, rs with
  | [.s1 (.one (.val (.int .u64 a1)))], [], [] => some ⟨Int, G.bits.LeadingZeros64 a1, R147⟩
  | _, _, _ => none
theorem ev147 (a1 : Int) : evF Try.prog G147 loopNil (0, 0) [] Try.f147 c147 [vk .u64 a1] [] [] K147 = G.bits.LeadingZeros64 a1 := by kernel_rfl
theorem good147 : Vm.Good Try.prog 147 E147 := by
  refine evF_good (G := G147) (c := c147) (envCons_good good148 envNil_good) Try.func147 (by kernel_rfl) (by kernel_rfl) (0, 0) (fun args bs rs out t h h2 => ?_)
  unfold E147 at h
  split at h
  · injection h with h
    subst h
    exact ⟨rfl, [], loopNil, K147, (no_loops (c := c147) (by kernel_rfl)), (fun r t h => by unfold K147 at h; split at h; (injection h with h; subst h; rfl); cases h), (ev147 _).trans h2⟩
  · cases h
/-! ### G.bits.Div64 -/
noncomputable def G145 : Env := (envCons 147 [] E147 envNil)
noncomputable def c145 : Code := bodyOf Try.f145
noncomputable def c145_17 : Code := (loopsOf c145).getD 0 .skip
noncomputable def c145_24 : Code := (loopsOf c145).getD 1 .skip
noncomputable def G.bits.Div64_l0 : Nat → (Int → Int → Int → Int → Int → Int → Int → Int → Option (Int × Int)) → Int → Int → Int → Int → Int → Int → Int → Int → Int → Option (Int × Int)
  | 0, _, _, _, _, _, _, _, _, _, _ => none
  | m + 1, e17_0, a22, a23, a24, a25, a26, a27, a28, a29, a30 =>
    (bif (decide (4294967296 ≤ a29)) then
    (let v32 : Int := (IntKind.wrap .u64 (a29 - 1))
    (let v33 : Int := (IntKind.wrap .u64 (a30 + a24))
    (bif (decide (4294967296 ≤ v33)) then
    (e17_0 a22 a23 a24 a25 a26 a27 a28 v32)
    else
    (G.bits.Div64_l0 m e17_0 a22 a23 a24 a25 a26 a27 a28 v32 v33))))
    else
    (bif (decide ((IntKind.wrap .u64 ((IntKind.wrap .u64 (4294967296 * a30)) + a27)) < (IntKind.wrap .u64 (a29 * a25)))) then
    (let v39 : Int := (IntKind.wrap .u64 (a29 - 1))
    (let v40 : Int := (IntKind.wrap .u64 (a30 + a24))
    (bif (decide (4294967296 ≤ v40)) then
    (e17_0 a22 a23 a24 a25 a26 a27 a28 v39)
    else
    (G.bits.Div64_l0 m e17_0 a22 a23 a24 a25 a26 a27 a28 v39 v40))))
    else
    (e17_0 a22 a23 a24 a25 a26 a27 a28 a29)))
noncomputable def G.bits.Div64_l1 : Nat → (Int → Int → Int → Int → Int → Int → Option (Int × Int)) → Int → Int → Int → Int → Int → Int → Int → Int → Int → Option (Int × Int)
  | 0, _, _, _, _, _, _, _, _, _, _ => none
  | m + 1, e24_0, a57, a58, a59, a60, a61, a62, a63, a64, a65 =>
    (bif (decide (4294967296 ≤ a65)) then
    (let v67 : Int := (IntKind.wrap .u64 (a65 - 1))
    (let v68 : Int := (IntKind.wrap .u64 (a63 + a59))
    (bif (decide (4294967296 ≤ v68)) then
    (e24_0 a57 a58 a61 a62 a64 v67)
    else
    (G.bits.Div64_l1 m e24_0 a57 a58 a59 a60 a61 a62 v68 a64 v67))))
    else
    (bif (decide ((IntKind.wrap .u64 ((IntKind.wrap .u64 (4294967296 * a63)) + a61)) < (IntKind.wrap .u64 (a65 * a60)))) then
    (let v74 : Int := (IntKind.wrap .u64 (a65 - 1))
    (let v75 : Int := (IntKind.wrap .u64 (a63 + a59))
    (bif (decide (4294967296 ≤ v75)) then
    (e24_0 a57 a58 a61 a62 a64 v74)
    else
    (G.bits.Div64_l1 m e24_0 a57 a58 a59 a60 a61 a62 v75 a64 v74))))
    else
    (e24_0 a57 a58 a61 a62 a64 a65)))
noncomputable def G.bits.Div64 (a1 a2 a3 : Int) : Option (Int × Int) :=
(bif (a3 == 0) then
none
else
(bif (decide (a3 ≤ a1)) then
none
else
(bif (a1 == 0) then
(bif decide (a3 = 0) then
none
else
(bif decide (a3 = 0) then
none
else
(some ((IntKind.wrap .u64 (Int.tdiv a2 a3)), (Int.tmod a2 a3)))))
else
(Option.bind (G.bits.LeadingZeros64 a3) fun r7 =>
(let v8 : Int := (IntKind.wrap .u64 r7)
(bif decide ((0 : Int) ≤ v8) then
(let v9 : Int := (IntKind.wrap .u64 (a3 * 2 ^ min (Int.toNat v8) (IntKind.bits .u64)))
(bif decide ((0 : Int) ≤ 32) then
(let v10 : Int := (Int.fdiv v9 (2 ^ min (Int.toNat 32) (IntKind.bits .u64)))
(bif decide ((0 : Int) ≤ v8) then
(let v12 : Int := (IntKind.wrap .u64 (a1 * 2 ^ min (Int.toNat v8) (IntKind.bits .u64)))
(let v13 : Int := (IntKind.wrap .u64 (64 - v8))
(bif decide ((0 : Int) ≤ v13) then
(let v15 : Int := (Go.bits .or .u64 v12 (Int.fdiv a2 (2 ^ min (Int.toNat v13) (IntKind.bits .u64))))
(bif decide ((0 : Int) ≤ v8) then
(let v16 : Int := (IntKind.wrap .u64 (a2 * 2 ^ min (Int.toNat v8) (IntKind.bits .u64)))
(bif decide ((0 : Int) ≤ 32) then
(bif decide (v10 = 0) then
none
else
(let v19 : Int := (IntKind.wrap .u64 (Int.tdiv v15 v10))
(G.bits.Div64_l0 fu (fun y42 y43 y44 y45 y46 y47 y48 y49 =>
(let v53 : Int := (IntKind.wrap .u64 ((IntKind.wrap .u64 ((IntKind.wrap .u64 (y46 * 4294967296)) + y47)) - (IntKind.wrap .u64 (y49 * y42))))
(bif decide (y44 = 0) then
none
else
(let v54 : Int := (IntKind.wrap .u64 (Int.tdiv v53 y44))
(G.bits.Div64_l1 fu (fun y77 y78 y79 y80 y81 y82 =>
(bif decide ((0 : Int) ≤ y78) then
(some ((IntKind.wrap .u64 ((IntKind.wrap .u64 (y80 * 4294967296)) + y82)), (Int.fdiv (IntKind.wrap .u64 ((IntKind.wrap .u64 ((IntKind.wrap .u64 (y81 * 4294967296)) + y79)) - (IntKind.wrap .u64 (y82 * y77)))) (2 ^ min (Int.toNat y78) (IntKind.bits .u64)))))
else
none)) y42 y43 y44 y45 y48 y49 (IntKind.wrap .u64 (v53 - (IntKind.wrap .u64 (v54 * y44)))) v53 v54))))) v9 v8 v10 (Go.bits .and .u64 v9 4294967295) v15 (Int.fdiv v16 (2 ^ min (Int.toNat 32) (IntKind.bits .u64))) (Go.bits .and .u64 v16 4294967295) v19 (IntKind.wrap .u64 (v15 - (IntKind.wrap .u64 (v19 * v10)))))))
else
none))
else
none))
else
none)))
else
none))
else
none))
else
none))))))
noncomputable def H145_17 : LoopH := ⟨⟨(hu 2 (hh :: (hu 5 (hh :: hh :: hh :: hh :: (.one (.unk)) :: hh :: hh :: hh :: hh :: (hu 118 []))))), [], []⟩, ([0, 1] ++ rg 3 5 ++ [12] ++ rg 17 118), [], ([0, 1, 3, 4, 5, 12] ++ rg 16 119), [], []⟩
noncomputable def E145_17 (m : Nat) (ps : List Prm) (k : Kont (Int × Int)) : Option (Int × Int) :=
  match ps with
  | [.v (.int .u64 a22), .v (.int .u64 a23), .v (.int .u64 a24), .v (.int .u64 a25), .v (.int .u64 a26), .v (.int .u64 a27), .v (.int .u64 a28), .v (.int .u64 a29), .v (.int .u64 a30)] => G.bits.Div64_l0 m (fun z104 z105 z106 z107 z108 z109 z110 z111 => k (.exit 0) (⟨(vu 2 ((vk .u64 z104) :: (vu 5 ((vk .u64 z105) :: (vk .u64 z106) :: (vk .u64 z107) :: (vk .u64 z108) :: (.s1 (.one (.unk))) :: (vk .u64 z109) :: (vk .u64 z110) :: (vk .u64 z111) :: (vu 119 []))))), [], []⟩ : St)) a22 a23 a24 a25 a26 a27 a28 a29 a30
  | _ => none
noncomputable def S145_17 (a22 a23 a24 a25 a26 a27 a28 a29 a30 : Int) : St := (⟨(vu 2 ((vk .u64 a22) :: (vu 5 ((vk .u64 a23) :: (vk .u64 a24) :: (vk .u64 a25) :: (vk .u64 a26) :: (.s1 (.one (.unk))) :: (vk .u64 a27) :: (vk .u64 a28) :: (vk .u64 a29) :: (vk .u64 a30) :: (vu 118 []))))), [], []⟩ : St)
theorem ev145_17 (m : Nat) (k : Kont (Int × Int)) (a22 a23 a24 a25 a26 a27 a28 a29 a30 : Int) : evC Try.prog G145 loopNil c145_17 (S145_17 a22 a23 a24 a25 a26 a27 a28 a29 a30) (turn Try.prog (0, 0) H145_17 (E145_17 m) k) = E145_17 (m + 1) ([.v (.int .u64 a22), .v (.int .u64 a23), .v (.int .u64 a24), .v (.int .u64 a25), .v (.int .u64 a26), .v (.int .u64 a27), .v (.int .u64 a28), .v (.int .u64 a29), .v (.int .u64 a30)]) k := by kernel_rfl
theorem ok145_17 (m : Nat) : LoopOk Try.prog (0, 0) c145_17 (enter Try.prog (0, 0) H145_17 (E145_17 m)) := by
  refine loop_ok (G := G145) (L := loopNil) (envCons_good good147 envNil_good) (no_loops (c := c145_17) (by kernel_rfl)) (fun ps k => by unfold E145_17; split <;> rfl) (fun m ps k r h => ?_) m
  have h0 := h
  unfold E145_17 at h
  split at h
  · exact ⟨S145_17 _ _ _ _ _ _ _ _ _, by kernel_rfl, (ev145_17 m k _ _ _ _ _ _ _ _ _).trans h0⟩
  · cases h
noncomputable def H145_24 : LoopH := ⟨⟨(hu 2 (hh :: (hu 5 (hh :: hh :: hh :: (hu 3 (hh :: hh :: hh :: hh :: hh :: (hu 116 []))))))), [], []⟩, ([0, 1] ++ rg 3 5 ++ [11, 12, 13] ++ rg 19 116), [], ([0, 1, 3, 4, 5] ++ rg 9 5 ++ [16] ++ rg 19 116), [], []⟩
noncomputable def E145_24 (m : Nat) (ps : List Prm) (k : Kont (Int × Int)) : Option (Int × Int) :=
  match ps with
  | [.v (.int .u64 a57), .v (.int .u64 a58), .v (.int .u64 a59), .v (.int .u64 a60), .v (.int .u64 a61), .v (.int .u64 a62), .v (.int .u64 a63), .v (.int .u64 a64), .v (.int .u64 a65)] => G.bits.Div64_l1 m (fun z112 z113 z114 z115 z116 z117 => k (.exit 2) (⟨(vu 2 ((vk .u64 z112) :: (vu 5 ((vk .u64 z113) :: (vu 5 ((vk .u64 z114) :: (vk .u64 z115) :: (.s1 (.one (.unk))) :: (vk .u64 z116) :: (vk .u64 z117) :: (vu 116 []))))))), [], []⟩ : St)) a57 a58 a59 a60 a61 a62 a63 a64 a65
  | _ => none
noncomputable def S145_24 (a57 a58 a59 a60 a61 a62 a63 a64 a65 : Int) : St := (⟨(vu 2 ((vk .u64 a57) :: (vu 5 ((vk .u64 a58) :: (vk .u64 a59) :: (vk .u64 a60) :: (vu 3 ((vk .u64 a61) :: (vk .u64 a62) :: (vk .u64 a63) :: (vk .u64 a64) :: (vk .u64 a65) :: (vu 116 []))))))), [], []⟩ : St)
theorem ev145_24 (m : Nat) (k : Kont (Int × Int)) (a57 a58 a59 a60 a61 a62 a63 a64 a65 : Int) : evC Try.prog G145 loopNil c145_24 (S145_24 a57 a58 a59 a60 a61 a62 a63 a64 a65) (turn Try.prog (0, 0) H145_24 (E145_24 m) k) = E145_24 (m + 1) ([.v (.int .u64 a57), .v (.int .u64 a58), .v (.int .u64 a59), .v (.int .u64 a60), .v (.int .u64 a61), .v (.int .u64 a62), .v (.int .u64 a63), .v (.int .u64 a64), .v (.int .u64 a65)]) k := by kernel_rfl
theorem ok145_24 (m : Nat) : LoopOk Try.prog (0, 0) c145_24 (enter Try.prog (0, 0) H145_24 (E145_24 m)) := by
  refine loop_ok (G := G145) (L := loopNil) (envCons_good good147 envNil_good) (no_loops (c := c145_24) (by kernel_rfl)) (fun ps k => by unfold E145_24; split <;> rfl) (fun m ps k r h => ?_) m
  have h0 := h
  unfold E145_24 at h
  split at h
  · exact ⟨S145_24 _ _ _ _ _ _ _ _ _, by kernel_rfl, (ev145_24 m k _ _ _ _ _ _ _ _ _).trans h0⟩
  · cases h
noncomputable def L145 : LEnv (Int × Int) := (loopCons 17 (enter Try.prog (0, 0) H145_17 (E145_17 fu)) (loopCons 24 (enter Try.prog (0, 0) H145_24 (E145_24 fu)) loopNil))
theorem lq145 : loopsOf c145 = [c145_17, c145_24] := by kernel_rfl
theorem fr145_17 : firstReg c145_17 = some 17 := by kernel_rfl
theorem le145_17 : L145 17 = enter Try.prog (0, 0) H145_17 (E145_17 fu) := by kernel_rfl
theorem fr145_24 : firstReg c145_24 = some 24 := by kernel_rfl
theorem le145_24 : L145 24 = enter Try.prog (0, 0) H145_24 (E145_24 fu) := by kernel_rfl
theorem lm145 : ∀ x ∈ [c145_17, c145_24], ∀ id, firstReg x = some id → LoopOk Try.prog (0, 0) x (L145 id) := (loops_cons fr145_17 le145_17 (ok145_17 fu) (loops_cons fr145_24 le145_24 (ok145_24 fu) loops_nil))
theorem lp145 : ∀ x ∈ loopsOf c145, ∀ id, firstReg x = some id → LoopOk Try.prog (0, 0) x (L145 id) := loops_eq lq145 lm145
noncomputable def R145 (x : Int × Int) : Res := ⟨[.one (ak .u64 x.1), .one (ak .u64 x.2)], [], []⟩
noncomputable def K145 (r : Res) : Option (Int × Int) :=
  match r with
  | ⟨[.one (.val (.int .u64 v1)), .one (.val (.int .u64 v2))], [], []⟩ => some (v1, v2)
  | _ => none
noncomputable def E145 : Fun2 := fun args bs rs =>
  match args, bs, rs with
  | [.s1 (.one (.val (.int .u64 a1))), .s1 (.one (.val (.int .u64 a2))), .s1 (.one (.val (.int .u64 a3)))], [], [] => some ⟨Int × Int, G.bits.Div64 a1 a2 a3, R145⟩
  | _, _, _ => none
theorem ev145 (a1 a2 a3 : Int) : evF Try.prog G145 L145 (0, 0) [] Try.f145 c145 [vk .u64 a1, vk .u64 a2, vk .u64 a3] [] [] K145 = G.bits.Div64 a1 a2 a3 := by kernel_rfl
theorem good145 : Vm.Good Try.prog 145 E145 := by
  refine evF_good (G := G145) (c := c145) (envCons_good good147 envNil_good) Try.func145 (by kernel_rfl) (by kernel_rfl) (0, 0) (fun args bs rs out t h h2 => ?_)
  unfold E145 at h
  split at h
  · injection h with h
    subst h
    exact ⟨rfl, [], L145, K145, lp145, (fun r t h => by unfold K145 at h; split at h; (injection h with h; subst h; rfl); cases h), (ev145 _ _ _).trans h2⟩
  · cases h
/-! ### I.WideMean -/
noncomputable def G139 : Env := (envCons 89 [] E89 (envCons 144 [] E144 (envCons 145 [] E145 envNil)))
noncomputable def c139 : Code := bodyOf Try.f139
noncomputable def I.WideMean (a1 a2 a3 : Int) : Option (Int × Bool) :=
(Option.bind (I.in a3 1 1000000) fun r4 =>
(bif (!r4) then
(some (0, false))
else
(Option.bind (I.Wide_size a1 a2) fun r5 =>
(let v6 : Int := (IntKind.wrap .u64 a3)
(bif decide (v6 = 0) then
none
else
(let v8 : Int := (IntKind.wrap .u64 a3)
(bif decide (v8 = 0) then
none
else
(Option.bind (G.bits.Div64 (Int.tmod r5.1 v8) r5.2 (IntKind.wrap .u64 a3)) fun r11 =>
(bif ((IntKind.wrap .u64 (Int.tdiv r5.1 v6)) != 0) then
(some (0, false))
else
(bif (decide (0 ≤ a1)) then
(bif (decide (9223372036854775807 < r11.1)) then
(some (0, false))
else
(bif (decide (0 ≤ a1)) then
(some ((IntKind.wrap .i64 r11.1), true))
else
(bif (decide (0 < r11.2)) then
(let v17 : Int := (IntKind.wrap .u64 (r11.1 + 1))
(bif (v17 == 0) then
(some (0, false))
else
(bif (decide (9223372036854775808 < v17)) then
(some (0, false))
else
(some ((IntKind.wrap .i64 (IntKind.wrap .u64 (0 - v17))), true)))))
else
(bif (decide (9223372036854775808 < r11.1)) then
(some (0, false))
else
(some ((IntKind.wrap .i64 (IntKind.wrap .u64 (0 - r11.1))), true))))))
else
(bif (decide (0 ≤ a1)) then
(some ((IntKind.wrap .i64 r11.1), true))
else
(bif (decide (0 < r11.2)) then
(let v27 : Int := (IntKind.wrap .u64 (r11.1 + 1))
(bif (v27 == 0) then
(some (0, false))
else
(bif (decide (9223372036854775808 < v27)) then
(some (0, false))
else
(some ((IntKind.wrap .i64 (IntKind.wrap .u64 (0 - v27))), true)))))
else
(bif (decide (9223372036854775808 < r11.1)) then
(some (0, false))
else
(some ((IntKind.wrap .i64 (IntKind.wrap .u64 (0 - r11.1))), true)))))))))))))))
noncomputable def R139 (x : Int × Bool) : Res := ⟨[.one (ai x.1), .one (ab x.2)], [], []⟩
noncomputable def K139 (r : Res) : Option (Int × Bool) :=
  match r with
  | ⟨[.one (.val (.int .i64 v1)), .one (.val (.bool v2))], [], []⟩ => some (v1, v2)
  | _ => none
noncomputable def E139 : Fun2 := fun args bs rs =>
  match args, bs, rs with
  | [.s1 (.agg [.val (.int .i64 a1), .val (.int .u64 a2)]), .s1 (.one (.val (.int .i64 a3)))], [], [] => some ⟨Int × Bool, I.WideMean a1 a2 a3, R139⟩
  | _, _, _ => none
theorem ev139 (a1 a2 a3 : Int) : evF Try.prog G139 loopNil (0, 0) [] Try.f139 c139 [.s1 (.agg [ai a1, ak .u64 a2]), vi a3] [] [] K139 = I.WideMean a1 a2 a3 := by kernel_rfl
theorem good139 : Vm.Good Try.prog 139 E139 := by
  refine evF_good (G := G139) (c := c139) (envCons_good good89 (envCons_good good144 (envCons_good good145 envNil_good))) Try.func139 (by kernel_rfl) (by kernel_rfl) (0, 0) (fun args bs rs out t h h2 => ?_)
  unfold E139 at h
  split at h
  · injection h with h
    subst h
    exact ⟨rfl, [], loopNil, K139, (no_loops (c := c139) (by kernel_rfl)), (fun r t h => by unfold K139 at h; split at h; (injection h with h; subst h; rfl); cases h), (ev139 _ _ _).trans h2⟩
  · cases h
/-! ### G.slices.Clone_int -/
noncomputable def G78 : Env := envNil
noncomputable def c78 : Code := bodyOf Try.f78
noncomputable def G.slices.Clone_int (a1 : List Int) : Option (List Int) :=
(bif decide (a1.length = 0) then
(same (some [])
(bif decide ((([] : List (Int)).length + a1.length) * 8 ≤ 140737488355328) then
(some (([] : List (Int)) ++ a1))
else
none))
else
(bif decide ((([] : List (Int)).length + a1.length) * 8 ≤ 140737488355328) then
(some (([] : List (Int)) ++ a1))
else
none))
noncomputable def R78 (x : List Int) : Res := ⟨[.one (.sl 0)], [], [⟨3, (.int .i64), x, .own⟩]⟩
noncomputable def K78 (r : Res) : Option (List Int) :=
  match r with
  | ⟨[.one (.sl 0)], [], [⟨3, (.int .i64), v1, .own⟩]⟩ => some (v1)
  | _ => none
noncomputable def E78 : Fun2 := fun args bs rs =>
  match args, bs, rs with
  | [.s1 (.one (.sl 0))], [], [⟨3, (.int .i64), a1, .ro⟩] => some ⟨List Int, G.slices.Clone_int a1, R78⟩
  | _, _, _ => none
theorem ev78 (a1 : List Int) : evF Try.prog G78 loopNil (0, 0) [] Try.f78 c78 [vl 0] [] [⟨3, (.int .i64), a1, .ro⟩] K78 = G.slices.Clone_int a1 := by kernel_rfl
theorem good78 : Vm.Good Try.prog 78 E78 := by
  refine evF_good (G := G78) (c := c78) envNil_good Try.func78 (by kernel_rfl) (by kernel_rfl) (0, 0) (fun args bs rs out t h h2 => ?_)
  unfold E78 at h
  split at h
  · injection h with h
    subst h
    exact ⟨rfl, [], loopNil, K78, (no_loops (c := c78) (by kernel_rfl)), (fun r t h => by unfold K78 at h; split at h; (injection h with h; subst h; rfl); cases h), (ev78 _).trans h2⟩
  · cases h
/-! ### I.done -/
noncomputable def G119 : Env := (envCons 138 [] E138 (envCons 139 [] E139 (envCons 78 [] E78 envNil)))
noncomputable def c119 : Code := bodyOf Try.f119
noncomputable def I.done (a1 a2 a3 a4 a5 a6 a7 : Int) (a8 : List Int) : Option (Bool × List Int) :=
(bif (a1 == 1) then
(some (false, [a3]))
else
(bif (a1 == 2) then
(Option.bind (I.WideInt a4 a5) fun r9 =>
(bif (!r9.2) then
(some (true, []))
else
(some (false, [r9.1]))))
else
(bif (a1 == 3) then
(some (false, [a6]))
else
(bif (a1 == 4) then
(some (false, [a7]))
else
(bif (a1 == 5) then
(Option.bind (I.WideMean a4 a5 a3) fun r10 =>
(some (false, [r10.1])))
else
(let v11 : Int := (a8.length : Int)
(let v12 : Int := (if v11 < a2 then v11 else a2)
(bif decide ((0 : Int) ≤ 0 ∧ 0 ≤ v12 ∧ v12 ≤ (a8.length : Int)) then
(Option.bind (G.slices.Clone_int ((a8.take (Int.toNat v12)).drop (Int.toNat 0))) fun r13 =>
(some (false, r13)))
else
none))))))))
noncomputable def R119 (x : Bool × List Int) : Res := ⟨[.one (.sl 0), .one (ab x.1)], [], [⟨3, (.int .i64), x.2, .own⟩]⟩
noncomputable def K119 (r : Res) : Option (Bool × List Int) :=
  match r with
  | ⟨[.one (.sl 0), .one (.val (.bool v1))], [], [⟨3, (.int .i64), v2, .own⟩]⟩ => some (v1, v2)
  | _ => none
noncomputable def E119 : Fun2 := fun args bs rs =>
  match args, bs, rs with
  | [.s1 (.one (.val (.int .i64 a1))), .s1 (.one (.val (.int .i64 a2))), .s1 (.agg [.val (.int .i64 a3), .val (.int .i64 a4), .val (.int .u64 a5), .val (.int .i64 a6), .val (.int .i64 a7), .sl 0])], [], [⟨3, (.int .i64), a8, .ro⟩] => some ⟨Bool × List Int, I.done a1 a2 a3 a4 a5 a6 a7 a8, R119⟩
  | _, _, _ => none
theorem ev119 (a1 a2 a3 a4 a5 a6 a7 : Int) (a8 : List Int) : evF Try.prog G119 loopNil (0, 0) [] Try.f119 c119 [vi a1, vi a2, .s1 (.agg [ai a3, ai a4, ak .u64 a5, ai a6, ai a7, .sl 0])] [] [⟨3, (.int .i64), a8, .ro⟩] K119 = I.done a1 a2 a3 a4 a5 a6 a7 a8 := by kernel_rfl
theorem good119 : Vm.Good Try.prog 119 E119 := by
  refine evF_good (G := G119) (c := c119) (envCons_good good138 (envCons_good good139 (envCons_good good78 envNil_good))) Try.func119 (by kernel_rfl) (by kernel_rfl) (0, 0) (fun args bs rs out t h h2 => ?_)
  unfold E119 at h
  split at h
  · injection h with h
    subst h
    exact ⟨rfl, [], loopNil, K119, (no_loops (c := c119) (by kernel_rfl)), (fun r t h => by unfold K119 at h; split at h; (injection h with h; subst h; rfl); cases h), (ev119 _ _ _ _ _ _ _ _).trans h2⟩
  · cases h
/-! ### I.paneOf -/
noncomputable def G71 : Env := (envCons 119 [] E119 envNil)
noncomputable def c71 : Code := bodyOf Try.f71
noncomputable def I.paneOf (a1 a2 a3 a4 a5 a6 a7 a8 a9 a10 a11 a12 a13 a14 a15 : Int) (a16 a17 : List (Int × Int)) (a18 : List Int) : Option (Int × Int × Int × Int × Int × Int × Bool × List Int) :=
(Option.bind (I.done a5 a6 a11 a12 a13 a14 a15 a18) fun r19 =>
(some (a1, a7, a8, a9, a10, a11, r19.1, r19.2)))
noncomputable def R71 (x : Int × Int × Int × Int × Int × Int × Bool × List Int) : Res := ⟨[.agg [ai x.1, ai x.2.1, ai x.2.2.1, ai x.2.2.2.1, ai x.2.2.2.2.1, ai x.2.2.2.2.2.1, .sl 0, ab x.2.2.2.2.2.2.1]], [], [⟨3, (.int .i64), x.2.2.2.2.2.2.2, .own⟩]⟩
noncomputable def K71 (r : Res) : Option (Int × Int × Int × Int × Int × Int × Bool × List Int) :=
  match r with
  | ⟨[.agg [.val (.int .i64 v1), .val (.int .i64 v2), .val (.int .i64 v3), .val (.int .i64 v4), .val (.int .i64 v5), .val (.int .i64 v6), .sl 0, .val (.bool v7)]], [], [⟨3, (.int .i64), v8, .own⟩]⟩ => some (v1, v2, v3, v4, v5, v6, v7, v8)
  | _ => none
noncomputable def E71 : Fun2 := fun args bs rs =>
  match args, bs, rs with
  | [.s1 (.one (.val (.int .i64 a1))), .s1 (.agg [.sl 0, .sl 1, .val (.int .i64 a2), .val (.int .i64 a3), .val (.int .i64 a4), .val (.int .i64 a5), .val (.int .i64 a6)]), .s1 (.one (.val (.int .i64 a7))), .s1 (.agg [.val (.int .i64 a8), .val (.int .i64 a9)]), .s1 (.one (.val (.int .i64 a10))), .s1 (.agg [.val (.int .i64 a11), .val (.int .i64 a12), .val (.int .u64 a13), .val (.int .i64 a14), .val (.int .i64 a15), .sl 2])], [], [⟨153, (.pair (.int .i64) (.int .i64)), a16, .ro⟩, ⟨153, (.pair (.int .i64) (.int .i64)), a17, .ro⟩, ⟨3, (.int .i64), a18, .ro⟩] => some ⟨Int × Int × Int × Int × Int × Int × Bool × List Int, I.paneOf a1 a2 a3 a4 a5 a6 a7 a8 a9 a10 a11 a12 a13 a14 a15 a16 a17 a18, R71⟩
  | _, _, _ => none
theorem ev71 (a1 a2 a3 a4 a5 a6 a7 a8 a9 a10 a11 a12 a13 a14 a15 : Int) (a16 a17 : List (Int × Int)) (a18 : List Int) : evF Try.prog G71 loopNil (0, 0) [] Try.f71 c71 [vi a1, .s1 (.agg [.sl 0, .sl 1, ai a2, ai a3, ai a4, ai a5, ai a6]), vi a7, .s1 (.agg [ai a8, ai a9]), vi a10, .s1 (.agg [ai a11, ai a12, ak .u64 a13, ai a14, ai a15, .sl 2])] [] [⟨153, sh1, a16, .ro⟩, ⟨153, sh1, a17, .ro⟩, ⟨3, (.int .i64), a18, .ro⟩] K71 = I.paneOf a1 a2 a3 a4 a5 a6 a7 a8 a9 a10 a11 a12 a13 a14 a15 a16 a17 a18 := by kernel_rfl
theorem good71 : Vm.Good Try.prog 71 E71 := by
  refine evF_good (G := G71) (c := c71) (envCons_good good119 envNil_good) Try.func71 (by kernel_rfl) (by kernel_rfl) (0, 0) (fun args bs rs out t h h2 => ?_)
  unfold E71 at h
  split at h
  · injection h with h
    subst h
    exact ⟨rfl, [], loopNil, K71, (no_loops (c := c71) (by kernel_rfl)), (fun r t h => by unfold K71 at h; split at h; (injection h with h; subst h; rfl); cases h), (ev71 _ _ _ _ _ _ _ _ _ _ _ _ _ _ _ _ _ _).trans h2⟩
  · cases h
/-! ### I.isId -/
noncomputable def G120 : Env := (envCons 89 [] E89 envNil)
noncomputable def c120 : Code := bodyOf Try.f120
noncomputable def I.isId (a1 : Int) : Option Bool :=
(Option.bind (I.in a1 0 3) fun r2 =>
(some r2))
noncomputable def R120 (x : Bool) : Res := ⟨[.one (ab x)], [], []⟩
noncomputable def K120 (r : Res) : Option Bool :=
  match r with
  | ⟨[.one (.val (.bool v1))], [], []⟩ => some (v1)
  | _ => none
noncomputable def E120 : Fun2 := fun args bs rs =>
  match args, bs, rs with
  | [.s1 (.one (.val (.int .i64 a1)))], [], [] => some ⟨Bool, I.isId a1, R120⟩
  | _, _, _ => none
theorem ev120 (a1 : Int) : evF Try.prog G120 loopNil (0, 0) [] Try.f120 c120 [vi a1] [] [] K120 = I.isId a1 := by kernel_rfl
theorem good120 : Vm.Good Try.prog 120 E120 := by
  refine evF_good (G := G120) (c := c120) (envCons_good good89 envNil_good) Try.func120 (by kernel_rfl) (by kernel_rfl) (0, 0) (fun args bs rs out t h h2 => ?_)
  unfold E120 at h
  split at h
  · injection h with h
    subst h
    exact ⟨rfl, [], loopNil, K120, (no_loops (c := c120) (by kernel_rfl)), (fun r t h => by unfold K120 at h; split at h; (injection h with h; subst h; rfl); cases h), (ev120 _).trans h2⟩
  · cases h
/-! ### I.isKey -/
noncomputable def G121 : Env := (envCons 89 [] E89 envNil)
noncomputable def c121 : Code := bodyOf Try.f121
noncomputable def I.isKey (a1 : Int) : Option Bool :=
(Option.bind (I.in a1 0 15) fun r2 =>
(some r2))
noncomputable def R121 (x : Bool) : Res := ⟨[.one (ab x)], [], []⟩
noncomputable def K121 (r : Res) : Option Bool :=
  match r with
  | ⟨[.one (.val (.bool v1))], [], []⟩ => some (v1)
  | _ => none
noncomputable def E121 : Fun2 := fun args bs rs =>
  match args, bs, rs with
  | [.s1 (.one (.val (.int .i64 a1)))], [], [] => some ⟨Bool, I.isKey a1, R121⟩
  | _, _, _ => none
theorem ev121 (a1 : Int) : evF Try.prog G121 loopNil (0, 0) [] Try.f121 c121 [vi a1] [] [] K121 = I.isKey a1 := by kernel_rfl
theorem good121 : Vm.Good Try.prog 121 E121 := by
  refine evF_good (G := G121) (c := c121) (envCons_good good89 envNil_good) Try.func121 (by kernel_rfl) (by kernel_rfl) (0, 0) (fun args bs rs out t h h2 => ?_)
  unfold E121 at h
  split at h
  · injection h with h
    subst h
    exact ⟨rfl, [], loopNil, K121, (no_loops (c := c121) (by kernel_rfl)), (fun r t h => by unfold K121 at h; split at h; (injection h with h; subst h; rfl); cases h), (ev121 _).trans h2⟩
  · cases h
/-! ### I.isWin -/
noncomputable def G122 : Env := envNil
noncomputable def c122 : Code := bodyOf Try.f122
noncomputable def I.isWin (a1 a2 : Int) : Option Bool :=
(bif (decide (0 ≤ a1)) then
(bif (decide (a1 < a2)) then
(some (decide (a2 ≤ 1100)))
else
(some false))
else
(some false))
noncomputable def R122 (x : Bool) : Res := ⟨[.one (ab x)], [], []⟩
noncomputable def K122 (r : Res) : Option Bool :=
  match r with
  | ⟨[.one (.val (.bool v1))], [], []⟩ => some (v1)
  | _ => none
noncomputable def E122 : Fun2 := fun args bs rs =>
  match args, bs, rs with
  | [.s1 (.agg [.val (.int .i64 a1), .val (.int .i64 a2)])], [], [] => some ⟨Bool, I.isWin a1 a2, R122⟩
  | _, _, _ => none
theorem ev122 (a1 a2 : Int) : evF Try.prog G122 loopNil (0, 0) [] Try.f122 c122 [.s1 (.agg [ai a1, ai a2])] [] [] K122 = I.isWin a1 a2 := by kernel_rfl
theorem good122 : Vm.Good Try.prog 122 E122 := by
  refine evF_good (G := G122) (c := c122) envNil_good Try.func122 (by kernel_rfl) (by kernel_rfl) (0, 0) (fun args bs rs out t h h2 => ?_)
  unfold E122 at h
  split at h
  · injection h with h
    subst h
    exact ⟨rfl, [], loopNil, K122, (no_loops (c := c122) (by kernel_rfl)), (fun r t h => by unfold K122 at h; split at h; (injection h with h; subst h; rfl); cases h), (ev122 _ _).trans h2⟩
  · cases h
/-! ### I.isPane -/
noncomputable def G72 : Env := (envCons 120 [] E120 (envCons 121 [] E121 (envCons 122 [] E122 (envCons 89 [] E89 envNil))))
noncomputable def c72 : Code := bodyOf Try.f72
noncomputable def I.isPane (a1 a2 a3 a4 a5 a6 : Int) (a7 : Bool) (a8 : List Int) : Option Bool :=
(Option.bind (I.isId a1) fun r9 =>
(bif r9 then
(Option.bind (I.isKey a2) fun r10 =>
(bif r10 then
(Option.bind (I.isWin a3 a4) fun r11 =>
(bif r11 then
(Option.bind (I.in a5 0 15) fun r12 =>
(bif r12 then
(Option.bind (I.in a6 1 1000000) fun r13 =>
(bif r13 then
(bif (decide ((a8.length : Int) ≤ 4)) then
(some (((a8.length : Int) == 0) == a7))
else
(some false))
else
(some false)))
else
(some false)))
else
(some false)))
else
(some false)))
else
(some false)))
noncomputable def R72 (x : Bool) : Res := ⟨[.one (ab x)], [], []⟩
noncomputable def K72 (r : Res) : Option Bool :=
  match r with
  | ⟨[.one (.val (.bool v1))], [], []⟩ => some (v1)
  | _ => none
noncomputable def E72 : Fun2 := fun args bs rs =>
  match args, bs, rs with
  | [.s1 (.agg [.val (.int .i64 a1), .val (.int .i64 a2), .val (.int .i64 a3), .val (.int .i64 a4), .val (.int .i64 a5), .val (.int .i64 a6), .sl 0, .val (.bool a7)])], [], [⟨3, (.int .i64), a8, .ro⟩] => some ⟨Bool, I.isPane a1 a2 a3 a4 a5 a6 a7 a8, R72⟩
  | _, _, _ => none
theorem ev72 (a1 a2 a3 a4 a5 a6 : Int) (a7 : Bool) (a8 : List Int) : evF Try.prog G72 loopNil (0, 0) [] Try.f72 c72 [.s1 (.agg [ai a1, ai a2, ai a3, ai a4, ai a5, ai a6, .sl 0, ab a7])] [] [⟨3, (.int .i64), a8, .ro⟩] K72 = I.isPane a1 a2 a3 a4 a5 a6 a7 a8 := by kernel_rfl
theorem good72 : Vm.Good Try.prog 72 E72 := by
  refine evF_good (G := G72) (c := c72) (envCons_good good120 (envCons_good good121 (envCons_good good122 (envCons_good good89 envNil_good)))) Try.func72 (by kernel_rfl) (by kernel_rfl) (0, 0) (fun args bs rs out t h h2 => ?_)
  unfold E72 at h
  split at h
  · injection h with h
    subst h
    exact ⟨rfl, [], loopNil, K72, (no_loops (c := c72) (by kernel_rfl)), (fun r t h => by unfold K72 at h; split at h; (injection h with h; subst h; rfl); cases h), (ev72 _ _ _ _ _ _ _ _).trans h2⟩
  · cases h
/-! ### I.PaneOf -/
noncomputable def G26 : Env := (envCons 69 [] E69 (envCons 70 [] E70 (envCons 71 [] E71 (envCons 72 [] E72 envNil))))
noncomputable def c26 : Code := bodyOf Try.f26
noncomputable def I.PaneOf (a1 a2 a3 a4 a5 a6 a7 a8 a9 a10 a11 a12 a13 a14 a15 : Int) (a16 a17 : List (Int × Int)) (a18 : List Int) : Option (Int × Int × Int × Int × Int × Int × Bool × Bool × List Int) :=
(Option.bind (I.isQuery a2 a3 a4 a5 a6 a16 a17) fun r19 =>
(bif (!r19) then
(some (0, 0, 0, 0, 0, 0, false, false, []))
else
(Option.bind (I.isAgg a11 a12 a13 a14 a15 a18) fun r20 =>
(bif (!r20) then
(some (0, 0, 0, 0, 0, 0, false, false, []))
else
(bif (a11 == 0) then
(some (0, 0, 0, 0, 0, 0, false, false, []))
else
(Option.bind (I.paneOf a1 a2 a3 a4 a5 a6 a7 a8 a9 a10 a11 a12 a13 a14 a15 a16 a17 a18) fun r21 =>
(Option.bind (I.isPane r21.1 r21.2.1 r21.2.2.1 r21.2.2.2.1 r21.2.2.2.2.1 r21.2.2.2.2.2.1 r21.2.2.2.2.2.2.1 r21.2.2.2.2.2.2.2) fun r22 =>
(bif (!r22) then
(some (0, 0, 0, 0, 0, 0, false, false, []))
else
(some (r21.1, r21.2.1, r21.2.2.1, r21.2.2.2.1, r21.2.2.2.2.1, r21.2.2.2.2.2.1, r21.2.2.2.2.2.2.1, true, r21.2.2.2.2.2.2.2))))))))))
noncomputable def R26 (x : Int × Int × Int × Int × Int × Int × Bool × Bool × List Int) : Res := ⟨[.agg [ai x.1, ai x.2.1, ai x.2.2.1, ai x.2.2.2.1, ai x.2.2.2.2.1, ai x.2.2.2.2.2.1, .sl 0, ab x.2.2.2.2.2.2.1], .one (ab x.2.2.2.2.2.2.2.1)], [], [⟨3, (.int .i64), x.2.2.2.2.2.2.2.2, .own⟩]⟩
noncomputable def K26 (r : Res) : Option (Int × Int × Int × Int × Int × Int × Bool × Bool × List Int) :=
  match r with
  | ⟨[.agg [.val (.int .i64 v1), .val (.int .i64 v2), .val (.int .i64 v3), .val (.int .i64 v4), .val (.int .i64 v5), .val (.int .i64 v6), .sl 0, .val (.bool v7)], .one (.val (.bool v8))], [], [⟨3, (.int .i64), v9, .own⟩]⟩ => some (v1, v2, v3, v4, v5, v6, v7, v8, v9)
  | _ => none
noncomputable def E26 : Fun2 := fun args bs rs =>
  match args, bs, rs with
  | [.s1 (.one (.val (.int .i64 a1))), .s1 (.agg [.sl 0, .sl 1, .val (.int .i64 a2), .val (.int .i64 a3), .val (.int .i64 a4), .val (.int .i64 a5), .val (.int .i64 a6)]), .s1 (.one (.val (.int .i64 a7))), .s1 (.agg [.val (.int .i64 a8), .val (.int .i64 a9)]), .s1 (.one (.val (.int .i64 a10))), .s1 (.agg [.val (.int .i64 a11), .val (.int .i64 a12), .val (.int .u64 a13), .val (.int .i64 a14), .val (.int .i64 a15), .sl 2])], [], [⟨153, (.pair (.int .i64) (.int .i64)), a16, .ro⟩, ⟨153, (.pair (.int .i64) (.int .i64)), a17, .ro⟩, ⟨3, (.int .i64), a18, .ro⟩] => some ⟨Int × Int × Int × Int × Int × Int × Bool × Bool × List Int, I.PaneOf a1 a2 a3 a4 a5 a6 a7 a8 a9 a10 a11 a12 a13 a14 a15 a16 a17 a18, R26⟩
  | _, _, _ => none
theorem ev26 (a1 a2 a3 a4 a5 a6 a7 a8 a9 a10 a11 a12 a13 a14 a15 : Int) (a16 a17 : List (Int × Int)) (a18 : List Int) : evF Try.prog G26 loopNil (0, 0) [] Try.f26 c26 [vi a1, .s1 (.agg [.sl 0, .sl 1, ai a2, ai a3, ai a4, ai a5, ai a6]), vi a7, .s1 (.agg [ai a8, ai a9]), vi a10, .s1 (.agg [ai a11, ai a12, ak .u64 a13, ai a14, ai a15, .sl 2])] [] [⟨153, sh1, a16, .ro⟩, ⟨153, sh1, a17, .ro⟩, ⟨3, (.int .i64), a18, .ro⟩] K26 = I.PaneOf a1 a2 a3 a4 a5 a6 a7 a8 a9 a10 a11 a12 a13 a14 a15 a16 a17 a18 := by kernel_rfl
theorem good26 : Vm.Good Try.prog 26 E26 := by
  refine evF_good (G := G26) (c := c26) (envCons_good good69 (envCons_good good70 (envCons_good good71 (envCons_good good72 envNil_good)))) Try.func26 (by kernel_rfl) (by kernel_rfl) (0, 0) (fun args bs rs out t h h2 => ?_)
  unfold E26 at h
  split at h
  · injection h with h
    subst h
    exact ⟨rfl, [], loopNil, K26, (no_loops (c := c26) (by kernel_rfl)), (fun r t h => by unfold K26 at h; split at h; (injection h with h; subst h; rfl); cases h), (ev26 _ _ _ _ _ _ _ _ _ _ _ _ _ _ _ _ _ _).trans h2⟩
  · cases h
/-! ### L.eqIntS -/
noncomputable def G73 : Env := envNil
noncomputable def c73 : Code := bodyOf Try.f73
noncomputable def c73_4 : Code := (loopsOf c73).getD 0 .skip
noncomputable def L.eqIntS_l0 : Nat → (Bool → Option Bool) → (Option Bool) → Int → List Int → List Int → Option Bool
  | 0, _, _, _, _, _ => none
  | m + 1, e4_0, e4_1, a5, a6, a7 =>
    (bif (decide (a5 < (a6.length : Int))) then
    (bif decide ((0 : Int) ≤ a5 ∧ a5 < (a6.length : Int)) then
    (bif decide ((0 : Int) ≤ a5 ∧ a5 < (a7.length : Int)) then
    (bif ((nthI a6 a5 (0 : Int)) != (nthI a7 a5 (0 : Int))) then
    (e4_0 false)
    else
    (L.eqIntS_l0 m e4_0 e4_1 (IntKind.wrap .i64 (a5 + 1)) a6 a7))
    else
    none)
    else
    none)
    else
    e4_1)
noncomputable def L.eqIntS (a1 a2 : List Int) : Option Bool :=
(bif ((a1.length : Int) != (a2.length : Int)) then
(some false)
else
(L.eqIntS_l0 fu (fun y12 =>
(some y12)) (some true) 0 a1 a2))
noncomputable def H73_4 : LoopH := ⟨⟨((.one (.sl 0)) :: (.one (.sl 1)) :: (hu 3 (hh :: (hu 20 [])))), [], [(3, (.int .i64), .ro), (3, (.int .i64), .ro)]⟩, ([2, 3, 4] ++ rg 6 20), [], (rg 0 4 ++ rg 5 21), [], []⟩
noncomputable def E73_4 (m : Nat) (ps : List Prm) (k : Kont Bool) : Option Bool :=
  match ps with
  | [.v (.int .i64 a5), .row (.int .i64) a6, .row (.int .i64) a7] => L.eqIntS_l0 m (fun z14 => k .ret (⟨(vu 4 ((vb z14) :: (vu 21 []))), [], []⟩ : St)) (k (.exit 0) (⟨(vu 26 []), [], []⟩ : St)) a5 a6 a7
  | _ => none
noncomputable def S73_4 (a5 : Int) (a6 a7 : List Int) : St := (⟨((vl 0) :: (vl 1) :: (vu 3 ((vi a5) :: (vu 20 [])))), [], [⟨3, (.int .i64), a6, .ro⟩, ⟨3, (.int .i64), a7, .ro⟩]⟩ : St)
theorem ev73_4 (m : Nat) (k : Kont Bool) (a5 : Int) (a6 a7 : List Int) : evC Try.prog G73 loopNil c73_4 (S73_4 a5 a6 a7) (turn Try.prog (0, 0) H73_4 (E73_4 m) k) = E73_4 (m + 1) ([.v (.int .i64 a5), .row (.int .i64) a6, .row (.int .i64) a7]) k := by kernel_rfl
theorem ok73_4 (m : Nat) : LoopOk Try.prog (0, 0) c73_4 (enter Try.prog (0, 0) H73_4 (E73_4 m)) := by
  refine loop_ok (G := G73) (L := loopNil) envNil_good (no_loops (c := c73_4) (by kernel_rfl)) (fun ps k => by unfold E73_4; split <;> rfl) (fun m ps k r h => ?_) m
  have h0 := h
  unfold E73_4 at h
  split at h
  · exact ⟨S73_4 _ _ _, by kernel_rfl, (ev73_4 m k _ _ _).trans h0⟩
  · cases h
noncomputable def L73 : LEnv Bool := (loopCons 4 (enter Try.prog (0, 0) H73_4 (E73_4 fu)) loopNil)
theorem lq73 : loopsOf c73 = [c73_4] := by kernel_rfl
theorem fr73_4 : firstReg c73_4 = some 4 := by kernel_rfl
theorem le73_4 : L73 4 = enter Try.prog (0, 0) H73_4 (E73_4 fu) := by kernel_rfl
theorem lm73 : ∀ x ∈ [c73_4], ∀ id, firstReg x = some id → LoopOk Try.prog (0, 0) x (L73 id) := (loops_cons fr73_4 le73_4 (ok73_4 fu) loops_nil)
theorem lp73 : ∀ x ∈ loopsOf c73, ∀ id, firstReg x = some id → LoopOk Try.prog (0, 0) x (L73 id) := loops_eq lq73 lm73
noncomputable def R73 (x : Bool) : Res := ⟨[.one (ab x)], [], []⟩
noncomputable def K73 (r : Res) : Option Bool :=
  match r with
  | ⟨[.one (.val (.bool v1))], [], []⟩ => some (v1)
  | _ => none
noncomputable def E73 : Fun2 := fun args bs rs =>
  match args, bs, rs with
  | [.s1 (.one (.sl 0)), .s1 (.one (.sl 1))], [], [⟨3, (.int .i64), a1, .ro⟩, ⟨3, (.int .i64), a2, .ro⟩] => some ⟨Bool, L.eqIntS a1 a2, R73⟩
  | _, _, _ => none
theorem ev73 (a1 a2 : List Int) : evF Try.prog G73 L73 (0, 0) [] Try.f73 c73 [vl 0, vl 1] [] [⟨3, (.int .i64), a1, .ro⟩, ⟨3, (.int .i64), a2, .ro⟩] K73 = L.eqIntS a1 a2 := by kernel_rfl
theorem good73 : Vm.Good Try.prog 73 E73 := by
  refine evF_good (G := G73) (c := c73) envNil_good Try.func73 (by kernel_rfl) (by kernel_rfl) (0, 0) (fun args bs rs out t h h2 => ?_)
  unfold E73 at h
  split at h
  · injection h with h
    subst h
    exact ⟨rfl, [], L73, K73, lp73, (fun r t h => by unfold K73 at h; split at h; (injection h with h; subst h; rfl); cases h), (ev73 _ _).trans h2⟩
  · cases h
/-! ### L.eqPane -/
noncomputable def G27 : Env := (envCons 73 [] E73 envNil)
noncomputable def c27 : Code := bodyOf Try.f27
noncomputable def L.eqPane (a1 a2 a3 a4 a5 a6 : Int) (a7 : Bool) (a8 a9 a10 a11 a12 a13 : Int) (a14 : Bool) (a15 a16 : List Int) : Option Bool :=
(bif (a1 != a8) then
(some false)
else
(bif (a2 != a9) then
(some false)
else
(bif (a3 != a10) then
(some false)
else
(bif (a4 != a11) then
(some false)
else
(bif (a5 != a12) then
(some false)
else
(bif (a6 != a13) then
(some false)
else
(Option.bind (L.eqIntS a15 a16) fun r17 =>
(bif (!r17) then
(some false)
else
(bif (!(a7 == a14)) then
(some false)
else
(some true))))))))))
noncomputable def R27 (x : Bool) : Res := ⟨[.one (ab x)], [], []⟩
noncomputable def K27 (r : Res) : Option Bool :=
  match r with
  | ⟨[.one (.val (.bool v1))], [], []⟩ => some (v1)
  | _ => none
noncomputable def E27 : Fun2 := fun args bs rs =>
  match args, bs, rs with
  | [.s1 (.agg [.val (.int .i64 a1), .val (.int .i64 a2), .val (.int .i64 a3), .val (.int .i64 a4), .val (.int .i64 a5), .val (.int .i64 a6), .sl 0, .val (.bool a7)]), .s1 (.agg [.val (.int .i64 a8), .val (.int .i64 a9), .val (.int .i64 a10), .val (.int .i64 a11), .val (.int .i64 a12), .val (.int .i64 a13), .sl 1, .val (.bool a14)])], [], [⟨3, (.int .i64), a15, .ro⟩, ⟨3, (.int .i64), a16, .ro⟩] => some ⟨Bool, L.eqPane a1 a2 a3 a4 a5 a6 a7 a8 a9 a10 a11 a12 a13 a14 a15 a16, R27⟩
  | _, _, _ => none
theorem ev27 (a1 a2 a3 a4 a5 a6 : Int) (a7 : Bool) (a8 a9 a10 a11 a12 a13 : Int) (a14 : Bool) (a15 a16 : List Int) : evF Try.prog G27 loopNil (0, 0) [] Try.f27 c27 [.s1 (.agg [ai a1, ai a2, ai a3, ai a4, ai a5, ai a6, .sl 0, ab a7]), .s1 (.agg [ai a8, ai a9, ai a10, ai a11, ai a12, ai a13, .sl 1, ab a14])] [] [⟨3, (.int .i64), a15, .ro⟩, ⟨3, (.int .i64), a16, .ro⟩] K27 = L.eqPane a1 a2 a3 a4 a5 a6 a7 a8 a9 a10 a11 a12 a13 a14 a15 a16 := by kernel_rfl
theorem good27 : Vm.Good Try.prog 27 E27 := by
  refine evF_good (G := G27) (c := c27) (envCons_good good73 envNil_good) Try.func27 (by kernel_rfl) (by kernel_rfl) (0, 0) (fun args bs rs out t h h2 => ?_)
  unfold E27 at h
  split at h
  · injection h with h
    subst h
    exact ⟨rfl, [], loopNil, K27, (no_loops (c := c27) (by kernel_rfl)), (fun r t h => by unfold K27 at h; split at h; (injection h with h; subst h; rfl); cases h), (ev27 _ _ _ _ _ _ _ _ _ _ _ _ _ _ _ _).trans h2⟩
  · cases h
/-! ### L.eqTok -/
noncomputable def G123 : Env := envNil
noncomputable def c123 : Code := bodyOf Try.f123
noncomputable def L.eqTok (a1 a2 a3 a4 : Int) : Option Bool :=
(bif (a1 != a3) then
(some false)
else
(bif (a2 != a4) then
(some false)
else
(some true)))
noncomputable def R123 (x : Bool) : Res := ⟨[.one (ab x)], [], []⟩
noncomputable def K123 (r : Res) : Option Bool :=
  match r with
  | ⟨[.one (.val (.bool v1))], [], []⟩ => some (v1)
  | _ => none
noncomputable def E123 : Fun2 := fun args bs rs =>
  match args, bs, rs with
  | [.s1 (.agg [.val (.int .i64 a1), .val (.int .i64 a2)]), .s1 (.agg [.val (.int .i64 a3), .val (.int .i64 a4)])], [], [] => some ⟨Bool, L.eqTok a1 a2 a3 a4, R123⟩
  | _, _, _ => none
theorem ev123 (a1 a2 a3 a4 : Int) : evF Try.prog G123 loopNil (0, 0) [] Try.f123 c123 [.s1 (.agg [ai a1, ai a2]), .s1 (.agg [ai a3, ai a4])] [] [] K123 = L.eqTok a1 a2 a3 a4 := by kernel_rfl
theorem good123 : Vm.Good Try.prog 123 E123 := by
  refine evF_good (G := G123) (c := c123) envNil_good Try.func123 (by kernel_rfl) (by kernel_rfl) (0, 0) (fun args bs rs out t h h2 => ?_)
  unfold E123 at h
  split at h
  · injection h with h
    subst h
    exact ⟨rfl, [], loopNil, K123, (no_loops (c := c123) (by kernel_rfl)), (fun r t h => by unfold K123 at h; split at h; (injection h with h; subst h; rfl); cases h), (ev123 _ _ _ _).trans h2⟩
  · cases h
/-! ### L.eqTokS -/
noncomputable def G74 : Env := (envCons 123 [] E123 envNil)
noncomputable def c74 : Code := bodyOf Try.f74
noncomputable def c74_4 : Code := (loopsOf c74).getD 0 .skip
noncomputable def L.eqTokS_l0 : Nat → (Bool → Option Bool) → (Option Bool) → Int → (List (Int × Int)) → (List (Int × Int)) → Option Bool
  | 0, _, _, _, _, _ => none
  | m + 1, e4_0, e4_1, a5, a6, a7 =>
    (bif (decide (a5 < (a6.length : Int))) then
    (bif decide ((0 : Int) ≤ a5 ∧ a5 < (a6.length : Int)) then
    (bif decide ((0 : Int) ≤ a5 ∧ a5 < (a7.length : Int)) then
    (Option.bind (L.eqTok ((nthI a6 a5 df1).1) ((nthI a6 a5 df1).2) ((nthI a7 a5 df1).1) ((nthI a7 a5 df1).2)) fun r10 =>
    (bif (!r10) then
    (e4_0 false)
    else
    (L.eqTokS_l0 m e4_0 e4_1 (IntKind.wrap .i64 (a5 + 1)) a6 a7)))
    else
    none)
    else
    none)
    else
    e4_1)
noncomputable def L.eqTokS (a1 a2 : List (Int × Int)) : Option Bool :=
(bif ((a1.length : Int) != (a2.length : Int)) then
(some false)
else
(L.eqTokS_l0 fu (fun y12 =>
(some y12)) (some true) 0 a1 a2))
noncomputable def H74_4 : LoopH := ⟨⟨((.one (.sl 0)) :: (.one (.sl 1)) :: (hu 3 (hh :: (hu 21 [])))), [], [(153, sh1, .ro), (153, sh1, .ro)]⟩, ([2, 3, 4] ++ rg 6 21), [], (rg 0 4 ++ rg 5 22), [], []⟩
noncomputable def E74_4 (m : Nat) (ps : List Prm) (k : Kont Bool) : Option Bool :=
  match ps with
  | [.v (.int .i64 a5), .row (.pair (.int .i64) (.int .i64)) a6, .row (.pair (.int .i64) (.int .i64)) a7] => L.eqTokS_l0 m (fun z14 => k .ret (⟨(vu 4 ((vb z14) :: (vu 22 []))), [], []⟩ : St)) (k (.exit 0) (⟨(vu 27 []), [], []⟩ : St)) a5 a6 a7
  | _ => none
noncomputable def S74_4 (a5 : Int) (a6 a7 : List (Int × Int)) : St := (⟨((vl 0) :: (vl 1) :: (vu 3 ((vi a5) :: (vu 21 [])))), [], [⟨153, sh1, a6, .ro⟩, ⟨153, sh1, a7, .ro⟩]⟩ : St)
theorem ev74_4 (m : Nat) (k : Kont Bool) (a5 : Int) (a6 a7 : List (Int × Int)) : evC Try.prog G74 loopNil c74_4 (S74_4 a5 a6 a7) (turn Try.prog (0, 0) H74_4 (E74_4 m) k) = E74_4 (m + 1) ([.v (.int .i64 a5), .row sh1 a6, .row sh1 a7]) k := by kernel_rfl
theorem ok74_4 (m : Nat) : LoopOk Try.prog (0, 0) c74_4 (enter Try.prog (0, 0) H74_4 (E74_4 m)) := by
  refine loop_ok (G := G74) (L := loopNil) (envCons_good good123 envNil_good) (no_loops (c := c74_4) (by kernel_rfl)) (fun ps k => by unfold E74_4; split <;> rfl) (fun m ps k r h => ?_) m
  have h0 := h
  unfold E74_4 at h
  split at h
  · exact ⟨S74_4 _ _ _, by kernel_rfl, (ev74_4 m k _ _ _).trans h0⟩
  · cases h
noncomputable def L74 : LEnv Bool := (loopCons 4 (enter Try.prog (0, 0) H74_4 (E74_4 fu)) loopNil)
theorem lq74 : loopsOf c74 = [c74_4] := by kernel_rfl
theorem fr74_4 : firstReg c74_4 = some 4 := by kernel_rfl
theorem le74_4 : L74 4 = enter Try.prog (0, 0) H74_4 (E74_4 fu) := by kernel_rfl
theorem lm74 : ∀ x ∈ [c74_4], ∀ id, firstReg x = some id → LoopOk Try.prog (0, 0) x (L74 id) := (loops_cons fr74_4 le74_4 (ok74_4 fu) loops_nil)
theorem lp74 : ∀ x ∈ loopsOf c74, ∀ id, firstReg x = some id → LoopOk Try.prog (0, 0) x (L74 id) := loops_eq lq74 lm74
noncomputable def R74 (x : Bool) : Res := ⟨[.one (ab x)], [], []⟩
noncomputable def K74 (r : Res) : Option Bool :=
  match r with
  | ⟨[.one (.val (.bool v1))], [], []⟩ => some (v1)
  | _ => none
noncomputable def E74 : Fun2 := fun args bs rs =>
  match args, bs, rs with
  | [.s1 (.one (.sl 0)), .s1 (.one (.sl 1))], [], [⟨153, (.pair (.int .i64) (.int .i64)), a1, .ro⟩, ⟨153, (.pair (.int .i64) (.int .i64)), a2, .ro⟩] => some ⟨Bool, L.eqTokS a1 a2, R74⟩
  | _, _, _ => none
theorem ev74 (a1 a2 : List (Int × Int)) : evF Try.prog G74 L74 (0, 0) [] Try.f74 c74 [vl 0, vl 1] [] [⟨153, sh1, a1, .ro⟩, ⟨153, sh1, a2, .ro⟩] K74 = L.eqTokS a1 a2 := by kernel_rfl
theorem good74 : Vm.Good Try.prog 74 E74 := by
  refine evF_good (G := G74) (c := c74) (envCons_good good123 envNil_good) Try.func74 (by kernel_rfl) (by kernel_rfl) (0, 0) (fun args bs rs out t h h2 => ?_)
  unfold E74 at h
  split at h
  · injection h with h
    subst h
    exact ⟨rfl, [], L74, K74, lp74, (fun r t h => by unfold K74 at h; split at h; (injection h with h; subst h; rfl); cases h), (ev74 _ _).trans h2⟩
  · cases h
/-! ### L.eqWinDef -/
noncomputable def G75 : Env := envNil
noncomputable def c75 : Code := bodyOf Try.f75
noncomputable def L.eqWinDef (a1 a2 a3 a4 a5 a6 : Int) : Option Bool :=
(bif (a1 != a4) then
(some false)
else
(bif (a2 != a5) then
(some false)
else
(bif (a3 != a6) then
(some false)
else
(some true))))
noncomputable def R75 (x : Bool) : Res := ⟨[.one (ab x)], [], []⟩
noncomputable def K75 (r : Res) : Option Bool :=
  match r with
  | ⟨[.one (.val (.bool v1))], [], []⟩ => some (v1)
  | _ => none
noncomputable def E75 : Fun2 := fun args bs rs =>
  match args, bs, rs with
  | [.s1 (.agg [.val (.int .i64 a1), .val (.int .i64 a2), .val (.int .i64 a3)]), .s1 (.agg [.val (.int .i64 a4), .val (.int .i64 a5), .val (.int .i64 a6)])], [], [] => some ⟨Bool, L.eqWinDef a1 a2 a3 a4 a5 a6, R75⟩
  | _, _, _ => none
theorem ev75 (a1 a2 a3 a4 a5 a6 : Int) : evF Try.prog G75 loopNil (0, 0) [] Try.f75 c75 [.s1 (.agg [ai a1, ai a2, ai a3]), .s1 (.agg [ai a4, ai a5, ai a6])] [] [] K75 = L.eqWinDef a1 a2 a3 a4 a5 a6 := by kernel_rfl
theorem good75 : Vm.Good Try.prog 75 E75 := by
  refine evF_good (G := G75) (c := c75) envNil_good Try.func75 (by kernel_rfl) (by kernel_rfl) (0, 0) (fun args bs rs out t h h2 => ?_)
  unfold E75 at h
  split at h
  · injection h with h
    subst h
    exact ⟨rfl, [], loopNil, K75, (no_loops (c := c75) (by kernel_rfl)), (fun r t h => by unfold K75 at h; split at h; (injection h with h; subst h; rfl); cases h), (ev75 _ _ _ _ _ _).trans h2⟩
  · cases h
/-! ### L.eqQuery -/
noncomputable def G28 : Env := (envCons 74 [] E74 (envCons 75 [] E75 envNil))
noncomputable def c28 : Code := bodyOf Try.f28
noncomputable def L.eqQuery (a1 a2 a3 a4 a5 a6 a7 a8 a9 a10 : Int) (a11 a12 a13 a14 : List (Int × Int)) : Option Bool :=
(Option.bind (L.eqTokS a11 a13) fun r15 =>
(bif (!r15) then
(some false)
else
(Option.bind (L.eqTokS a12 a14) fun r16 =>
(bif (!r16) then
(some false)
else
(Option.bind (L.eqWinDef a1 a2 a3 a6 a7 a8) fun r17 =>
(bif (!r17) then
(some false)
else
(bif (a4 != a9) then
(some false)
else
(bif (a5 != a10) then
(some false)
else
(some true)))))))))
noncomputable def R28 (x : Bool) : Res := ⟨[.one (ab x)], [], []⟩
noncomputable def K28 (r : Res) : Option Bool :=
  match r with
  | ⟨[.one (.val (.bool v1))], [], []⟩ => some (v1)
  | _ => none
noncomputable def E28 : Fun2 := fun args bs rs =>
  match args, bs, rs with
  | [.s1 (.agg [.sl 0, .sl 1, .val (.int .i64 a1), .val (.int .i64 a2), .val (.int .i64 a3), .val (.int .i64 a4), .val (.int .i64 a5)]), .s1 (.agg [.sl 2, .sl 3, .val (.int .i64 a6), .val (.int .i64 a7), .val (.int .i64 a8), .val (.int .i64 a9), .val (.int .i64 a10)])], [], [⟨153, (.pair (.int .i64) (.int .i64)), a11, .ro⟩, ⟨153, (.pair (.int .i64) (.int .i64)), a12, .ro⟩, ⟨153, (.pair (.int .i64) (.int .i64)), a13, .ro⟩, ⟨153, (.pair (.int .i64) (.int .i64)), a14, .ro⟩] => some ⟨Bool, L.eqQuery a1 a2 a3 a4 a5 a6 a7 a8 a9 a10 a11 a12 a13 a14, R28⟩
  | _, _, _ => none
theorem ev28 (a1 a2 a3 a4 a5 a6 a7 a8 a9 a10 : Int) (a11 a12 a13 a14 : List (Int × Int)) : evF Try.prog G28 loopNil (0, 0) [] Try.f28 c28 [.s1 (.agg [.sl 0, .sl 1, ai a1, ai a2, ai a3, ai a4, ai a5]), .s1 (.agg [.sl 2, .sl 3, ai a6, ai a7, ai a8, ai a9, ai a10])] [] [⟨153, sh1, a11, .ro⟩, ⟨153, sh1, a12, .ro⟩, ⟨153, sh1, a13, .ro⟩, ⟨153, sh1, a14, .ro⟩] K28 = L.eqQuery a1 a2 a3 a4 a5 a6 a7 a8 a9 a10 a11 a12 a13 a14 := by kernel_rfl
theorem good28 : Vm.Good Try.prog 28 E28 := by
  refine evF_good (G := G28) (c := c28) (envCons_good good74 (envCons_good good75 envNil_good)) Try.func28 (by kernel_rfl) (by kernel_rfl) (0, 0) (fun args bs rs out t h h2 => ?_)
  unfold E28 at h
  split at h
  · injection h with h
    subst h
    exact ⟨rfl, [], loopNil, K28, (no_loops (c := c28) (by kernel_rfl)), (fun r t h => by unfold K28 at h; split at h; (injection h with h; subst h; rfl); cases h), (ev28 _ _ _ _ _ _ _ _ _ _ _ _ _ _).trans h2⟩
  · cases h
/-! ### L.eqWide -/
noncomputable def G76 : Env := envNil
noncomputable def c76 : Code := bodyOf Try.f76
noncomputable def L.eqWide (a1 a2 a3 a4 : Int) : Option Bool :=
(bif (a1 != a3) then
(some false)
else
(bif (a2 != a4) then
(some false)
else
(some true)))
noncomputable def R76 (x : Bool) : Res := ⟨[.one (ab x)], [], []⟩
noncomputable def K76 (r : Res) : Option Bool :=
  match r with
  | ⟨[.one (.val (.bool v1))], [], []⟩ => some (v1)
  | _ => none
noncomputable def E76 : Fun2 := fun args bs rs =>
  match args, bs, rs with
  | [.s1 (.agg [.val (.int .i64 a1), .val (.int .u64 a2)]), .s1 (.agg [.val (.int .i64 a3), .val (.int .u64 a4)])], [], [] => some ⟨Bool, L.eqWide a1 a2 a3 a4, R76⟩
  | _, _, _ => none
theorem ev76 (a1 a2 a3 a4 : Int) : evF Try.prog G76 loopNil (0, 0) [] Try.f76 c76 [.s1 (.agg [ai a1, ak .u64 a2]), .s1 (.agg [ai a3, ak .u64 a4])] [] [] K76 = L.eqWide a1 a2 a3 a4 := by kernel_rfl
theorem good76 : Vm.Good Try.prog 76 E76 := by
  refine evF_good (G := G76) (c := c76) envNil_good Try.func76 (by kernel_rfl) (by kernel_rfl) (0, 0) (fun args bs rs out t h h2 => ?_)
  unfold E76 at h
  split at h
  · injection h with h
    subst h
    exact ⟨rfl, [], loopNil, K76, (no_loops (c := c76) (by kernel_rfl)), (fun r t h => by unfold K76 at h; split at h; (injection h with h; subst h; rfl); cases h), (ev76 _ _ _ _).trans h2⟩
  · cases h
/-! ### L.eqAgg -/
noncomputable def G29 : Env := (envCons 76 [] E76 (envCons 73 [] E73 envNil))
noncomputable def c29 : Code := bodyOf Try.f29
noncomputable def L.eqAgg (a1 a2 a3 a4 a5 a6 a7 a8 a9 a10 : Int) (a11 a12 : List Int) : Option Bool :=
(bif (a1 != a6) then
(some false)
else
(Option.bind (L.eqWide a2 a3 a7 a8) fun r13 =>
(bif (!r13) then
(some false)
else
(bif (a4 != a9) then
(some false)
else
(bif (a5 != a10) then
(some false)
else
(Option.bind (L.eqIntS a11 a12) fun r14 =>
(bif (!r14) then
(some false)
else
(some true))))))))
noncomputable def R29 (x : Bool) : Res := ⟨[.one (ab x)], [], []⟩
noncomputable def K29 (r : Res) : Option Bool :=
  match r with
  | ⟨[.one (.val (.bool v1))], [], []⟩ => some (v1)
  | _ => none
noncomputable def E29 : Fun2 := fun args bs rs =>
  match args, bs, rs with
  | [.s1 (.agg [.val (.int .i64 a1), .val (.int .i64 a2), .val (.int .u64 a3), .val (.int .i64 a4), .val (.int .i64 a5), .sl 0]), .s1 (.agg [.val (.int .i64 a6), .val (.int .i64 a7), .val (.int .u64 a8), .val (.int .i64 a9), .val (.int .i64 a10), .sl 1])], [], [⟨3, (.int .i64), a11, .ro⟩, ⟨3, (.int .i64), a12, .ro⟩] => some ⟨Bool, L.eqAgg a1 a2 a3 a4 a5 a6 a7 a8 a9 a10 a11 a12, R29⟩
  | _, _, _ => none
theorem ev29 (a1 a2 a3 a4 a5 a6 a7 a8 a9 a10 : Int) (a11 a12 : List Int) : evF Try.prog G29 loopNil (0, 0) [] Try.f29 c29 [.s1 (.agg [ai a1, ai a2, ak .u64 a3, ai a4, ai a5, .sl 0]), .s1 (.agg [ai a6, ai a7, ak .u64 a8, ai a9, ai a10, .sl 1])] [] [⟨3, (.int .i64), a11, .ro⟩, ⟨3, (.int .i64), a12, .ro⟩] K29 = L.eqAgg a1 a2 a3 a4 a5 a6 a7 a8 a9 a10 a11 a12 := by kernel_rfl
theorem good29 : Vm.Good Try.prog 29 E29 := by
  refine evF_good (G := G29) (c := c29) (envCons_good good76 (envCons_good good73 envNil_good)) Try.func29 (by kernel_rfl) (by kernel_rfl) (0, 0) (fun args bs rs out t h h2 => ?_)
  unfold E29 at h
  split at h
  · injection h with h
    subst h
    exact ⟨rfl, [], loopNil, K29, (no_loops (c := c29) (by kernel_rfl)), (fun r t h => by unfold K29 at h; split at h; (injection h with h; subst h; rfl); cases h), (ev29 _ _ _ _ _ _ _ _ _ _ _ _).trans h2⟩
  · cases h
/-! ### L.markTokS -/
noncomputable def G77 : Env := envNil
noncomputable def c77 : Code := bodyOf Try.f77
noncomputable def c77_2 : Code := (loopsOf c77).getD 0 .skip
noncomputable def L.markTokS_l0 : Nat → (Int → (List (Int × Int)) → Option (Int × (List (Int × Int)))) → Int → Int → (List (Int × Int)) → Option (Int × (List (Int × Int)))
  | 0, _, _, _, _ => none
  | m + 1, e2_0, a3, a4, a5 =>
    (bif (decide (a4 < (a5.length : Int))) then
    (bif decide ((0 : Int) ≤ a4 ∧ a4 < (a5.length : Int)) then
    (let v8 : List (Int × Int) := (a5.set (Int.toNat a4) (a3, (nthI a5 a4 df1).2))
    (let v9 : Int := (IntKind.wrap .i64 (a3 + 1))
    (bif decide ((0 : Int) ≤ a4 ∧ a4 < (v8.length : Int)) then
    (let v10 : List (Int × Int) := (v8.set (Int.toNat a4) ((nthI v8 a4 df1).1, v9))
    (L.markTokS_l0 m e2_0 (IntKind.wrap .i64 (v9 + 1)) (IntKind.wrap .i64 (a4 + 1)) v10))
    else
    none)))
    else
    none)
    else
    (e2_0 a3 a5))
noncomputable def L.markTokS (a1 : Int) (a2 : List (Int × Int)) : Option (Int × (List (Int × Int))) :=
(L.markTokS_l0 fu (fun y13 y14 =>
(some (y13, y14))) a1 0 a2)
noncomputable def H77_2 : LoopH := ⟨⟨((.one (.sl 0)) :: hh :: (hu 3 (hh :: (hu 21 [])))), [], [(153, sh1, .own)]⟩, ([2, 3, 4] ++ rg 6 21), [], ([0, 2, 3] ++ rg 5 22), [], []⟩
noncomputable def E77_2 (m : Nat) (ps : List Prm) (k : Kont (Int × (List (Int × Int)))) : Option (Int × (List (Int × Int))) :=
  match ps with
  | [.v (.int .i64 a3), .v (.int .i64 a4), .row (.pair (.int .i64) (.int .i64)) a5] => L.markTokS_l0 m (fun z17 z18 => k (.exit 0) (⟨((.s1 (.one (.unk))) :: (vi z17) :: (vu 25 [])), [], [⟨153, (.pair (.int .i64) (.int .i64)), z18, .own⟩]⟩ : St)) a3 a4 a5
  | _ => none
noncomputable def S77_2 (a3 a4 : Int) (a5 : List (Int × Int)) : St := (⟨((vl 0) :: (vi a3) :: (vu 3 ((vi a4) :: (vu 21 [])))), [], [⟨153, sh1, a5, .own⟩]⟩ : St)
theorem ev77_2 (m : Nat) (k : Kont (Int × (List (Int × Int)))) (a3 a4 : Int) (a5 : List (Int × Int)) : evC Try.prog G77 loopNil c77_2 (S77_2 a3 a4 a5) (turn Try.prog (0, 1) H77_2 (E77_2 m) k) = E77_2 (m + 1) ([.v (.int .i64 a3), .v (.int .i64 a4), .row sh1 a5]) k := by kernel_rfl
theorem ok77_2 (m : Nat) : LoopOk Try.prog (0, 1) c77_2 (enter Try.prog (0, 1) H77_2 (E77_2 m)) := by
  refine loop_ok (G := G77) (L := loopNil) envNil_good (no_loops (c := c77_2) (by kernel_rfl)) (fun ps k => by unfold E77_2; split <;> rfl) (fun m ps k r h => ?_) m
  have h0 := h
  unfold E77_2 at h
  split at h
  · exact ⟨S77_2 _ _ _, by kernel_rfl, (ev77_2 m k _ _ _).trans h0⟩
  · cases h
noncomputable def L77 : LEnv (Int × (List (Int × Int))) := (loopCons 2 (enter Try.prog (0, 1) H77_2 (E77_2 fu)) loopNil)
theorem lq77 : loopsOf c77 = [c77_2] := by kernel_rfl
theorem fr77_2 : firstReg c77_2 = some 2 := by kernel_rfl
theorem le77_2 : L77 2 = enter Try.prog (0, 1) H77_2 (E77_2 fu) := by kernel_rfl
theorem lm77 : ∀ x ∈ [c77_2], ∀ id, firstReg x = some id → LoopOk Try.prog (0, 1) x (L77 id) := (loops_cons fr77_2 le77_2 (ok77_2 fu) loops_nil)
theorem lp77 : ∀ x ∈ loopsOf c77, ∀ id, firstReg x = some id → LoopOk Try.prog (0, 1) x (L77 id) := loops_eq lq77 lm77
noncomputable def R77 (x : Int × (List (Int × Int))) : Res := ⟨[.one (ai x.1)], [], [⟨153, sh1, x.2, .own⟩]⟩
noncomputable def K77 (r : Res) : Option (Int × (List (Int × Int))) :=
  match r with
  | ⟨[.one (.val (.int .i64 v1))], [], [⟨153, (.pair (.int .i64) (.int .i64)), v2, .own⟩]⟩ => some (v1, v2)
  | _ => none
noncomputable def E77 : Fun2 := fun args bs rs =>
  match args, bs, rs with
  | [.s1 (.one (.sl 0)), .s1 (.one (.val (.int .i64 a1)))], [], [⟨153, (.pair (.int .i64) (.int .i64)), a2, .own⟩] => some ⟨Int × (List (Int × Int)), L.markTokS a1 a2, R77⟩
  | _, _, _ => none
theorem ev77 (a1 : Int) (a2 : List (Int × Int)) : evF Try.prog G77 L77 (0, 1) [] Try.f77 c77 [vl 0, vi a1] [] [⟨153, sh1, a2, .own⟩] K77 = L.markTokS a1 a2 := by kernel_rfl
theorem good77 : Vm.Good Try.prog 77 E77 := by
  refine evF_good (G := G77) (c := c77) envNil_good Try.func77 (by kernel_rfl) (by kernel_rfl) (0, 1) (fun args bs rs out t h h2 => ?_)
  unfold E77 at h
  split at h
  · injection h with h
    subst h
    exact ⟨rfl, [], L77, K77, lp77, (fun r t h => by unfold K77 at h; split at h; (injection h with h; subst h; rfl); cases h), (ev77 _ _).trans h2⟩
  · cases h
/-! ### L.markQuery -/
noncomputable def G30 : Env := (envCons 77 [0] E77 envNil)
noncomputable def c30 : Code := bodyOf Try.f30
noncomputable def L.markQuery (a1 a2 a3 a4 a5 a6 : Int) (a7 a8 : List (Int × Int)) : Option (Int × (List (Int × Int)) × (List (Int × Int))) :=
(Option.bind (L.markTokS a6 a7) fun r9 =>
(Option.bind (L.markTokS r9.1 a8) fun r10 =>
(some (r10.1, r9.2, r10.2))))
noncomputable def R30 (x : Int × (List (Int × Int)) × (List (Int × Int))) : Res := ⟨[.one (ai x.1)], [], [⟨153, sh1, x.2.1, .own⟩, ⟨153, sh1, x.2.2, .own⟩]⟩
noncomputable def K30 (r : Res) : Option (Int × (List (Int × Int)) × (List (Int × Int))) :=
  match r with
  | ⟨[.one (.val (.int .i64 v1))], [], [⟨153, (.pair (.int .i64) (.int .i64)), v2, .own⟩, ⟨153, (.pair (.int .i64) (.int .i64)), v3, .own⟩]⟩ => some (v1, v2, v3)
  | _ => none
noncomputable def E30 : Fun2 := fun args bs rs =>
  match args, bs, rs with
  | [.s1 (.agg [.sl 0, .sl 1, .val (.int .i64 a1), .val (.int .i64 a2), .val (.int .i64 a3), .val (.int .i64 a4), .val (.int .i64 a5)]), .s1 (.one (.val (.int .i64 a6)))], [], [⟨153, (.pair (.int .i64) (.int .i64)), a7, .own⟩, ⟨153, (.pair (.int .i64) (.int .i64)), a8, .own⟩] => some ⟨Int × (List (Int × Int)) × (List (Int × Int)), L.markQuery a1 a2 a3 a4 a5 a6 a7 a8, R30⟩
  | _, _, _ => none
theorem ev30 (a1 a2 a3 a4 a5 a6 : Int) (a7 a8 : List (Int × Int)) : evF Try.prog G30 loopNil (0, 2) [] Try.f30 c30 [.s1 (.agg [.sl 0, .sl 1, ai a1, ai a2, ai a3, ai a4, ai a5]), vi a6] [] [⟨153, sh1, a7, .own⟩, ⟨153, sh1, a8, .own⟩] K30 = L.markQuery a1 a2 a3 a4 a5 a6 a7 a8 := by kernel_rfl
theorem good30 : Vm.Good Try.prog 30 E30 := by
  refine evF_good (G := G30) (c := c30) (envCons_good good77 envNil_good) Try.func30 (by kernel_rfl) (by kernel_rfl) (0, 2) (fun args bs rs out t h h2 => ?_)
  unfold E30 at h
  split at h
  · injection h with h
    subst h
    exact ⟨rfl, [], loopNil, K30, (no_loops (c := c30) (by kernel_rfl)), (fun r t h => by unfold K30 at h; split at h; (injection h with h; subst h; rfl); cases h), (ev30 _ _ _ _ _ _ _ _).trans h2⟩
  · cases h
/-! ### L.markIntS -/
noncomputable def G41 : Env := envNil
noncomputable def c41 : Code := bodyOf Try.f41
noncomputable def c41_2 : Code := (loopsOf c41).getD 0 .skip
noncomputable def L.markIntS_l0 : Nat → (Int → List Int → Option (Int × List Int)) → Int → Int → List Int → Option (Int × List Int)
  | 0, _, _, _, _ => none
  | m + 1, e2_0, a3, a4, a5 =>
    (bif (decide (a4 < (a5.length : Int))) then
    (bif decide ((0 : Int) ≤ a4 ∧ a4 < (a5.length : Int)) then
    (L.markIntS_l0 m e2_0 (IntKind.wrap .i64 (a3 + 1)) (IntKind.wrap .i64 (a4 + 1)) (a5.set (Int.toNat a4) a3))
    else
    none)
    else
    (e2_0 a3 a5))
noncomputable def L.markIntS (a1 : Int) (a2 : List Int) : Option (Int × List Int) :=
(L.markIntS_l0 fu (fun y11 y12 =>
(some (y11, y12))) a1 0 a2)
noncomputable def H41_2 : LoopH := ⟨⟨((.one (.sl 0)) :: hh :: (hu 3 (hh :: (hu 13 [])))), [], [(3, (.int .i64), .own)]⟩, ([2, 3, 4] ++ rg 6 13), [], ([0, 2, 3] ++ rg 5 14), [], []⟩
noncomputable def E41_2 (m : Nat) (ps : List Prm) (k : Kont (Int × List Int)) : Option (Int × List Int) :=
  match ps with
  | [.v (.int .i64 a3), .v (.int .i64 a4), .row (.int .i64) a5] => L.markIntS_l0 m (fun z15 z16 => k (.exit 0) (⟨((.s1 (.one (.unk))) :: (vi z15) :: (vu 17 [])), [], [⟨3, (.int .i64), z16, .own⟩]⟩ : St)) a3 a4 a5
  | _ => none
noncomputable def S41_2 (a3 a4 : Int) (a5 : List Int) : St := (⟨((vl 0) :: (vi a3) :: (vu 3 ((vi a4) :: (vu 13 [])))), [], [⟨3, (.int .i64), a5, .own⟩]⟩ : St)
theorem ev41_2 (m : Nat) (k : Kont (Int × List Int)) (a3 a4 : Int) (a5 : List Int) : evC Try.prog G41 loopNil c41_2 (S41_2 a3 a4 a5) (turn Try.prog (0, 1) H41_2 (E41_2 m) k) = E41_2 (m + 1) ([.v (.int .i64 a3), .v (.int .i64 a4), .row (.int .i64) a5]) k := by kernel_rfl
theorem ok41_2 (m : Nat) : LoopOk Try.prog (0, 1) c41_2 (enter Try.prog (0, 1) H41_2 (E41_2 m)) := by
  refine loop_ok (G := G41) (L := loopNil) envNil_good (no_loops (c := c41_2) (by kernel_rfl)) (fun ps k => by unfold E41_2; split <;> rfl) (fun m ps k r h => ?_) m
  have h0 := h
  unfold E41_2 at h
  split at h
  · exact ⟨S41_2 _ _ _, by kernel_rfl, (ev41_2 m k _ _ _).trans h0⟩
  · cases h
noncomputable def L41 : LEnv (Int × List Int) := (loopCons 2 (enter Try.prog (0, 1) H41_2 (E41_2 fu)) loopNil)
theorem lq41 : loopsOf c41 = [c41_2] := by kernel_rfl
theorem fr41_2 : firstReg c41_2 = some 2 := by kernel_rfl
theorem le41_2 : L41 2 = enter Try.prog (0, 1) H41_2 (E41_2 fu) := by kernel_rfl
theorem lm41 : ∀ x ∈ [c41_2], ∀ id, firstReg x = some id → LoopOk Try.prog (0, 1) x (L41 id) := (loops_cons fr41_2 le41_2 (ok41_2 fu) loops_nil)
theorem lp41 : ∀ x ∈ loopsOf c41, ∀ id, firstReg x = some id → LoopOk Try.prog (0, 1) x (L41 id) := loops_eq lq41 lm41
noncomputable def R41 (x : Int × List Int) : Res := ⟨[.one (ai x.1)], [], [⟨3, (.int .i64), x.2, .own⟩]⟩
noncomputable def K41 (r : Res) : Option (Int × List Int) :=
  match r with
  | ⟨[.one (.val (.int .i64 v1))], [], [⟨3, (.int .i64), v2, .own⟩]⟩ => some (v1, v2)
  | _ => none
noncomputable def E41 : Fun2 := fun args bs rs =>
  match args, bs, rs with
  | [.s1 (.one (.sl 0)), .s1 (.one (.val (.int .i64 a1)))], [], [⟨3, (.int .i64), a2, .own⟩] => some ⟨Int × List Int, L.markIntS a1 a2, R41⟩
  | _, _, _ => none
theorem ev41 (a1 : Int) (a2 : List Int) : evF Try.prog G41 L41 (0, 1) [] Try.f41 c41 [vl 0, vi a1] [] [⟨3, (.int .i64), a2, .own⟩] K41 = L.markIntS a1 a2 := by kernel_rfl
theorem good41 : Vm.Good Try.prog 41 E41 := by
  refine evF_good (G := G41) (c := c41) envNil_good Try.func41 (by kernel_rfl) (by kernel_rfl) (0, 1) (fun args bs rs out t h h2 => ?_)
  unfold E41 at h
  split at h
  · injection h with h
    subst h
    exact ⟨rfl, [], L41, K41, lp41, (fun r t h => by unfold K41 at h; split at h; (injection h with h; subst h; rfl); cases h), (ev41 _ _).trans h2⟩
  · cases h
/-! ### L.markAgg -/
noncomputable def G31 : Env := (envCons 41 [0] E41 envNil)
noncomputable def c31 : Code := bodyOf Try.f31
noncomputable def L.markAgg (a1 a2 a3 a4 a5 a6 : Int) (a7 : List Int) : Option (Int × List Int) :=
(Option.bind (L.markIntS a6 a7) fun r8 =>
(some (r8.1, r8.2)))
noncomputable def R31 (x : Int × List Int) : Res := ⟨[.one (ai x.1)], [], [⟨3, (.int .i64), x.2, .own⟩]⟩
noncomputable def K31 (r : Res) : Option (Int × List Int) :=
  match r with
  | ⟨[.one (.val (.int .i64 v1))], [], [⟨3, (.int .i64), v2, .own⟩]⟩ => some (v1, v2)
  | _ => none
noncomputable def E31 : Fun2 := fun args bs rs =>
  match args, bs, rs with
  | [.s1 (.agg [.val (.int .i64 a1), .val (.int .i64 a2), .val (.int .u64 a3), .val (.int .i64 a4), .val (.int .i64 a5), .sl 0]), .s1 (.one (.val (.int .i64 a6)))], [], [⟨3, (.int .i64), a7, .own⟩] => some ⟨Int × List Int, L.markAgg a1 a2 a3 a4 a5 a6 a7, R31⟩
  | _, _, _ => none
theorem ev31 (a1 a2 a3 a4 a5 a6 : Int) (a7 : List Int) : evF Try.prog G31 loopNil (0, 1) [] Try.f31 c31 [.s1 (.agg [ai a1, ai a2, ak .u64 a3, ai a4, ai a5, .sl 0]), vi a6] [] [⟨3, (.int .i64), a7, .own⟩] K31 = L.markAgg a1 a2 a3 a4 a5 a6 a7 := by kernel_rfl
theorem good31 : Vm.Good Try.prog 31 E31 := by
  refine evF_good (G := G31) (c := c31) (envCons_good good41 envNil_good) Try.func31 (by kernel_rfl) (by kernel_rfl) (0, 1) (fun args bs rs out t h h2 => ?_)
  unfold E31 at h
  split at h
  · injection h with h
    subst h
    exact ⟨rfl, [], loopNil, K31, (no_loops (c := c31) (by kernel_rfl)), (fun r t h => by unfold K31 at h; split at h; (injection h with h; subst h; rfl); cases h), (ev31 _ _ _ _ _ _ _).trans h2⟩
  · cases h
/-! ### L.markPane -/
noncomputable def G32 : Env := (envCons 41 [0] E41 envNil)
noncomputable def c32 : Code := bodyOf Try.f32
noncomputable def L.markPane (a1 a2 a3 a4 a5 a6 : Int) (a7 : Bool) (a8 : Int) (a9 : List Int) : Option (Int × List Int) :=
(Option.bind (L.markIntS a8 a9) fun r10 =>
(some (r10.1, r10.2)))
noncomputable def R32 (x : Int × List Int) : Res := ⟨[.one (ai x.1)], [], [⟨3, (.int .i64), x.2, .own⟩]⟩
noncomputable def K32 (r : Res) : Option (Int × List Int) :=
  match r with
  | ⟨[.one (.val (.int .i64 v1))], [], [⟨3, (.int .i64), v2, .own⟩]⟩ => some (v1, v2)
  | _ => none
noncomputable def E32 : Fun2 := fun args bs rs =>
  match args, bs, rs with
  | [.s1 (.agg [.val (.int .i64 a1), .val (.int .i64 a2), .val (.int .i64 a3), .val (.int .i64 a4), .val (.int .i64 a5), .val (.int .i64 a6), .sl 0, .val (.bool a7)]), .s1 (.one (.val (.int .i64 a8)))], [], [⟨3, (.int .i64), a9, .own⟩] => some ⟨Int × List Int, L.markPane a1 a2 a3 a4 a5 a6 a7 a8 a9, R32⟩
  | _, _, _ => none
theorem ev32 (a1 a2 a3 a4 a5 a6 : Int) (a7 : Bool) (a8 : Int) (a9 : List Int) : evF Try.prog G32 loopNil (0, 1) [] Try.f32 c32 [.s1 (.agg [ai a1, ai a2, ai a3, ai a4, ai a5, ai a6, .sl 0, ab a7]), vi a8] [] [⟨3, (.int .i64), a9, .own⟩] K32 = L.markPane a1 a2 a3 a4 a5 a6 a7 a8 a9 := by kernel_rfl
theorem good32 : Vm.Good Try.prog 32 E32 := by
  refine evF_good (G := G32) (c := c32) (envCons_good good41 envNil_good) Try.func32 (by kernel_rfl) (by kernel_rfl) (0, 1) (fun args bs rs out t h h2 => ?_)
  unfold E32 at h
  split at h
  · injection h with h
    subst h
    exact ⟨rfl, [], loopNil, K32, (no_loops (c := c32) (by kernel_rfl)), (fun r t h => by unfold K32 at h; split at h; (injection h with h; subst h; rfl); cases h), (ev32 _ _ _ _ _ _ _ _ _).trans h2⟩
  · cases h
/-! ### L.heldIntS -/
noncomputable def G42 : Env := envNil
noncomputable def c42 : Code := bodyOf Try.f42
noncomputable def c42_2 : Code := (loopsOf c42).getD 0 .skip
noncomputable def L.heldIntS_l0 : Nat → (Int → Int → Option Int) → (Int → Option Int) → Int → Int → List Int → Option Int
  | 0, _, _, _, _, _ => none
  | m + 1, e2_0, e2_1, a3, a4, a5 =>
    (bif (decide (a4 < (a5.length : Int))) then
    (bif decide ((0 : Int) ≤ a4 ∧ a4 < (a5.length : Int)) then
    (bif ((nthI a5 a4 (0 : Int)) != a3) then
    (e2_0 a3 (-1))
    else
    (L.heldIntS_l0 m e2_0 e2_1 (IntKind.wrap .i64 (a3 + 1)) (IntKind.wrap .i64 (a4 + 1)) a5))
    else
    none)
    else
    (e2_1 a3))
noncomputable def L.heldIntS (a1 : Int) (a2 : List Int) : Option Int :=
(L.heldIntS_l0 fu (fun y11 y12 =>
(some y12)) (fun y13 =>
(some y13)) a1 0 a2)
noncomputable def H42_2 : LoopH := ⟨⟨((.one (.sl 0)) :: hh :: (hu 3 (hh :: (hu 15 [])))), [], [(3, (.int .i64), .ro)]⟩, ([2, 3, 4] ++ rg 6 15), [], ([0, 2, 3] ++ rg 5 16), [], []⟩
noncomputable def E42_2 (m : Nat) (ps : List Prm) (k : Kont Int) : Option Int :=
  match ps with
  | [.v (.int .i64 a3), .v (.int .i64 a4), .row (.int .i64) a5] => L.heldIntS_l0 m (fun z17 z18 => k .ret (⟨((.s1 (.one (.unk))) :: (vi z17) :: (vu 2 ((vi z18) :: (vu 16 [])))), [], []⟩ : St)) (fun z19 => k (.exit 0) (⟨((.s1 (.one (.unk))) :: (vi z19) :: (vu 19 [])), [], []⟩ : St)) a3 a4 a5
  | _ => none
noncomputable def S42_2 (a3 a4 : Int) (a5 : List Int) : St := (⟨((vl 0) :: (vi a3) :: (vu 3 ((vi a4) :: (vu 15 [])))), [], [⟨3, (.int .i64), a5, .ro⟩]⟩ : St)
theorem ev42_2 (m : Nat) (k : Kont Int) (a3 a4 : Int) (a5 : List Int) : evC Try.prog G42 loopNil c42_2 (S42_2 a3 a4 a5) (turn Try.prog (0, 0) H42_2 (E42_2 m) k) = E42_2 (m + 1) ([.v (.int .i64 a3), .v (.int .i64 a4), .row (.int .i64) a5]) k := by kernel_rfl
theorem ok42_2 (m : Nat) : LoopOk Try.prog (0, 0) c42_2 (enter Try.prog (0, 0) H42_2 (E42_2 m)) := by
  refine loop_ok (G := G42) (L := loopNil) envNil_good (no_loops (c := c42_2) (by kernel_rfl)) (fun ps k => by unfold E42_2; split <;> rfl) (fun m ps k r h => ?_) m
  have h0 := h
  unfold E42_2 at h
  split at h
  · exact ⟨S42_2 _ _ _, by kernel_rfl, (ev42_2 m k _ _ _).trans h0⟩
  · cases h
noncomputable def L42 : LEnv Int := (loopCons 2 (enter Try.prog (0, 0) H42_2 (E42_2 fu)) loopNil)
theorem lq42 : loopsOf c42 = [c42_2] := by kernel_rfl
theorem fr42_2 : firstReg c42_2 = some 2 := by kernel_rfl
theorem le42_2 : L42 2 = enter Try.prog (0, 0) H42_2 (E42_2 fu) := by kernel_rfl
theorem lm42 : ∀ x ∈ [c42_2], ∀ id, firstReg x = some id → LoopOk Try.prog (0, 0) x (L42 id) := (loops_cons fr42_2 le42_2 (ok42_2 fu) loops_nil)
theorem lp42 : ∀ x ∈ loopsOf c42, ∀ id, firstReg x = some id → LoopOk Try.prog (0, 0) x (L42 id) := loops_eq lq42 lm42
noncomputable def R42 (x : Int) : Res := ⟨[.one (ai x)], [], []⟩
noncomputable def K42 (r : Res) : Option Int :=
  match r with
  | ⟨[.one (.val (.int .i64 v1))], [], []⟩ => some (v1)
  | _ => none
noncomputable def E42 : Fun2 := fun args bs rs =>
  match args, bs, rs with
  | [.s1 (.one (.sl 0)), .s1 (.one (.val (.int .i64 a1)))], [], [⟨3, (.int .i64), a2, .ro⟩] => some ⟨Int, L.heldIntS a1 a2, R42⟩
  | _, _, _ => none
theorem ev42 (a1 : Int) (a2 : List Int) : evF Try.prog G42 L42 (0, 0) [] Try.f42 c42 [vl 0, vi a1] [] [⟨3, (.int .i64), a2, .ro⟩] K42 = L.heldIntS a1 a2 := by kernel_rfl
theorem good42 : Vm.Good Try.prog 42 E42 := by
  refine evF_good (G := G42) (c := c42) envNil_good Try.func42 (by kernel_rfl) (by kernel_rfl) (0, 0) (fun args bs rs out t h h2 => ?_)
  unfold E42 at h
  split at h
  · injection h with h
    subst h
    exact ⟨rfl, [], L42, K42, lp42, (fun r t h => by unfold K42 at h; split at h; (injection h with h; subst h; rfl); cases h), (ev42 _ _).trans h2⟩
  · cases h
/-! ### L.heldPane -/
noncomputable def G33 : Env := (envCons 42 [] E42 envNil)
noncomputable def c33 : Code := bodyOf Try.f33
noncomputable def L.heldPane (a1 a2 a3 a4 a5 a6 : Int) (a7 : Bool) (a8 : Int) (a9 : List Int) : Option Int :=
(Option.bind (L.heldIntS a8 a9) fun r10 =>
(bif (decide (r10 < 0)) then
(some (-1))
else
(some r10)))
noncomputable def R33 (x : Int) : Res := ⟨[.one (ai x)], [], []⟩
noncomputable def K33 (r : Res) : Option Int :=
  match r with
  | ⟨[.one (.val (.int .i64 v1))], [], []⟩ => some (v1)
  | _ => none
noncomputable def E33 : Fun2 := fun args bs rs =>
  match args, bs, rs with
  | [.s1 (.agg [.val (.int .i64 a1), .val (.int .i64 a2), .val (.int .i64 a3), .val (.int .i64 a4), .val (.int .i64 a5), .val (.int .i64 a6), .sl 0, .val (.bool a7)]), .s1 (.one (.val (.int .i64 a8)))], [], [⟨3, (.int .i64), a9, .ro⟩] => some ⟨Int, L.heldPane a1 a2 a3 a4 a5 a6 a7 a8 a9, R33⟩
  | _, _, _ => none
theorem ev33 (a1 a2 a3 a4 a5 a6 : Int) (a7 : Bool) (a8 : Int) (a9 : List Int) : evF Try.prog G33 loopNil (0, 0) [] Try.f33 c33 [.s1 (.agg [ai a1, ai a2, ai a3, ai a4, ai a5, ai a6, .sl 0, ab a7]), vi a8] [] [⟨3, (.int .i64), a9, .ro⟩] K33 = L.heldPane a1 a2 a3 a4 a5 a6 a7 a8 a9 := by kernel_rfl
theorem good33 : Vm.Good Try.prog 33 E33 := by
  refine evF_good (G := G33) (c := c33) (envCons_good good42 envNil_good) Try.func33 (by kernel_rfl) (by kernel_rfl) (0, 0) (fun args bs rs out t h h2 => ?_)
  unfold E33 at h
  split at h
  · injection h with h
    subst h
    exact ⟨rfl, [], loopNil, K33, (no_loops (c := c33) (by kernel_rfl)), (fun r t h => by unfold K33 at h; split at h; (injection h with h; subst h; rfl); cases h), (ev33 _ _ _ _ _ _ _ _ _).trans h2⟩
  · cases h
end Go.Proofs.Ytidojhgkpgomcaa.Run
