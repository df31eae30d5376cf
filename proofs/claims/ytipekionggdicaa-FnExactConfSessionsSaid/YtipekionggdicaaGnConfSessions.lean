import Derived.Test.YtipekionggdicaaGnConfSessionsA
namespace Go.Proofs.Ytipekionggdicaa.Run
open Go Go.RowKit Go.Proofs.YtipekionggdicaaW.PrintWords Go.Proofs.Ytipekionggdicaa.Vm
set_option linter.unusedVariables false
set_option maxRecDepth 100000

/-! ### I.ConfSessions -/
noncomputable def G67 : Env := (envCons 133 [] E133 (envCons 137 [] E137 envNil))
noncomputable def c67 : Code := bodyOf Try.f67
noncomputable def I.ConfSessions (a1 a2 a3 : Int) (a4 : List Int) (a5 : List (List (Int × Int) × List (Int × Int) × (Int × Int × Int) × Int × Int)) (a6 : List (Int × Int × Int)) (a7 : List (Int × Int × Int × Int × Int)) : Option (List Int) :=
(Option.bind (I.isConf a1 a2 a3 a4 a5 a6 a7) fun r8 =>
(bif (!r8) then
(some [])
else
(Option.bind (I.Conf_sessions a1 a2 a3 a4 a5 a6 a7) fun r9 =>
(some r9))))
noncomputable def R67 (x : List Int) : Res := ⟨[.one (.sl 0)], [], [⟨3, (.int .i64), x, .own⟩]⟩
noncomputable def K67 (r : Res) : Option (List Int) :=
  match r with
  | ⟨[.one (.sl 0)], [], [⟨3, (.int .i64), v1, .own⟩]⟩ => some (v1)
  | _ => none
noncomputable def E67 : Fun2 := fun args bs rs =>
  match args, bs, rs with
  | [.s1 (.agg [.val (.int .i64 a1), .sl 0, .val (.int .i64 a2), .val (.int .i64 a3), .sl 1, .sl 2, .sl 3])], [], [⟨145, (.int .u64), a4, .ro⟩, ⟨173, (.pair (.sl 260 (.pair (.int .i64) (.int .i64))) (.pair (.sl 260 (.pair (.int .i64) (.int .i64))) (.pair (.pair (.int .i64) (.pair (.int .i64) (.int .i64))) (.pair (.int .i64) (.int .i64))))), a5, .ro⟩, ⟨175, (.pair (.int .i64) (.pair (.int .i64) (.int .i64))), a6, .ro⟩, ⟨178, (.pair (.int .i64) (.pair (.int .i64) (.pair (.int .i64) (.pair (.int .i64) (.int .i64))))), a7, .ro⟩] => some ⟨List Int, I.ConfSessions a1 a2 a3 a4 a5 a6 a7, R67⟩
  | _, _, _ => none
theorem ev67 (a1 a2 a3 : Int) (a4 : List Int) (a5 : List (List (Int × Int) × List (Int × Int) × (Int × Int × Int) × Int × Int)) (a6 : List (Int × Int × Int)) (a7 : List (Int × Int × Int × Int × Int)) : evF Try.prog G67 loopNil (0, 0) Try.f67 c67 [.s1 (.agg [ai a1, .sl 0, ai a2, ai a3, .sl 1, .sl 2, .sl 3])] [] [⟨145, (.int .u64), a4, .ro⟩, ⟨173, (.pair (.sl 260 (.pair (.int .i64) (.int .i64))) (.pair (.sl 260 (.pair (.int .i64) (.int .i64))) (.pair (.pair (.int .i64) (.pair (.int .i64) (.int .i64))) (.pair (.int .i64) (.int .i64))))), a5, .ro⟩, ⟨175, (.pair (.int .i64) (.pair (.int .i64) (.int .i64))), a6, .ro⟩, ⟨178, (.pair (.int .i64) (.pair (.int .i64) (.pair (.int .i64) (.pair (.int .i64) (.int .i64))))), a7, .ro⟩] K67 = I.ConfSessions a1 a2 a3 a4 a5 a6 a7 := by kernel_rfl
theorem good67 : Vm.Good Try.prog 67 E67 := by
  refine evF_good (G := G67) (c := c67) (envCons_good good133 (envCons_good good137 envNil_good)) Try.func67 (by kernel_rfl) (by kernel_rfl) (0, 0) (fun args bs rs out t h h2 => ?_)
  unfold E67 at h
  split at h
  · injection h with h
    subst h
    exact ⟨rfl, loopNil, K67, (by intro x hx; simp [show loopsOf c67 = [] from by kernel_rfl] at hx), (fun r t h => by unfold K67 at h; split at h; (injection h with h; subst h; rfl); cases h), (ev67 _ _ _ _ _ _ _).trans h2⟩
  · cases h
/-! ### L.eqIntS -/
noncomputable def G68 : Env := envNil
noncomputable def c68 : Code := bodyOf Try.f68
noncomputable def c68_4 : Code := (loopsOf c68).getD 0 .skip
noncomputable def L.eqIntS_l0 : Nat → (Bool → Option Bool) → (Option Bool) → Int → List Int → List Int → Option Bool
  | 0, _, _, _, _, _ => none
  | m + 1, e4_0, e4_1, a5, a6, a7 =>
    (bif (decide (a5 < (a6.length : Int))) then
    (bif decide ((0 : Int) ≤ a5 ∧ a5 < (a6.length : Int)) then
    (bif decide ((0 : Int) ≤ a5 ∧ a5 < (a7.length : Int)) then
    (bif ((nthI a6 a5 (0 : Int)) != (nthI a7 a5 (0 : Int))) then
    (e4_0 false)
    else
    (L.eqIntS_l0 m e4_0 e4_1 (IntKind.wrap .i64 (a5 + 1)) a6 a7))
    else
    none)
    else
    none)
    else
    e4_1)
noncomputable def L.eqIntS (a1 a2 : List Int) : Option Bool :=
(bif ((a1.length : Int) != (a2.length : Int)) then
(some false)
else
(L.eqIntS_l0 fu (fun y12 =>
(some y12)) (some true) 0 a1 a2))
noncomputable def H68_4 : LoopH := ⟨⟨((.one (.sl 0)) :: (.one (.sl 1)) :: (hu 3 (hh :: (hu 20 [])))), [], [(3, (.int .i64), .ro), (3, (.int .i64), .ro)]⟩, [2, 3, 4, 6, 7, 8, 9, 10, 11, 12, 13, 14, 15, 16, 17, 18, 19, 20, 21, 22, 23, 24, 25], [], [0, 1, 2, 3, 5, 6, 7, 8, 9, 10, 11, 12, 13, 14, 15, 16, 17, 18, 19, 20, 21, 22, 23, 24, 25]⟩
noncomputable def E68_4 (m : Nat) (ps : List Prm) (k : Kont Bool) : Option Bool :=
  match ps with
  | [.v (.int .i64 a5), .row (.int .i64) a6, .row (.int .i64) a7] => L.eqIntS_l0 m (fun z14 => k .ret (⟨(vu 4 ((vb z14) :: (vu 21 []))), [], []⟩ : St)) (k (.exit 0) (⟨(vu 26 []), [], []⟩ : St)) a5 a6 a7
  | _ => none
noncomputable def S68_4 (a5 : Int) (a6 a7 : List Int) : St := (⟨((vl 0) :: (vl 1) :: (vu 3 ((vi a5) :: (vu 20 [])))), [], [⟨3, (.int .i64), a6, .ro⟩, ⟨3, (.int .i64), a7, .ro⟩]⟩ : St)
theorem ev68_4 (m : Nat) (k : Kont Bool) (a5 : Int) (a6 a7 : List Int) : evC Try.prog G68 loopNil c68_4 (S68_4 a5 a6 a7) (turn Try.prog (0, 0) H68_4 (E68_4 m) k) = E68_4 (m + 1) [.v (.int .i64 a5), .row (.int .i64) a6, .row (.int .i64) a7] k := by kernel_rfl
theorem ok68_4 (m : Nat) : LoopOk Try.prog (0, 0) c68_4 (enter Try.prog (0, 0) H68_4 (E68_4 m)) := by
  refine loop_ok (G := G68) (L := loopNil) envNil_good (by intro x hx; simp [show loopsOf c68_4 = [] from by kernel_rfl] at hx) (fun ps k => by unfold E68_4; split <;> rfl) (fun m ps k r h => ?_) m
  have h0 := h
  unfold E68_4 at h
  split at h
  · exact ⟨S68_4 _ _ _, by kernel_rfl, (ev68_4 m k _ _ _).trans h0⟩
  · cases h
noncomputable def L68 : LEnv Bool := (loopCons 4 (enter Try.prog (0, 0) H68_4 (E68_4 fu)) loopNil)
theorem lq68 : loopsOf c68 = [c68_4] := by kernel_rfl
theorem fr68_4 : firstReg c68_4 = some 4 := by kernel_rfl
theorem le68_4 : L68 4 = enter Try.prog (0, 0) H68_4 (E68_4 fu) := by kernel_rfl
theorem lm68 : ∀ x ∈ [c68_4], ∀ id, firstReg x = some id → LoopOk Try.prog (0, 0) x (L68 id) := (loops_cons fr68_4 le68_4 (ok68_4 fu) loops_nil)
theorem lp68 : ∀ x ∈ loopsOf c68, ∀ id, firstReg x = some id → LoopOk Try.prog (0, 0) x (L68 id) := loops_eq lq68 lm68
noncomputable def R68 (x : Bool) : Res := ⟨[.one (ab x)], [], []⟩
noncomputable def K68 (r : Res) : Option Bool :=
  match r with
  | ⟨[.one (.val (.bool v1))], [], []⟩ => some (v1)
  | _ => none
noncomputable def E68 : Fun2 := fun args bs rs =>
  match args, bs, rs with
  | [.s1 (.one (.sl 0)), .s1 (.one (.sl 1))], [], [⟨3, (.int .i64), a1, .ro⟩, ⟨3, (.int .i64), a2, .ro⟩] => some ⟨Bool, L.eqIntS a1 a2, R68⟩
  | _, _, _ => none
theorem ev68 (a1 a2 : List Int) : evF Try.prog G68 L68 (0, 0) Try.f68 c68 [vl 0, vl 1] [] [⟨3, (.int .i64), a1, .ro⟩, ⟨3, (.int .i64), a2, .ro⟩] K68 = L.eqIntS a1 a2 := by kernel_rfl
theorem good68 : Vm.Good Try.prog 68 E68 := by
  refine evF_good (G := G68) (c := c68) envNil_good Try.func68 (by kernel_rfl) (by kernel_rfl) (0, 0) (fun args bs rs out t h h2 => ?_)
  unfold E68 at h
  split at h
  · injection h with h
    subst h
    exact ⟨rfl, L68, K68, lp68, (fun r t h => by unfold K68 at h; split at h; (injection h with h; subst h; rfl); cases h), (ev68 _ _).trans h2⟩
  · cases h
/-! ### L.eqUint64S -/
noncomputable def G102 : Env := envNil
noncomputable def c102 : Code := bodyOf Try.f102
noncomputable def c102_4 : Code := (loopsOf c102).getD 0 .skip
noncomputable def L.eqUint64S_l0 : Nat → (Bool → Option Bool) → (Option Bool) → Int → List Int → List Int → Option Bool
  | 0, _, _, _, _, _ => none
  | m + 1, e4_0, e4_1, a5, a6, a7 =>
    (bif (decide (a5 < (a6.length : Int))) then
    (bif decide ((0 : Int) ≤ a5 ∧ a5 < (a6.length : Int)) then
    (bif decide ((0 : Int) ≤ a5 ∧ a5 < (a7.length : Int)) then
    (bif ((nthI a6 a5 (0 : Int)) != (nthI a7 a5 (0 : Int))) then
    (e4_0 false)
    else
    (L.eqUint64S_l0 m e4_0 e4_1 (IntKind.wrap .i64 (a5 + 1)) a6 a7))
    else
    none)
    else
    none)
    else
    e4_1)
noncomputable def L.eqUint64S (a1 a2 : List Int) : Option Bool :=
(bif ((a1.length : Int) != (a2.length : Int)) then
(some false)
else
(L.eqUint64S_l0 fu (fun y12 =>
(some y12)) (some true) 0 a1 a2))
noncomputable def H102_4 : LoopH := ⟨⟨((.one (.sl 0)) :: (.one (.sl 1)) :: (hu 3 (hh :: (hu 20 [])))), [], [(145, (.int .u64), .ro), (145, (.int .u64), .ro)]⟩, [2, 3, 4, 6, 7, 8, 9, 10, 11, 12, 13, 14, 15, 16, 17, 18, 19, 20, 21, 22, 23, 24, 25], [], [0, 1, 2, 3, 5, 6, 7, 8, 9, 10, 11, 12, 13, 14, 15, 16, 17, 18, 19, 20, 21, 22, 23, 24, 25]⟩
noncomputable def E102_4 (m : Nat) (ps : List Prm) (k : Kont Bool) : Option Bool :=
  match ps with
  | [.v (.int .i64 a5), .row (.int .u64) a6, .row (.int .u64) a7] => L.eqUint64S_l0 m (fun z14 => k .ret (⟨(vu 4 ((vb z14) :: (vu 21 []))), [], []⟩ : St)) (k (.exit 0) (⟨(vu 26 []), [], []⟩ : St)) a5 a6 a7
  | _ => none
noncomputable def S102_4 (a5 : Int) (a6 a7 : List Int) : St := (⟨((vl 0) :: (vl 1) :: (vu 3 ((vi a5) :: (vu 20 [])))), [], [⟨145, (.int .u64), a6, .ro⟩, ⟨145, (.int .u64), a7, .ro⟩]⟩ : St)
theorem ev102_4 (m : Nat) (k : Kont Bool) (a5 : Int) (a6 a7 : List Int) : evC Try.prog G102 loopNil c102_4 (S102_4 a5 a6 a7) (turn Try.prog (0, 0) H102_4 (E102_4 m) k) = E102_4 (m + 1) [.v (.int .i64 a5), .row (.int .u64) a6, .row (.int .u64) a7] k := by kernel_rfl
theorem ok102_4 (m : Nat) : LoopOk Try.prog (0, 0) c102_4 (enter Try.prog (0, 0) H102_4 (E102_4 m)) := by
  refine loop_ok (G := G102) (L := loopNil) envNil_good (by intro x hx; simp [show loopsOf c102_4 = [] from by kernel_rfl] at hx) (fun ps k => by unfold E102_4; split <;> rfl) (fun m ps k r h => ?_) m
  have h0 := h
  unfold E102_4 at h
  split at h
  · exact ⟨S102_4 _ _ _, by kernel_rfl, (ev102_4 m k _ _ _).trans h0⟩
  · cases h
noncomputable def L102 : LEnv Bool := (loopCons 4 (enter Try.prog (0, 0) H102_4 (E102_4 fu)) loopNil)
theorem lq102 : loopsOf c102 = [c102_4] := by kernel_rfl
theorem fr102_4 : firstReg c102_4 = some 4 := by kernel_rfl
theorem le102_4 : L102 4 = enter Try.prog (0, 0) H102_4 (E102_4 fu) := by kernel_rfl
theorem lm102 : ∀ x ∈ [c102_4], ∀ id, firstReg x = some id → LoopOk Try.prog (0, 0) x (L102 id) := (loops_cons fr102_4 le102_4 (ok102_4 fu) loops_nil)
theorem lp102 : ∀ x ∈ loopsOf c102, ∀ id, firstReg x = some id → LoopOk Try.prog (0, 0) x (L102 id) := loops_eq lq102 lm102
noncomputable def R102 (x : Bool) : Res := ⟨[.one (ab x)], [], []⟩
noncomputable def K102 (r : Res) : Option Bool :=
  match r with
  | ⟨[.one (.val (.bool v1))], [], []⟩ => some (v1)
  | _ => none
noncomputable def E102 : Fun2 := fun args bs rs =>
  match args, bs, rs with
  | [.s1 (.one (.sl 0)), .s1 (.one (.sl 1))], [], [⟨145, (.int .u64), a1, .ro⟩, ⟨145, (.int .u64), a2, .ro⟩] => some ⟨Bool, L.eqUint64S a1 a2, R102⟩
  | _, _, _ => none
theorem ev102 (a1 a2 : List Int) : evF Try.prog G102 L102 (0, 0) Try.f102 c102 [vl 0, vl 1] [] [⟨145, (.int .u64), a1, .ro⟩, ⟨145, (.int .u64), a2, .ro⟩] K102 = L.eqUint64S a1 a2 := by kernel_rfl
theorem good102 : Vm.Good Try.prog 102 E102 := by
  refine evF_good (G := G102) (c := c102) envNil_good Try.func102 (by kernel_rfl) (by kernel_rfl) (0, 0) (fun args bs rs out t h h2 => ?_)
  unfold E102 at h
  split at h
  · injection h with h
    subst h
    exact ⟨rfl, L102, K102, lp102, (fun r t h => by unfold K102 at h; split at h; (injection h with h; subst h; rfl); cases h), (ev102 _ _).trans h2⟩
  · cases h
/-! ### L.eqLat -/
noncomputable def G36 : Env := (envCons 102 [] E102 envNil)
noncomputable def c36 : Code := bodyOf Try.f36
noncomputable def L.eqLat (a1 a2 : Int) (a3 a4 : List Int) : Option Bool :=
(bif (a1 != a2) then
(some false)
else
(Option.bind (L.eqUint64S a3 a4) fun r5 =>
(bif (!r5) then
(some false)
else
(some true))))
noncomputable def R36 (x : Bool) : Res := ⟨[.one (ab x)], [], []⟩
noncomputable def K36 (r : Res) : Option Bool :=
  match r with
  | ⟨[.one (.val (.bool v1))], [], []⟩ => some (v1)
  | _ => none
noncomputable def E36 : Fun2 := fun args bs rs =>
  match args, bs, rs with
  | [.s1 (.agg [.val (.int .i64 a1), .sl 0]), .s1 (.agg [.val (.int .i64 a2), .sl 1])], [], [⟨145, (.int .u64), a3, .ro⟩, ⟨145, (.int .u64), a4, .ro⟩] => some ⟨Bool, L.eqLat a1 a2 a3 a4, R36⟩
  | _, _, _ => none
theorem ev36 (a1 a2 : Int) (a3 a4 : List Int) : evF Try.prog G36 loopNil (0, 0) Try.f36 c36 [.s1 (.agg [ai a1, .sl 0]), .s1 (.agg [ai a2, .sl 1])] [] [⟨145, (.int .u64), a3, .ro⟩, ⟨145, (.int .u64), a4, .ro⟩] K36 = L.eqLat a1 a2 a3 a4 := by kernel_rfl
theorem good36 : Vm.Good Try.prog 36 E36 := by
  refine evF_good (G := G36) (c := c36) (envCons_good good102 envNil_good) Try.func36 (by kernel_rfl) (by kernel_rfl) (0, 0) (fun args bs rs out t h h2 => ?_)
  unfold E36 at h
  split at h
  · injection h with h
    subst h
    exact ⟨rfl, loopNil, K36, (by intro x hx; simp [show loopsOf c36 = [] from by kernel_rfl] at hx), (fun r t h => by unfold K36 at h; split at h; (injection h with h; subst h; rfl); cases h), (ev36 _ _ _ _).trans h2⟩
  · cases h
/-! ### L.eqTok -/
noncomputable def G228 : Env := envNil
noncomputable def c228 : Code := bodyOf Try.f228
noncomputable def L.eqTok (a1 a2 a3 a4 : Int) : Option Bool :=
(bif (a1 != a3) then
(some false)
else
(bif (a2 != a4) then
(some false)
else
(some true)))
noncomputable def R228 (x : Bool) : Res := ⟨[.one (ab x)], [], []⟩
noncomputable def K228 (r : Res) : Option Bool :=
  match r with
  | ⟨[.one (.val (.bool v1))], [], []⟩ => some (v1)
  | _ => none
noncomputable def E228 : Fun2 := fun args bs rs =>
  match args, bs, rs with
  | [.s1 (.agg [.val (.int .i64 a1), .val (.int .i64 a2)]), .s1 (.agg [.val (.int .i64 a3), .val (.int .i64 a4)])], [], [] => some ⟨Bool, L.eqTok a1 a2 a3 a4, R228⟩
  | _, _, _ => none
theorem ev228 (a1 a2 a3 a4 : Int) : evF Try.prog G228 loopNil (0, 0) Try.f228 c228 [.s1 (.agg [ai a1, ai a2]), .s1 (.agg [ai a3, ai a4])] [] [] K228 = L.eqTok a1 a2 a3 a4 := by kernel_rfl
theorem good228 : Vm.Good Try.prog 228 E228 := by
  refine evF_good (G := G228) (c := c228) envNil_good Try.func228 (by kernel_rfl) (by kernel_rfl) (0, 0) (fun args bs rs out t h h2 => ?_)
  unfold E228 at h
  split at h
  · injection h with h
    subst h
    exact ⟨rfl, loopNil, K228, (by intro x hx; simp [show loopsOf c228 = [] from by kernel_rfl] at hx), (fun r t h => by unfold K228 at h; split at h; (injection h with h; subst h; rfl); cases h), (ev228 _ _ _ _).trans h2⟩
  · cases h
/-! ### L.eqTokS -/
noncomputable def G211 : Env := (envCons 228 [] E228 envNil)
noncomputable def c211 : Code := bodyOf Try.f211
noncomputable def c211_4 : Code := (loopsOf c211).getD 0 .skip
noncomputable def L.eqTokS_l0 : Nat → (Bool → Option Bool) → (Option Bool) → Int → (List (Int × Int)) → (List (Int × Int)) → Option Bool
  | 0, _, _, _, _, _ => none
  | m + 1, e4_0, e4_1, a5, a6, a7 =>
    (bif (decide (a5 < (a6.length : Int))) then
    (bif decide ((0 : Int) ≤ a5 ∧ a5 < (a6.length : Int)) then
    (bif decide ((0 : Int) ≤ a5 ∧ a5 < (a7.length : Int)) then
    (Option.bind (L.eqTok ((nthI a6 a5 ((0 : Int), (0 : Int))).1) ((nthI a6 a5 ((0 : Int), (0 : Int))).2) ((nthI a7 a5 ((0 : Int), (0 : Int))).1) ((nthI a7 a5 ((0 : Int), (0 : Int))).2)) fun r10 =>
    (bif (!r10) then
    (e4_0 false)
    else
    (L.eqTokS_l0 m e4_0 e4_1 (IntKind.wrap .i64 (a5 + 1)) a6 a7)))
    else
    none)
    else
    none)
    else
    e4_1)
noncomputable def L.eqTokS (a1 a2 : List (Int × Int)) : Option Bool :=
(bif ((a1.length : Int) != (a2.length : Int)) then
(some false)
else
(L.eqTokS_l0 fu (fun y12 =>
(some y12)) (some true) 0 a1 a2))
noncomputable def H211_4 : LoopH := ⟨⟨((.one (.sl 0)) :: (.one (.sl 1)) :: (hu 3 (hh :: (hu 21 [])))), [], [(260, (.pair (.int .i64) (.int .i64)), .ro), (260, (.pair (.int .i64) (.int .i64)), .ro)]⟩, [2, 3, 4, 6, 7, 8, 9, 10, 11, 12, 13, 14, 15, 16, 17, 18, 19, 20, 21, 22, 23, 24, 25, 26], [], [0, 1, 2, 3, 5, 6, 7, 8, 9, 10, 11, 12, 13, 14, 15, 16, 17, 18, 19, 20, 21, 22, 23, 24, 25, 26]⟩
noncomputable def E211_4 (m : Nat) (ps : List Prm) (k : Kont Bool) : Option Bool :=
  match ps with
  | [.v (.int .i64 a5), .row (.pair (.int .i64) (.int .i64)) a6, .row (.pair (.int .i64) (.int .i64)) a7] => L.eqTokS_l0 m (fun z14 => k .ret (⟨(vu 4 ((vb z14) :: (vu 22 []))), [], []⟩ : St)) (k (.exit 0) (⟨(vu 27 []), [], []⟩ : St)) a5 a6 a7
  | _ => none
noncomputable def S211_4 (a5 : Int) (a6 a7 : List (Int × Int)) : St := (⟨((vl 0) :: (vl 1) :: (vu 3 ((vi a5) :: (vu 21 [])))), [], [⟨260, (.pair (.int .i64) (.int .i64)), a6, .ro⟩, ⟨260, (.pair (.int .i64) (.int .i64)), a7, .ro⟩]⟩ : St)
theorem ev211_4 (m : Nat) (k : Kont Bool) (a5 : Int) (a6 a7 : List (Int × Int)) : evC Try.prog G211 loopNil c211_4 (S211_4 a5 a6 a7) (turn Try.prog (0, 0) H211_4 (E211_4 m) k) = E211_4 (m + 1) [.v (.int .i64 a5), .row (.pair (.int .i64) (.int .i64)) a6, .row (.pair (.int .i64) (.int .i64)) a7] k := by kernel_rfl
theorem ok211_4 (m : Nat) : LoopOk Try.prog (0, 0) c211_4 (enter Try.prog (0, 0) H211_4 (E211_4 m)) := by
  refine loop_ok (G := G211) (L := loopNil) (envCons_good good228 envNil_good) (by intro x hx; simp [show loopsOf c211_4 = [] from by kernel_rfl] at hx) (fun ps k => by unfold E211_4; split <;> rfl) (fun m ps k r h => ?_) m
  have h0 := h
  unfold E211_4 at h
  split at h
  · exact ⟨S211_4 _ _ _, by kernel_rfl, (ev211_4 m k _ _ _).trans h0⟩
  · cases h
noncomputable def L211 : LEnv Bool := (loopCons 4 (enter Try.prog (0, 0) H211_4 (E211_4 fu)) loopNil)
theorem lq211 : loopsOf c211 = [c211_4] := by kernel_rfl
theorem fr211_4 : firstReg c211_4 = some 4 := by kernel_rfl
theorem le211_4 : L211 4 = enter Try.prog (0, 0) H211_4 (E211_4 fu) := by kernel_rfl
theorem lm211 : ∀ x ∈ [c211_4], ∀ id, firstReg x = some id → LoopOk Try.prog (0, 0) x (L211 id) := (loops_cons fr211_4 le211_4 (ok211_4 fu) loops_nil)
theorem lp211 : ∀ x ∈ loopsOf c211, ∀ id, firstReg x = some id → LoopOk Try.prog (0, 0) x (L211 id) := loops_eq lq211 lm211
noncomputable def R211 (x : Bool) : Res := ⟨[.one (ab x)], [], []⟩
noncomputable def K211 (r : Res) : Option Bool :=
  match r with
  | ⟨[.one (.val (.bool v1))], [], []⟩ => some (v1)
  | _ => none
noncomputable def E211 : Fun2 := fun args bs rs =>
  match args, bs, rs with
  | [.s1 (.one (.sl 0)), .s1 (.one (.sl 1))], [], [⟨260, (.pair (.int .i64) (.int .i64)), a1, .ro⟩, ⟨260, (.pair (.int .i64) (.int .i64)), a2, .ro⟩] => some ⟨Bool, L.eqTokS a1 a2, R211⟩
  | _, _, _ => none
theorem ev211 (a1 a2 : List (Int × Int)) : evF Try.prog G211 L211 (0, 0) Try.f211 c211 [vl 0, vl 1] [] [⟨260, (.pair (.int .i64) (.int .i64)), a1, .ro⟩, ⟨260, (.pair (.int .i64) (.int .i64)), a2, .ro⟩] K211 = L.eqTokS a1 a2 := by kernel_rfl
theorem good211 : Vm.Good Try.prog 211 E211 := by
  refine evF_good (G := G211) (c := c211) (envCons_good good228 envNil_good) Try.func211 (by kernel_rfl) (by kernel_rfl) (0, 0) (fun args bs rs out t h h2 => ?_)
  unfold E211 at h
  split at h
  · injection h with h
    subst h
    exact ⟨rfl, L211, K211, lp211, (fun r t h => by unfold K211 at h; split at h; (injection h with h; subst h; rfl); cases h), (ev211 _ _).trans h2⟩
  · cases h
/-! ### L.eqWinDef -/
noncomputable def G212 : Env := envNil
noncomputable def c212 : Code := bodyOf Try.f212
noncomputable def L.eqWinDef (a1 a2 a3 a4 a5 a6 : Int) : Option Bool :=
(bif (a1 != a4) then
(some false)
else
(bif (a2 != a5) then
(some false)
else
(bif (a3 != a6) then
(some false)
else
(some true))))
noncomputable def R212 (x : Bool) : Res := ⟨[.one (ab x)], [], []⟩
noncomputable def K212 (r : Res) : Option Bool :=
  match r with
  | ⟨[.one (.val (.bool v1))], [], []⟩ => some (v1)
  | _ => none
noncomputable def E212 : Fun2 := fun args bs rs =>
  match args, bs, rs with
  | [.s1 (.agg [.val (.int .i64 a1), .val (.int .i64 a2), .val (.int .i64 a3)]), .s1 (.agg [.val (.int .i64 a4), .val (.int .i64 a5), .val (.int .i64 a6)])], [], [] => some ⟨Bool, L.eqWinDef a1 a2 a3 a4 a5 a6, R212⟩
  | _, _, _ => none
theorem ev212 (a1 a2 a3 a4 a5 a6 : Int) : evF Try.prog G212 loopNil (0, 0) Try.f212 c212 [.s1 (.agg [ai a1, ai a2, ai a3]), .s1 (.agg [ai a4, ai a5, ai a6])] [] [] K212 = L.eqWinDef a1 a2 a3 a4 a5 a6 := by kernel_rfl
theorem good212 : Vm.Good Try.prog 212 E212 := by
  refine evF_good (G := G212) (c := c212) envNil_good Try.func212 (by kernel_rfl) (by kernel_rfl) (0, 0) (fun args bs rs out t h h2 => ?_)
  unfold E212 at h
  split at h
  · injection h with h
    subst h
    exact ⟨rfl, loopNil, K212, (by intro x hx; simp [show loopsOf c212 = [] from by kernel_rfl] at hx), (fun r t h => by unfold K212 at h; split at h; (injection h with h; subst h; rfl); cases h), (ev212 _ _ _ _ _ _).trans h2⟩
  · cases h
/-! ### L.eqQuery -/
noncomputable def G186 : Env := (envCons 211 [] E211 (envCons 212 [] E212 envNil))
noncomputable def c186 : Code := bodyOf Try.f186
noncomputable def L.eqQuery (a1 a2 a3 a4 a5 a6 a7 a8 a9 a10 : Int) (a11 a12 a13 a14 : List (Int × Int)) : Option Bool :=
(Option.bind (L.eqTokS a11 a13) fun r15 =>
(bif (!r15) then
(some false)
else
(Option.bind (L.eqTokS a12 a14) fun r16 =>
(bif (!r16) then
(some false)
else
(Option.bind (L.eqWinDef a1 a2 a3 a6 a7 a8) fun r17 =>
(bif (!r17) then
(some false)
else
(bif (a4 != a9) then
(some false)
else
(bif (a5 != a10) then
(some false)
else
(some true)))))))))
noncomputable def R186 (x : Bool) : Res := ⟨[.one (ab x)], [], []⟩
noncomputable def K186 (r : Res) : Option Bool :=
  match r with
  | ⟨[.one (.val (.bool v1))], [], []⟩ => some (v1)
  | _ => none
noncomputable def E186 : Fun2 := fun args bs rs =>
  match args, bs, rs with
  | [.s1 (.agg [.sl 0, .sl 1, .val (.int .i64 a1), .val (.int .i64 a2), .val (.int .i64 a3), .val (.int .i64 a4), .val (.int .i64 a5)]), .s1 (.agg [.sl 2, .sl 3, .val (.int .i64 a6), .val (.int .i64 a7), .val (.int .i64 a8), .val (.int .i64 a9), .val (.int .i64 a10)])], [], [⟨260, (.pair (.int .i64) (.int .i64)), a11, .ro⟩, ⟨260, (.pair (.int .i64) (.int .i64)), a12, .ro⟩, ⟨260, (.pair (.int .i64) (.int .i64)), a13, .ro⟩, ⟨260, (.pair (.int .i64) (.int .i64)), a14, .ro⟩] => some ⟨Bool, L.eqQuery a1 a2 a3 a4 a5 a6 a7 a8 a9 a10 a11 a12 a13 a14, R186⟩
  | _, _, _ => none
theorem ev186 (a1 a2 a3 a4 a5 a6 a7 a8 a9 a10 : Int) (a11 a12 a13 a14 : List (Int × Int)) : evF Try.prog G186 loopNil (0, 0) Try.f186 c186 [.s1 (.agg [.sl 0, .sl 1, ai a1, ai a2, ai a3, ai a4, ai a5]), .s1 (.agg [.sl 2, .sl 3, ai a6, ai a7, ai a8, ai a9, ai a10])] [] [⟨260, (.pair (.int .i64) (.int .i64)), a11, .ro⟩, ⟨260, (.pair (.int .i64) (.int .i64)), a12, .ro⟩, ⟨260, (.pair (.int .i64) (.int .i64)), a13, .ro⟩, ⟨260, (.pair (.int .i64) (.int .i64)), a14, .ro⟩] K186 = L.eqQuery a1 a2 a3 a4 a5 a6 a7 a8 a9 a10 a11 a12 a13 a14 := by kernel_rfl
theorem good186 : Vm.Good Try.prog 186 E186 := by
  refine evF_good (G := G186) (c := c186) (envCons_good good211 (envCons_good good212 envNil_good)) Try.func186 (by kernel_rfl) (by kernel_rfl) (0, 0) (fun args bs rs out t h h2 => ?_)
  unfold E186 at h
  split at h
  · injection h with h
    subst h
    exact ⟨rfl, loopNil, K186, (by intro x hx; simp [show loopsOf c186 = [] from by kernel_rfl] at hx), (fun r t h => by unfold K186 at h; split at h; (injection h with h; subst h; rfl); cases h), (ev186 _ _ _ _ _ _ _ _ _ _ _ _ _ _).trans h2⟩
  · cases h
/-! ### L.eqQueryS -/
noncomputable def G134 : Env := (envCons 186 [] E186 envNil)
noncomputable def c134 : Code := bodyOf Try.f134
noncomputable def c134_4 : Code := (loopsOf c134).getD 0 .skip
noncomputable def L.eqQueryS_l0 : Nat → (Bool → Option Bool) → (Option Bool) → Int → (List (List (Int × Int) × List (Int × Int) × (Int × Int × Int) × Int × Int)) → (List (List (Int × Int) × List (Int × Int) × (Int × Int × Int) × Int × Int)) → Option Bool
  | 0, _, _, _, _, _ => none
  | m + 1, e4_0, e4_1, a5, a6, a7 =>
    (bif (decide (a5 < (a6.length : Int))) then
    (bif decide ((0 : Int) ≤ a5 ∧ a5 < (a6.length : Int)) then
    (bif decide ((0 : Int) ≤ a5 ∧ a5 < (a7.length : Int)) then
    (Option.bind (L.eqQuery ((nthI a6 a5 ([], ([], (((0 : Int), ((0 : Int), (0 : Int))), ((0 : Int), (0 : Int)))))).2.2.1.1) ((nthI a6 a5 ([], ([], (((0 : Int), ((0 : Int), (0 : Int))), ((0 : Int), (0 : Int)))))).2.2.1.2.1) ((nthI a6 a5 ([], ([], (((0 : Int), ((0 : Int), (0 : Int))), ((0 : Int), (0 : Int)))))).2.2.1.2.2) ((nthI a6 a5 ([], ([], (((0 : Int), ((0 : Int), (0 : Int))), ((0 : Int), (0 : Int)))))).2.2.2.1) ((nthI a6 a5 ([], ([], (((0 : Int), ((0 : Int), (0 : Int))), ((0 : Int), (0 : Int)))))).2.2.2.2) ((nthI a7 a5 ([], ([], (((0 : Int), ((0 : Int), (0 : Int))), ((0 : Int), (0 : Int)))))).2.2.1.1) ((nthI a7 a5 ([], ([], (((0 : Int), ((0 : Int), (0 : Int))), ((0 : Int), (0 : Int)))))).2.2.1.2.1) ((nthI a7 a5 ([], ([], (((0 : Int), ((0 : Int), (0 : Int))), ((0 : Int), (0 : Int)))))).2.2.1.2.2) ((nthI a7 a5 ([], ([], (((0 : Int), ((0 : Int), (0 : Int))), ((0 : Int), (0 : Int)))))).2.2.2.1) ((nthI a7 a5 ([], ([], (((0 : Int), ((0 : Int), (0 : Int))), ((0 : Int), (0 : Int)))))).2.2.2.2) ((nthI a6 a5 ([], ([], (((0 : Int), ((0 : Int), (0 : Int))), ((0 : Int), (0 : Int)))))).1) ((nthI a6 a5 ([], ([], (((0 : Int), ((0 : Int), (0 : Int))), ((0 : Int), (0 : Int)))))).2.1) ((nthI a7 a5 ([], ([], (((0 : Int), ((0 : Int), (0 : Int))), ((0 : Int), (0 : Int)))))).1) ((nthI a7 a5 ([], ([], (((0 : Int), ((0 : Int), (0 : Int))), ((0 : Int), (0 : Int)))))).2.1)) fun r10 =>
    (bif (!r10) then
    (e4_0 false)
    else
    (L.eqQueryS_l0 m e4_0 e4_1 (IntKind.wrap .i64 (a5 + 1)) a6 a7)))
    else
    none)
    else
    none)
    else
    e4_1)
noncomputable def L.eqQueryS (a1 a2 : List (List (Int × Int) × List (Int × Int) × (Int × Int × Int) × Int × Int)) : Option Bool :=
(bif ((a1.length : Int) != (a2.length : Int)) then
(some false)
else
(L.eqQueryS_l0 fu (fun y12 =>
(some y12)) (some true) 0 a1 a2))
noncomputable def H134_4 : LoopH := ⟨⟨((.one (.sl 0)) :: (.one (.sl 1)) :: (hu 3 (hh :: (hu 21 [])))), [], [(173, (.pair (.sl 260 (.pair (.int .i64) (.int .i64))) (.pair (.sl 260 (.pair (.int .i64) (.int .i64))) (.pair (.pair (.int .i64) (.pair (.int .i64) (.int .i64))) (.pair (.int .i64) (.int .i64))))), .ro), (173, (.pair (.sl 260 (.pair (.int .i64) (.int .i64))) (.pair (.sl 260 (.pair (.int .i64) (.int .i64))) (.pair (.pair (.int .i64) (.pair (.int .i64) (.int .i64))) (.pair (.int .i64) (.int .i64))))), .ro)]⟩, [2, 3, 4, 6, 7, 8, 9, 10, 11, 12, 13, 14, 15, 16, 17, 18, 19, 20, 21, 22, 23, 24, 25, 26], [], [0, 1, 2, 3, 5, 6, 7, 8, 9, 10, 11, 12, 13, 14, 15, 16, 17, 18, 19, 20, 21, 22, 23, 24, 25, 26]⟩
noncomputable def E134_4 (m : Nat) (ps : List Prm) (k : Kont Bool) : Option Bool :=
  match ps with
  | [.v (.int .i64 a5), .row (.pair (.sl 260 (.pair (.int .i64) (.int .i64))) (.pair (.sl 260 (.pair (.int .i64) (.int .i64))) (.pair (.pair (.int .i64) (.pair (.int .i64) (.int .i64))) (.pair (.int .i64) (.int .i64))))) a6, .row (.pair (.sl 260 (.pair (.int .i64) (.int .i64))) (.pair (.sl 260 (.pair (.int .i64) (.int .i64))) (.pair (.pair (.int .i64) (.pair (.int .i64) (.int .i64))) (.pair (.int .i64) (.int .i64))))) a7] => L.eqQueryS_l0 m (fun z14 => k .ret (⟨(vu 4 ((vb z14) :: (vu 22 []))), [], []⟩ : St)) (k (.exit 0) (⟨(vu 27 []), [], []⟩ : St)) a5 a6 a7
  | _ => none
noncomputable def S134_4 (a5 : Int) (a6 a7 : List (List (Int × Int) × List (Int × Int) × (Int × Int × Int) × Int × Int)) : St := (⟨((vl 0) :: (vl 1) :: (vu 3 ((vi a5) :: (vu 21 [])))), [], [⟨173, (.pair (.sl 260 (.pair (.int .i64) (.int .i64))) (.pair (.sl 260 (.pair (.int .i64) (.int .i64))) (.pair (.pair (.int .i64) (.pair (.int .i64) (.int .i64))) (.pair (.int .i64) (.int .i64))))), a6, .ro⟩, ⟨173, (.pair (.sl 260 (.pair (.int .i64) (.int .i64))) (.pair (.sl 260 (.pair (.int .i64) (.int .i64))) (.pair (.pair (.int .i64) (.pair (.int .i64) (.int .i64))) (.pair (.int .i64) (.int .i64))))), a7, .ro⟩]⟩ : St)
theorem ev134_4 (m : Nat) (k : Kont Bool) (a5 : Int) (a6 a7 : List (List (Int × Int) × List (Int × Int) × (Int × Int × Int) × Int × Int)) : evC Try.prog G134 loopNil c134_4 (S134_4 a5 a6 a7) (turn Try.prog (0, 0) H134_4 (E134_4 m) k) = E134_4 (m + 1) [.v (.int .i64 a5), .row (.pair (.sl 260 (.pair (.int .i64) (.int .i64))) (.pair (.sl 260 (.pair (.int .i64) (.int .i64))) (.pair (.pair (.int .i64) (.pair (.int .i64) (.int .i64))) (.pair (.int .i64) (.int .i64))))) a6, .row (.pair (.sl 260 (.pair (.int .i64) (.int .i64))) (.pair (.sl 260 (.pair (.int .i64) (.int .i64))) (.pair (.pair (.int .i64) (.pair (.int .i64) (.int .i64))) (.pair (.int .i64) (.int .i64))))) a7] k := by kernel_rfl
theorem ok134_4 (m : Nat) : LoopOk Try.prog (0, 0) c134_4 (enter Try.prog (0, 0) H134_4 (E134_4 m)) := by
  refine loop_ok (G := G134) (L := loopNil) (envCons_good good186 envNil_good) (by intro x hx; simp [show loopsOf c134_4 = [] from by kernel_rfl] at hx) (fun ps k => by unfold E134_4; split <;> rfl) (fun m ps k r h => ?_) m
  have h0 := h
  unfold E134_4 at h
  split at h
  · exact ⟨S134_4 _ _ _, by kernel_rfl, (ev134_4 m k _ _ _).trans h0⟩
  · cases h
noncomputable def L134 : LEnv Bool := (loopCons 4 (enter Try.prog (0, 0) H134_4 (E134_4 fu)) loopNil)
theorem lq134 : loopsOf c134 = [c134_4] := by kernel_rfl
theorem fr134_4 : firstReg c134_4 = some 4 := by kernel_rfl
theorem le134_4 : L134 4 = enter Try.prog (0, 0) H134_4 (E134_4 fu) := by kernel_rfl
theorem lm134 : ∀ x ∈ [c134_4], ∀ id, firstReg x = some id → LoopOk Try.prog (0, 0) x (L134 id) := (loops_cons fr134_4 le134_4 (ok134_4 fu) loops_nil)
theorem lp134 : ∀ x ∈ loopsOf c134, ∀ id, firstReg x = some id → LoopOk Try.prog (0, 0) x (L134 id) := loops_eq lq134 lm134
noncomputable def R134 (x : Bool) : Res := ⟨[.one (ab x)], [], []⟩
noncomputable def K134 (r : Res) : Option Bool :=
  match r with
  | ⟨[.one (.val (.bool v1))], [], []⟩ => some (v1)
  | _ => none
noncomputable def E134 : Fun2 := fun args bs rs =>
  match args, bs, rs with
  | [.s1 (.one (.sl 0)), .s1 (.one (.sl 1))], [], [⟨173, (.pair (.sl 260 (.pair (.int .i64) (.int .i64))) (.pair (.sl 260 (.pair (.int .i64) (.int .i64))) (.pair (.pair (.int .i64) (.pair (.int .i64) (.int .i64))) (.pair (.int .i64) (.int .i64))))), a1, .ro⟩, ⟨173, (.pair (.sl 260 (.pair (.int .i64) (.int .i64))) (.pair (.sl 260 (.pair (.int .i64) (.int .i64))) (.pair (.pair (.int .i64) (.pair (.int .i64) (.int .i64))) (.pair (.int .i64) (.int .i64))))), a2, .ro⟩] => some ⟨Bool, L.eqQueryS a1 a2, R134⟩
  | _, _, _ => none
theorem ev134 (a1 a2 : List (List (Int × Int) × List (Int × Int) × (Int × Int × Int) × Int × Int)) : evF Try.prog G134 L134 (0, 0) Try.f134 c134 [vl 0, vl 1] [] [⟨173, (.pair (.sl 260 (.pair (.int .i64) (.int .i64))) (.pair (.sl 260 (.pair (.int .i64) (.int .i64))) (.pair (.pair (.int .i64) (.pair (.int .i64) (.int .i64))) (.pair (.int .i64) (.int .i64))))), a1, .ro⟩, ⟨173, (.pair (.sl 260 (.pair (.int .i64) (.int .i64))) (.pair (.sl 260 (.pair (.int .i64) (.int .i64))) (.pair (.pair (.int .i64) (.pair (.int .i64) (.int .i64))) (.pair (.int .i64) (.int .i64))))), a2, .ro⟩] K134 = L.eqQueryS a1 a2 := by kernel_rfl
theorem good134 : Vm.Good Try.prog 134 E134 := by
  refine evF_good (G := G134) (c := c134) (envCons_good good186 envNil_good) Try.func134 (by kernel_rfl) (by kernel_rfl) (0, 0) (fun args bs rs out t h h2 => ?_)
  unfold E134 at h
  split at h
  · injection h with h
    subst h
    exact ⟨rfl, L134, K134, lp134, (fun r t h => by unfold K134 at h; split at h; (injection h with h; subst h; rfl); cases h), (ev134 _ _).trans h2⟩
  · cases h
/-! ### L.eqSub -/
noncomputable def G187 : Env := envNil
noncomputable def c187 : Code := bodyOf Try.f187
noncomputable def L.eqSub (a1 a2 a3 a4 a5 a6 : Int) : Option Bool :=
(bif (a1 != a4) then
(some false)
else
(bif (a2 != a5) then
(some false)
else
(bif (a3 != a6) then
(some false)
else
(some true))))
noncomputable def R187 (x : Bool) : Res := ⟨[.one (ab x)], [], []⟩
noncomputable def K187 (r : Res) : Option Bool :=
  match r with
  | ⟨[.one (.val (.bool v1))], [], []⟩ => some (v1)
  | _ => none
noncomputable def E187 : Fun2 := fun args bs rs =>
  match args, bs, rs with
  | [.s1 (.agg [.val (.int .i64 a1), .val (.int .i64 a2), .val (.int .i64 a3)]), .s1 (.agg [.val (.int .i64 a4), .val (.int .i64 a5), .val (.int .i64 a6)])], [], [] => some ⟨Bool, L.eqSub a1 a2 a3 a4 a5 a6, R187⟩
  | _, _, _ => none
theorem ev187 (a1 a2 a3 a4 a5 a6 : Int) : evF Try.prog G187 loopNil (0, 0) Try.f187 c187 [.s1 (.agg [ai a1, ai a2, ai a3]), .s1 (.agg [ai a4, ai a5, ai a6])] [] [] K187 = L.eqSub a1 a2 a3 a4 a5 a6 := by kernel_rfl
theorem good187 : Vm.Good Try.prog 187 E187 := by
  refine evF_good (G := G187) (c := c187) envNil_good Try.func187 (by kernel_rfl) (by kernel_rfl) (0, 0) (fun args bs rs out t h h2 => ?_)
  unfold E187 at h
  split at h
  · injection h with h
    subst h
    exact ⟨rfl, loopNil, K187, (by intro x hx; simp [show loopsOf c187 = [] from by kernel_rfl] at hx), (fun r t h => by unfold K187 at h; split at h; (injection h with h; subst h; rfl); cases h), (ev187 _ _ _ _ _ _).trans h2⟩
  · cases h
/-! ### L.eqSubS -/
noncomputable def G135 : Env := (envCons 187 [] E187 envNil)
noncomputable def c135 : Code := bodyOf Try.f135
noncomputable def c135_4 : Code := (loopsOf c135).getD 0 .skip
noncomputable def L.eqSubS_l0 : Nat → (Bool → Option Bool) → (Option Bool) → Int → (List (Int × Int × Int)) → (List (Int × Int × Int)) → Option Bool
  | 0, _, _, _, _, _ => none
  | m + 1, e4_0, e4_1, a5, a6, a7 =>
    (bif (decide (a5 < (a6.length : Int))) then
    (bif decide ((0 : Int) ≤ a5 ∧ a5 < (a6.length : Int)) then
    (bif decide ((0 : Int) ≤ a5 ∧ a5 < (a7.length : Int)) then
    (Option.bind (L.eqSub ((nthI a6 a5 ((0 : Int), ((0 : Int), (0 : Int)))).1) ((nthI a6 a5 ((0 : Int), ((0 : Int), (0 : Int)))).2.1) ((nthI a6 a5 ((0 : Int), ((0 : Int), (0 : Int)))).2.2) ((nthI a7 a5 ((0 : Int), ((0 : Int), (0 : Int)))).1) ((nthI a7 a5 ((0 : Int), ((0 : Int), (0 : Int)))).2.1) ((nthI a7 a5 ((0 : Int), ((0 : Int), (0 : Int)))).2.2)) fun r10 =>
    (bif (!r10) then
    (e4_0 false)
    else
    (L.eqSubS_l0 m e4_0 e4_1 (IntKind.wrap .i64 (a5 + 1)) a6 a7)))
    else
    none)
    else
    none)
    else
    e4_1)
noncomputable def L.eqSubS (a1 a2 : List (Int × Int × Int)) : Option Bool :=
(bif ((a1.length : Int) != (a2.length : Int)) then
(some false)
else
(L.eqSubS_l0 fu (fun y12 =>
(some y12)) (some true) 0 a1 a2))
noncomputable def H135_4 : LoopH := ⟨⟨((.one (.sl 0)) :: (.one (.sl 1)) :: (hu 3 (hh :: (hu 21 [])))), [], [(175, (.pair (.int .i64) (.pair (.int .i64) (.int .i64))), .ro), (175, (.pair (.int .i64) (.pair (.int .i64) (.int .i64))), .ro)]⟩, [2, 3, 4, 6, 7, 8, 9, 10, 11, 12, 13, 14, 15, 16, 17, 18, 19, 20, 21, 22, 23, 24, 25, 26], [], [0, 1, 2, 3, 5, 6, 7, 8, 9, 10, 11, 12, 13, 14, 15, 16, 17, 18, 19, 20, 21, 22, 23, 24, 25, 26]⟩
noncomputable def E135_4 (m : Nat) (ps : List Prm) (k : Kont Bool) : Option Bool :=
  match ps with
  | [.v (.int .i64 a5), .row (.pair (.int .i64) (.pair (.int .i64) (.int .i64))) a6, .row (.pair (.int .i64) (.pair (.int .i64) (.int .i64))) a7] => L.eqSubS_l0 m (fun z14 => k .ret (⟨(vu 4 ((vb z14) :: (vu 22 []))), [], []⟩ : St)) (k (.exit 0) (⟨(vu 27 []), [], []⟩ : St)) a5 a6 a7
  | _ => none
noncomputable def S135_4 (a5 : Int) (a6 a7 : List (Int × Int × Int)) : St := (⟨((vl 0) :: (vl 1) :: (vu 3 ((vi a5) :: (vu 21 [])))), [], [⟨175, (.pair (.int .i64) (.pair (.int .i64) (.int .i64))), a6, .ro⟩, ⟨175, (.pair (.int .i64) (.pair (.int .i64) (.int .i64))), a7, .ro⟩]⟩ : St)
theorem ev135_4 (m : Nat) (k : Kont Bool) (a5 : Int) (a6 a7 : List (Int × Int × Int)) : evC Try.prog G135 loopNil c135_4 (S135_4 a5 a6 a7) (turn Try.prog (0, 0) H135_4 (E135_4 m) k) = E135_4 (m + 1) [.v (.int .i64 a5), .row (.pair (.int .i64) (.pair (.int .i64) (.int .i64))) a6, .row (.pair (.int .i64) (.pair (.int .i64) (.int .i64))) a7] k := by kernel_rfl
theorem ok135_4 (m : Nat) : LoopOk Try.prog (0, 0) c135_4 (enter Try.prog (0, 0) H135_4 (E135_4 m)) := by
  refine loop_ok (G := G135) (L := loopNil) (envCons_good good187 envNil_good) (by intro x hx; simp [show loopsOf c135_4 = [] from by kernel_rfl] at hx) (fun ps k => by unfold E135_4; split <;> rfl) (fun m ps k r h => ?_) m
  have h0 := h
  unfold E135_4 at h
  split at h
  · exact ⟨S135_4 _ _ _, by kernel_rfl, (ev135_4 m k _ _ _).trans h0⟩
  · cases h
noncomputable def L135 : LEnv Bool := (loopCons 4 (enter Try.prog (0, 0) H135_4 (E135_4 fu)) loopNil)
theorem lq135 : loopsOf c135 = [c135_4] := by kernel_rfl
theorem fr135_4 : firstReg c135_4 = some 4 := by kernel_rfl
theorem le135_4 : L135 4 = enter Try.prog (0, 0) H135_4 (E135_4 fu) := by kernel_rfl
theorem lm135 : ∀ x ∈ [c135_4], ∀ id, firstReg x = some id → LoopOk Try.prog (0, 0) x (L135 id) := (loops_cons fr135_4 le135_4 (ok135_4 fu) loops_nil)
theorem lp135 : ∀ x ∈ loopsOf c135, ∀ id, firstReg x = some id → LoopOk Try.prog (0, 0) x (L135 id) := loops_eq lq135 lm135
noncomputable def R135 (x : Bool) : Res := ⟨[.one (ab x)], [], []⟩
noncomputable def K135 (r : Res) : Option Bool :=
  match r with
  | ⟨[.one (.val (.bool v1))], [], []⟩ => some (v1)
  | _ => none
noncomputable def E135 : Fun2 := fun args bs rs =>
  match args, bs, rs with
  | [.s1 (.one (.sl 0)), .s1 (.one (.sl 1))], [], [⟨175, (.pair (.int .i64) (.pair (.int .i64) (.int .i64))), a1, .ro⟩, ⟨175, (.pair (.int .i64) (.pair (.int .i64) (.int .i64))), a2, .ro⟩] => some ⟨Bool, L.eqSubS a1 a2, R135⟩
  | _, _, _ => none
theorem ev135 (a1 a2 : List (Int × Int × Int)) : evF Try.prog G135 L135 (0, 0) Try.f135 c135 [vl 0, vl 1] [] [⟨175, (.pair (.int .i64) (.pair (.int .i64) (.int .i64))), a1, .ro⟩, ⟨175, (.pair (.int .i64) (.pair (.int .i64) (.int .i64))), a2, .ro⟩] K135 = L.eqSubS a1 a2 := by kernel_rfl
theorem good135 : Vm.Good Try.prog 135 E135 := by
  refine evF_good (G := G135) (c := c135) (envCons_good good187 envNil_good) Try.func135 (by kernel_rfl) (by kernel_rfl) (0, 0) (fun args bs rs out t h h2 => ?_)
  unfold E135 at h
  split at h
  · injection h with h
    subst h
    exact ⟨rfl, L135, K135, lp135, (fun r t h => by unfold K135 at h; split at h; (injection h with h; subst h; rfl); cases h), (ev135 _ _).trans h2⟩
  · cases h
/-! ### L.eqRule -/
noncomputable def G188 : Env := envNil
noncomputable def c188 : Code := bodyOf Try.f188
noncomputable def L.eqRule (a1 a2 a3 a4 a5 a6 a7 a8 a9 a10 : Int) : Option Bool :=
(bif (a1 != a6) then
(some false)
else
(bif (a2 != a7) then
(some false)
else
(bif (a3 != a8) then
(some false)
else
(bif (a4 != a9) then
(some false)
else
(bif (a5 != a10) then
(some false)
else
(some true))))))
noncomputable def R188 (x : Bool) : Res := ⟨[.one (ab x)], [], []⟩
noncomputable def K188 (r : Res) : Option Bool :=
  match r with
  | ⟨[.one (.val (.bool v1))], [], []⟩ => some (v1)
  | _ => none
noncomputable def E188 : Fun2 := fun args bs rs =>
  match args, bs, rs with
  | [.s1 (.agg [.val (.int .i64 a1), .val (.int .i64 a2), .val (.int .i64 a3), .val (.int .i64 a4), .val (.int .i64 a5)]), .s1 (.agg [.val (.int .i64 a6), .val (.int .i64 a7), .val (.int .i64 a8), .val (.int .i64 a9), .val (.int .i64 a10)])], [], [] => some ⟨Bool, L.eqRule a1 a2 a3 a4 a5 a6 a7 a8 a9 a10, R188⟩
  | _, _, _ => none
theorem ev188 (a1 a2 a3 a4 a5 a6 a7 a8 a9 a10 : Int) : evF Try.prog G188 loopNil (0, 0) Try.f188 c188 [.s1 (.agg [ai a1, ai a2, ai a3, ai a4, ai a5]), .s1 (.agg [ai a6, ai a7, ai a8, ai a9, ai a10])] [] [] K188 = L.eqRule a1 a2 a3 a4 a5 a6 a7 a8 a9 a10 := by kernel_rfl
theorem good188 : Vm.Good Try.prog 188 E188 := by
  refine evF_good (G := G188) (c := c188) envNil_good Try.func188 (by kernel_rfl) (by kernel_rfl) (0, 0) (fun args bs rs out t h h2 => ?_)
  unfold E188 at h
  split at h
  · injection h with h
    subst h
    exact ⟨rfl, loopNil, K188, (by intro x hx; simp [show loopsOf c188 = [] from by kernel_rfl] at hx), (fun r t h => by unfold K188 at h; split at h; (injection h with h; subst h; rfl); cases h), (ev188 _ _ _ _ _ _ _ _ _ _).trans h2⟩
  · cases h
/-! ### L.eqRuleS -/
noncomputable def G136 : Env := (envCons 188 [] E188 envNil)
noncomputable def c136 : Code := bodyOf Try.f136
noncomputable def c136_4 : Code := (loopsOf c136).getD 0 .skip
noncomputable def L.eqRuleS_l0 : Nat → (Bool → Option Bool) → (Option Bool) → Int → (List (Int × Int × Int × Int × Int)) → (List (Int × Int × Int × Int × Int)) → Option Bool
  | 0, _, _, _, _, _ => none
  | m + 1, e4_0, e4_1, a5, a6, a7 =>
    (bif (decide (a5 < (a6.length : Int))) then
    (bif decide ((0 : Int) ≤ a5 ∧ a5 < (a6.length : Int)) then
    (bif decide ((0 : Int) ≤ a5 ∧ a5 < (a7.length : Int)) then
    (Option.bind (L.eqRule ((nthI a6 a5 ((0 : Int), ((0 : Int), ((0 : Int), ((0 : Int), (0 : Int)))))).1) ((nthI a6 a5 ((0 : Int), ((0 : Int), ((0 : Int), ((0 : Int), (0 : Int)))))).2.1) ((nthI a6 a5 ((0 : Int), ((0 : Int), ((0 : Int), ((0 : Int), (0 : Int)))))).2.2.1) ((nthI a6 a5 ((0 : Int), ((0 : Int), ((0 : Int), ((0 : Int), (0 : Int)))))).2.2.2.1) ((nthI a6 a5 ((0 : Int), ((0 : Int), ((0 : Int), ((0 : Int), (0 : Int)))))).2.2.2.2) ((nthI a7 a5 ((0 : Int), ((0 : Int), ((0 : Int), ((0 : Int), (0 : Int)))))).1) ((nthI a7 a5 ((0 : Int), ((0 : Int), ((0 : Int), ((0 : Int), (0 : Int)))))).2.1) ((nthI a7 a5 ((0 : Int), ((0 : Int), ((0 : Int), ((0 : Int), (0 : Int)))))).2.2.1) ((nthI a7 a5 ((0 : Int), ((0 : Int), ((0 : Int), ((0 : Int), (0 : Int)))))).2.2.2.1) ((nthI a7 a5 ((0 : Int), ((0 : Int), ((0 : Int), ((0 : Int), (0 : Int)))))).2.2.2.2)) fun r10 =>
    (bif (!r10) then
    (e4_0 false)
    else
    (L.eqRuleS_l0 m e4_0 e4_1 (IntKind.wrap .i64 (a5 + 1)) a6 a7)))
    else
    none)
    else
    none)
    else
    e4_1)
noncomputable def L.eqRuleS (a1 a2 : List (Int × Int × Int × Int × Int)) : Option Bool :=
(bif ((a1.length : Int) != (a2.length : Int)) then
(some false)
else
(L.eqRuleS_l0 fu (fun y12 =>
(some y12)) (some true) 0 a1 a2))
noncomputable def H136_4 : LoopH := ⟨⟨((.one (.sl 0)) :: (.one (.sl 1)) :: (hu 3 (hh :: (hu 21 [])))), [], [(178, (.pair (.int .i64) (.pair (.int .i64) (.pair (.int .i64) (.pair (.int .i64) (.int .i64))))), .ro), (178, (.pair (.int .i64) (.pair (.int .i64) (.pair (.int .i64) (.pair (.int .i64) (.int .i64))))), .ro)]⟩, [2, 3, 4, 6, 7, 8, 9, 10, 11, 12, 13, 14, 15, 16, 17, 18, 19, 20, 21, 22, 23, 24, 25, 26], [], [0, 1, 2, 3, 5, 6, 7, 8, 9, 10, 11, 12, 13, 14, 15, 16, 17, 18, 19, 20, 21, 22, 23, 24, 25, 26]⟩
noncomputable def E136_4 (m : Nat) (ps : List Prm) (k : Kont Bool) : Option Bool :=
  match ps with
  | [.v (.int .i64 a5), .row (.pair (.int .i64) (.pair (.int .i64) (.pair (.int .i64) (.pair (.int .i64) (.int .i64))))) a6, .row (.pair (.int .i64) (.pair (.int .i64) (.pair (.int .i64) (.pair (.int .i64) (.int .i64))))) a7] => L.eqRuleS_l0 m (fun z14 => k .ret (⟨(vu 4 ((vb z14) :: (vu 22 []))), [], []⟩ : St)) (k (.exit 0) (⟨(vu 27 []), [], []⟩ : St)) a5 a6 a7
  | _ => none
noncomputable def S136_4 (a5 : Int) (a6 a7 : List (Int × Int × Int × Int × Int)) : St := (⟨((vl 0) :: (vl 1) :: (vu 3 ((vi a5) :: (vu 21 [])))), [], [⟨178, (.pair (.int .i64) (.pair (.int .i64) (.pair (.int .i64) (.pair (.int .i64) (.int .i64))))), a6, .ro⟩, ⟨178, (.pair (.int .i64) (.pair (.int .i64) (.pair (.int .i64) (.pair (.int .i64) (.int .i64))))), a7, .ro⟩]⟩ : St)
theorem ev136_4 (m : Nat) (k : Kont Bool) (a5 : Int) (a6 a7 : List (Int × Int × Int × Int × Int)) : evC Try.prog G136 loopNil c136_4 (S136_4 a5 a6 a7) (turn Try.prog (0, 0) H136_4 (E136_4 m) k) = E136_4 (m + 1) [.v (.int .i64 a5), .row (.pair (.int .i64) (.pair (.int .i64) (.pair (.int .i64) (.pair (.int .i64) (.int .i64))))) a6, .row (.pair (.int .i64) (.pair (.int .i64) (.pair (.int .i64) (.pair (.int .i64) (.int .i64))))) a7] k := by kernel_rfl
theorem ok136_4 (m : Nat) : LoopOk Try.prog (0, 0) c136_4 (enter Try.prog (0, 0) H136_4 (E136_4 m)) := by
  refine loop_ok (G := G136) (L := loopNil) (envCons_good good188 envNil_good) (by intro x hx; simp [show loopsOf c136_4 = [] from by kernel_rfl] at hx) (fun ps k => by unfold E136_4; split <;> rfl) (fun m ps k r h => ?_) m
  have h0 := h
  unfold E136_4 at h
  split at h
  · exact ⟨S136_4 _ _ _, by kernel_rfl, (ev136_4 m k _ _ _).trans h0⟩
  · cases h
noncomputable def L136 : LEnv Bool := (loopCons 4 (enter Try.prog (0, 0) H136_4 (E136_4 fu)) loopNil)
theorem lq136 : loopsOf c136 = [c136_4] := by kernel_rfl
theorem fr136_4 : firstReg c136_4 = some 4 := by kernel_rfl
theorem le136_4 : L136 4 = enter Try.prog (0, 0) H136_4 (E136_4 fu) := by kernel_rfl
theorem lm136 : ∀ x ∈ [c136_4], ∀ id, firstReg x = some id → LoopOk Try.prog (0, 0) x (L136 id) := (loops_cons fr136_4 le136_4 (ok136_4 fu) loops_nil)
theorem lp136 : ∀ x ∈ loopsOf c136, ∀ id, firstReg x = some id → LoopOk Try.prog (0, 0) x (L136 id) := loops_eq lq136 lm136
noncomputable def R136 (x : Bool) : Res := ⟨[.one (ab x)], [], []⟩
noncomputable def K136 (r : Res) : Option Bool :=
  match r with
  | ⟨[.one (.val (.bool v1))], [], []⟩ => some (v1)
  | _ => none
noncomputable def E136 : Fun2 := fun args bs rs =>
  match args, bs, rs with
  | [.s1 (.one (.sl 0)), .s1 (.one (.sl 1))], [], [⟨178, (.pair (.int .i64) (.pair (.int .i64) (.pair (.int .i64) (.pair (.int .i64) (.int .i64))))), a1, .ro⟩, ⟨178, (.pair (.int .i64) (.pair (.int .i64) (.pair (.int .i64) (.pair (.int .i64) (.int .i64))))), a2, .ro⟩] => some ⟨Bool, L.eqRuleS a1 a2, R136⟩
  | _, _, _ => none
theorem ev136 (a1 a2 : List (Int × Int × Int × Int × Int)) : evF Try.prog G136 L136 (0, 0) Try.f136 c136 [vl 0, vl 1] [] [⟨178, (.pair (.int .i64) (.pair (.int .i64) (.pair (.int .i64) (.pair (.int .i64) (.int .i64))))), a1, .ro⟩, ⟨178, (.pair (.int .i64) (.pair (.int .i64) (.pair (.int .i64) (.pair (.int .i64) (.int .i64))))), a2, .ro⟩] K136 = L.eqRuleS a1 a2 := by kernel_rfl
theorem good136 : Vm.Good Try.prog 136 E136 := by
  refine evF_good (G := G136) (c := c136) (envCons_good good188 envNil_good) Try.func136 (by kernel_rfl) (by kernel_rfl) (0, 0) (fun args bs rs out t h h2 => ?_)
  unfold E136 at h
  split at h
  · injection h with h
    subst h
    exact ⟨rfl, L136, K136, lp136, (fun r t h => by unfold K136 at h; split at h; (injection h with h; subst h; rfl); cases h), (ev136 _ _).trans h2⟩
  · cases h
/-! ### L.eqConf -/
noncomputable def G65 : Env := (envCons 36 [] E36 (envCons 134 [] E134 (envCons 135 [] E135 (envCons 136 [] E136 envNil))))
noncomputable def c65 : Code := bodyOf Try.f65
noncomputable def L.eqConf (a1 a2 a3 a4 a5 a6 : Int) (a7 : List Int) (a8 : List (List (Int × Int) × List (Int × Int) × (Int × Int × Int) × Int × Int)) (a9 : List (Int × Int × Int)) (a10 : List (Int × Int × Int × Int × Int)) (a11 : List Int) (a12 : List (List (Int × Int) × List (Int × Int) × (Int × Int × Int) × Int × Int)) (a13 : List (Int × Int × Int)) (a14 : List (Int × Int × Int × Int × Int)) : Option Bool :=
(Option.bind (L.eqLat a1 a4 a7 a11) fun r15 =>
(bif (!r15) then
(some false)
else
(bif (a2 != a5) then
(some false)
else
(bif (a3 != a6) then
(some false)
else
(Option.bind (L.eqQueryS a8 a12) fun r16 =>
(bif (!r16) then
(some false)
else
(Option.bind (L.eqSubS a9 a13) fun r17 =>
(bif (!r17) then
(some false)
else
(Option.bind (L.eqRuleS a10 a14) fun r18 =>
(bif (!r18) then
(some false)
else
(some true)))))))))))
noncomputable def R65 (x : Bool) : Res := ⟨[.one (ab x)], [], []⟩
noncomputable def K65 (r : Res) : Option Bool :=
  match r with
  | ⟨[.one (.val (.bool v1))], [], []⟩ => some (v1)
  | _ => none
noncomputable def E65 : Fun2 := fun args bs rs =>
  match args, bs, rs with
  | [.s1 (.agg [.val (.int .i64 a1), .sl 0, .val (.int .i64 a2), .val (.int .i64 a3), .sl 1, .sl 2, .sl 3]), .s1 (.agg [.val (.int .i64 a4), .sl 4, .val (.int .i64 a5), .val (.int .i64 a6), .sl 5, .sl 6, .sl 7])], [], [⟨145, (.int .u64), a7, .ro⟩, ⟨173, (.pair (.sl 260 (.pair (.int .i64) (.int .i64))) (.pair (.sl 260 (.pair (.int .i64) (.int .i64))) (.pair (.pair (.int .i64) (.pair (.int .i64) (.int .i64))) (.pair (.int .i64) (.int .i64))))), a8, .ro⟩, ⟨175, (.pair (.int .i64) (.pair (.int .i64) (.int .i64))), a9, .ro⟩, ⟨178, (.pair (.int .i64) (.pair (.int .i64) (.pair (.int .i64) (.pair (.int .i64) (.int .i64))))), a10, .ro⟩, ⟨145, (.int .u64), a11, .ro⟩, ⟨173, (.pair (.sl 260 (.pair (.int .i64) (.int .i64))) (.pair (.sl 260 (.pair (.int .i64) (.int .i64))) (.pair (.pair (.int .i64) (.pair (.int .i64) (.int .i64))) (.pair (.int .i64) (.int .i64))))), a12, .ro⟩, ⟨175, (.pair (.int .i64) (.pair (.int .i64) (.int .i64))), a13, .ro⟩, ⟨178, (.pair (.int .i64) (.pair (.int .i64) (.pair (.int .i64) (.pair (.int .i64) (.int .i64))))), a14, .ro⟩] => some ⟨Bool, L.eqConf a1 a2 a3 a4 a5 a6 a7 a8 a9 a10 a11 a12 a13 a14, R65⟩
  | _, _, _ => none
theorem ev65 (a1 a2 a3 a4 a5 a6 : Int) (a7 : List Int) (a8 : List (List (Int × Int) × List (Int × Int) × (Int × Int × Int) × Int × Int)) (a9 : List (Int × Int × Int)) (a10 : List (Int × Int × Int × Int × Int)) (a11 : List Int) (a12 : List (List (Int × Int) × List (Int × Int) × (Int × Int × Int) × Int × Int)) (a13 : List (Int × Int × Int)) (a14 : List (Int × Int × Int × Int × Int)) : evF Try.prog G65 loopNil (0, 0) Try.f65 c65 [.s1 (.agg [ai a1, .sl 0, ai a2, ai a3, .sl 1, .sl 2, .sl 3]), .s1 (.agg [ai a4, .sl 4, ai a5, ai a6, .sl 5, .sl 6, .sl 7])] [] [⟨145, (.int .u64), a7, .ro⟩, ⟨173, (.pair (.sl 260 (.pair (.int .i64) (.int .i64))) (.pair (.sl 260 (.pair (.int .i64) (.int .i64))) (.pair (.pair (.int .i64) (.pair (.int .i64) (.int .i64))) (.pair (.int .i64) (.int .i64))))), a8, .ro⟩, ⟨175, (.pair (.int .i64) (.pair (.int .i64) (.int .i64))), a9, .ro⟩, ⟨178, (.pair (.int .i64) (.pair (.int .i64) (.pair (.int .i64) (.pair (.int .i64) (.int .i64))))), a10, .ro⟩, ⟨145, (.int .u64), a11, .ro⟩, ⟨173, (.pair (.sl 260 (.pair (.int .i64) (.int .i64))) (.pair (.sl 260 (.pair (.int .i64) (.int .i64))) (.pair (.pair (.int .i64) (.pair (.int .i64) (.int .i64))) (.pair (.int .i64) (.int .i64))))), a12, .ro⟩, ⟨175, (.pair (.int .i64) (.pair (.int .i64) (.int .i64))), a13, .ro⟩, ⟨178, (.pair (.int .i64) (.pair (.int .i64) (.pair (.int .i64) (.pair (.int .i64) (.int .i64))))), a14, .ro⟩] K65 = L.eqConf a1 a2 a3 a4 a5 a6 a7 a8 a9 a10 a11 a12 a13 a14 := by kernel_rfl
theorem good65 : Vm.Good Try.prog 65 E65 := by
  refine evF_good (G := G65) (c := c65) (envCons_good good36 (envCons_good good134 (envCons_good good135 (envCons_good good136 envNil_good)))) Try.func65 (by kernel_rfl) (by kernel_rfl) (0, 0) (fun args bs rs out t h h2 => ?_)
  unfold E65 at h
  split at h
  · injection h with h
    subst h
    exact ⟨rfl, loopNil, K65, (by intro x hx; simp [show loopsOf c65 = [] from by kernel_rfl] at hx), (fun r t h => by unfold K65 at h; split at h; (injection h with h; subst h; rfl); cases h), (ev65 _ _ _ _ _ _ _ _ _ _ _ _ _ _).trans h2⟩
  · cases h
/-! ### L.markUint64S -/
noncomputable def G103 : Env := envNil
noncomputable def c103 : Code := bodyOf Try.f103
noncomputable def c103_2 : Code := (loopsOf c103).getD 0 .skip
noncomputable def L.markUint64S_l0 : Nat → (Int → List Int → Option (Int × List Int)) → Int → Int → List Int → Option (Int × List Int)
  | 0, _, _, _, _ => none
  | m + 1, e2_0, a3, a4, a5 =>
    (bif (decide (a4 < (a5.length : Int))) then
    (bif decide ((0 : Int) ≤ a4 ∧ a4 < (a5.length : Int)) then
    (L.markUint64S_l0 m e2_0 (IntKind.wrap .i64 (a3 + 1)) (IntKind.wrap .i64 (a4 + 1)) (a5.set (Int.toNat a4) (IntKind.wrap .u64 a3)))
    else
    none)
    else
    (e2_0 a3 a5))
noncomputable def L.markUint64S (a1 : Int) (a2 : List Int) : Option (Int × List Int) :=
(L.markUint64S_l0 fu (fun y12 y13 =>
(some (y12, y13))) a1 0 a2)
noncomputable def H103_2 : LoopH := ⟨⟨((.one (.sl 0)) :: hh :: (hu 3 (hh :: (hu 14 [])))), [], [(145, (.int .u64), .own)]⟩, [2, 3, 4, 6, 7, 8, 9, 10, 11, 12, 13, 14, 15, 16, 17, 18, 19], [], [0, 2, 3, 5, 6, 7, 8, 9, 10, 11, 12, 13, 14, 15, 16, 17, 18, 19]⟩
noncomputable def E103_2 (m : Nat) (ps : List Prm) (k : Kont (Int × List Int)) : Option (Int × List Int) :=
  match ps with
  | [.v (.int .i64 a3), .v (.int .i64 a4), .row (.int .u64) a5] => L.markUint64S_l0 m (fun z16 z17 => k (.exit 0) (⟨((.s1 (.one (.unk))) :: (vi z16) :: (vu 18 [])), [], [⟨145, (.int .u64), z17, .own⟩]⟩ : St)) a3 a4 a5
  | _ => none
noncomputable def S103_2 (a3 a4 : Int) (a5 : List Int) : St := (⟨((vl 0) :: (vi a3) :: (vu 3 ((vi a4) :: (vu 14 [])))), [], [⟨145, (.int .u64), a5, .own⟩]⟩ : St)
theorem ev103_2 (m : Nat) (k : Kont (Int × List Int)) (a3 a4 : Int) (a5 : List Int) : evC Try.prog G103 loopNil c103_2 (S103_2 a3 a4 a5) (turn Try.prog (0, 1) H103_2 (E103_2 m) k) = E103_2 (m + 1) [.v (.int .i64 a3), .v (.int .i64 a4), .row (.int .u64) a5] k := by kernel_rfl
theorem ok103_2 (m : Nat) : LoopOk Try.prog (0, 1) c103_2 (enter Try.prog (0, 1) H103_2 (E103_2 m)) := by
  refine loop_ok (G := G103) (L := loopNil) envNil_good (by intro x hx; simp [show loopsOf c103_2 = [] from by kernel_rfl] at hx) (fun ps k => by unfold E103_2; split <;> rfl) (fun m ps k r h => ?_) m
  have h0 := h
  unfold E103_2 at h
  split at h
  · exact ⟨S103_2 _ _ _, by kernel_rfl, (ev103_2 m k _ _ _).trans h0⟩
  · cases h
noncomputable def L103 : LEnv (Int × List Int) := (loopCons 2 (enter Try.prog (0, 1) H103_2 (E103_2 fu)) loopNil)
theorem lq103 : loopsOf c103 = [c103_2] := by kernel_rfl
theorem fr103_2 : firstReg c103_2 = some 2 := by kernel_rfl
theorem le103_2 : L103 2 = enter Try.prog (0, 1) H103_2 (E103_2 fu) := by kernel_rfl
theorem lm103 : ∀ x ∈ [c103_2], ∀ id, firstReg x = some id → LoopOk Try.prog (0, 1) x (L103 id) := (loops_cons fr103_2 le103_2 (ok103_2 fu) loops_nil)
theorem lp103 : ∀ x ∈ loopsOf c103, ∀ id, firstReg x = some id → LoopOk Try.prog (0, 1) x (L103 id) := loops_eq lq103 lm103
noncomputable def R103 (x : Int × List Int) : Res := ⟨[.one (ai x.1)], [], [⟨145, (.int .u64), x.2, .own⟩]⟩
noncomputable def K103 (r : Res) : Option (Int × List Int) :=
  match r with
  | ⟨[.one (.val (.int .i64 v1))], [], [⟨145, (.int .u64), v2, .own⟩]⟩ => some (v1, v2)
  | _ => none
noncomputable def E103 : Fun2 := fun args bs rs =>
  match args, bs, rs with
  | [.s1 (.one (.sl 0)), .s1 (.one (.val (.int .i64 a1)))], [], [⟨145, (.int .u64), a2, .own⟩] => some ⟨Int × List Int, L.markUint64S a1 a2, R103⟩
  | _, _, _ => none
theorem ev103 (a1 : Int) (a2 : List Int) : evF Try.prog G103 L103 (0, 1) Try.f103 c103 [vl 0, vi a1] [] [⟨145, (.int .u64), a2, .own⟩] K103 = L.markUint64S a1 a2 := by kernel_rfl
theorem good103 : Vm.Good Try.prog 103 E103 := by
  refine evF_good (G := G103) (c := c103) envNil_good Try.func103 (by kernel_rfl) (by kernel_rfl) (0, 1) (fun args bs rs out t h h2 => ?_)
  unfold E103 at h
  split at h
  · injection h with h
    subst h
    exact ⟨rfl, L103, K103, lp103, (fun r t h => by unfold K103 at h; split at h; (injection h with h; subst h; rfl); cases h), (ev103 _ _).trans h2⟩
  · cases h
/-! ### L.markLat -/
noncomputable def G38 : Env := (envCons 103 [0] E103 envNil)
noncomputable def c38 : Code := bodyOf Try.f38
noncomputable def L.markLat (a1 a2 : Int) (a3 : List Int) : Option (Int × List Int) :=
(Option.bind (L.markUint64S a2 a3) fun r4 =>
(some (r4.1, r4.2)))
noncomputable def R38 (x : Int × List Int) : Res := ⟨[.one (ai x.1)], [], [⟨145, (.int .u64), x.2, .own⟩]⟩
noncomputable def K38 (r : Res) : Option (Int × List Int) :=
  match r with
  | ⟨[.one (.val (.int .i64 v1))], [], [⟨145, (.int .u64), v2, .own⟩]⟩ => some (v1, v2)
  | _ => none
noncomputable def E38 : Fun2 := fun args bs rs =>
  match args, bs, rs with
  | [.s1 (.agg [.val (.int .i64 a1), .sl 0]), .s1 (.one (.val (.int .i64 a2)))], [], [⟨145, (.int .u64), a3, .own⟩] => some ⟨Int × List Int, L.markLat a1 a2 a3, R38⟩
  | _, _, _ => none
theorem ev38 (a1 a2 : Int) (a3 : List Int) : evF Try.prog G38 loopNil (0, 1) Try.f38 c38 [.s1 (.agg [ai a1, .sl 0]), vi a2] [] [⟨145, (.int .u64), a3, .own⟩] K38 = L.markLat a1 a2 a3 := by kernel_rfl
theorem good38 : Vm.Good Try.prog 38 E38 := by
  refine evF_good (G := G38) (c := c38) (envCons_good good103 envNil_good) Try.func38 (by kernel_rfl) (by kernel_rfl) (0, 1) (fun args bs rs out t h h2 => ?_)
  unfold E38 at h
  split at h
  · injection h with h
    subst h
    exact ⟨rfl, loopNil, K38, (by intro x hx; simp [show loopsOf c38 = [] from by kernel_rfl] at hx), (fun r t h => by unfold K38 at h; split at h; (injection h with h; subst h; rfl); cases h), (ev38 _ _ _).trans h2⟩
  · cases h
/-! ### L.markTokS -/
noncomputable def G189 : Env := envNil
noncomputable def c189 : Code := bodyOf Try.f189
noncomputable def c189_2 : Code := (loopsOf c189).getD 0 .skip
noncomputable def L.markTokS_l0 : Nat → (Int → (List (Int × Int)) → Option (Int × (List (Int × Int)))) → Int → Int → (List (Int × Int)) → Option (Int × (List (Int × Int)))
  | 0, _, _, _, _ => none
  | m + 1, e2_0, a3, a4, a5 =>
    (bif (decide (a4 < (a5.length : Int))) then
    (bif decide ((0 : Int) ≤ a4 ∧ a4 < (a5.length : Int)) then
    (let v8 : List (Int × Int) := (a5.set (Int.toNat a4) (a3, (nthI a5 a4 ((0 : Int), (0 : Int))).2))
    (let v9 : Int := (IntKind.wrap .i64 (a3 + 1))
    (bif decide ((0 : Int) ≤ a4 ∧ a4 < (v8.length : Int)) then
    (let v10 : List (Int × Int) := (v8.set (Int.toNat a4) ((nthI v8 a4 ((0 : Int), (0 : Int))).1, v9))
    (L.markTokS_l0 m e2_0 (IntKind.wrap .i64 (v9 + 1)) (IntKind.wrap .i64 (a4 + 1)) v10))
    else
    none)))
    else
    none)
    else
    (e2_0 a3 a5))
noncomputable def L.markTokS (a1 : Int) (a2 : List (Int × Int)) : Option (Int × (List (Int × Int))) :=
(L.markTokS_l0 fu (fun y13 y14 =>
(some (y13, y14))) a1 0 a2)
noncomputable def H189_2 : LoopH := ⟨⟨((.one (.sl 0)) :: hh :: (hu 3 (hh :: (hu 21 [])))), [], [(260, (.pair (.int .i64) (.int .i64)), .own)]⟩, [2, 3, 4, 6, 7, 8, 9, 10, 11, 12, 13, 14, 15, 16, 17, 18, 19, 20, 21, 22, 23, 24, 25, 26], [], [0, 2, 3, 5, 6, 7, 8, 9, 10, 11, 12, 13, 14, 15, 16, 17, 18, 19, 20, 21, 22, 23, 24, 25, 26]⟩
noncomputable def E189_2 (m : Nat) (ps : List Prm) (k : Kont (Int × (List (Int × Int)))) : Option (Int × (List (Int × Int))) :=
  match ps with
  | [.v (.int .i64 a3), .v (.int .i64 a4), .row (.pair (.int .i64) (.int .i64)) a5] => L.markTokS_l0 m (fun z17 z18 => k (.exit 0) (⟨((.s1 (.one (.unk))) :: (vi z17) :: (vu 25 [])), [], [⟨260, (.pair (.int .i64) (.int .i64)), z18, .own⟩]⟩ : St)) a3 a4 a5
  | _ => none
noncomputable def S189_2 (a3 a4 : Int) (a5 : List (Int × Int)) : St := (⟨((vl 0) :: (vi a3) :: (vu 3 ((vi a4) :: (vu 21 [])))), [], [⟨260, (.pair (.int .i64) (.int .i64)), a5, .own⟩]⟩ : St)
theorem ev189_2 (m : Nat) (k : Kont (Int × (List (Int × Int)))) (a3 a4 : Int) (a5 : List (Int × Int)) : evC Try.prog G189 loopNil c189_2 (S189_2 a3 a4 a5) (turn Try.prog (0, 1) H189_2 (E189_2 m) k) = E189_2 (m + 1) [.v (.int .i64 a3), .v (.int .i64 a4), .row (.pair (.int .i64) (.int .i64)) a5] k := by kernel_rfl
theorem ok189_2 (m : Nat) : LoopOk Try.prog (0, 1) c189_2 (enter Try.prog (0, 1) H189_2 (E189_2 m)) := by
  refine loop_ok (G := G189) (L := loopNil) envNil_good (by intro x hx; simp [show loopsOf c189_2 = [] from by kernel_rfl] at hx) (fun ps k => by unfold E189_2; split <;> rfl) (fun m ps k r h => ?_) m
  have h0 := h
  unfold E189_2 at h
  split at h
  · exact ⟨S189_2 _ _ _, by kernel_rfl, (ev189_2 m k _ _ _).trans h0⟩
  · cases h
noncomputable def L189 : LEnv (Int × (List (Int × Int))) := (loopCons 2 (enter Try.prog (0, 1) H189_2 (E189_2 fu)) loopNil)
theorem lq189 : loopsOf c189 = [c189_2] := by kernel_rfl
theorem fr189_2 : firstReg c189_2 = some 2 := by kernel_rfl
theorem le189_2 : L189 2 = enter Try.prog (0, 1) H189_2 (E189_2 fu) := by kernel_rfl
theorem lm189 : ∀ x ∈ [c189_2], ∀ id, firstReg x = some id → LoopOk Try.prog (0, 1) x (L189 id) := (loops_cons fr189_2 le189_2 (ok189_2 fu) loops_nil)
theorem lp189 : ∀ x ∈ loopsOf c189, ∀ id, firstReg x = some id → LoopOk Try.prog (0, 1) x (L189 id) := loops_eq lq189 lm189
noncomputable def R189 (x : Int × (List (Int × Int))) : Res := ⟨[.one (ai x.1)], [], [⟨260, (.pair (.int .i64) (.int .i64)), x.2, .own⟩]⟩
noncomputable def K189 (r : Res) : Option (Int × (List (Int × Int))) :=
  match r with
  | ⟨[.one (.val (.int .i64 v1))], [], [⟨260, (.pair (.int .i64) (.int .i64)), v2, .own⟩]⟩ => some (v1, v2)
  | _ => none
noncomputable def E189 : Fun2 := fun args bs rs =>
  match args, bs, rs with
  | [.s1 (.one (.sl 0)), .s1 (.one (.val (.int .i64 a1)))], [], [⟨260, (.pair (.int .i64) (.int .i64)), a2, .own⟩] => some ⟨Int × (List (Int × Int)), L.markTokS a1 a2, R189⟩
  | _, _, _ => none
theorem ev189 (a1 : Int) (a2 : List (Int × Int)) : evF Try.prog G189 L189 (0, 1) Try.f189 c189 [vl 0, vi a1] [] [⟨260, (.pair (.int .i64) (.int .i64)), a2, .own⟩] K189 = L.markTokS a1 a2 := by kernel_rfl
theorem good189 : Vm.Good Try.prog 189 E189 := by
  refine evF_good (G := G189) (c := c189) envNil_good Try.func189 (by kernel_rfl) (by kernel_rfl) (0, 1) (fun args bs rs out t h h2 => ?_)
  unfold E189 at h
  split at h
  · injection h with h
    subst h
    exact ⟨rfl, L189, K189, lp189, (fun r t h => by unfold K189 at h; split at h; (injection h with h; subst h; rfl); cases h), (ev189 _ _).trans h2⟩
  · cases h
/-! ### L.markQueryS -/
noncomputable def G138 : Env := (envCons 189 [0] E189 envNil)
noncomputable def c138 : Code := bodyOf Try.f138
noncomputable def c138_2 : Code := (loopsOf c138).getD 0 .skip
noncomputable def L.markQueryS_l0 : Nat → (Int → (List (List (Int × Int) × List (Int × Int) × (Int × Int × Int) × Int × Int)) → Option (Int × (List (List (Int × Int) × List (Int × Int) × (Int × Int × Int) × Int × Int)))) → Int → Int → (List (List (Int × Int) × List (Int × Int) × (Int × Int × Int) × Int × Int)) → Option (Int × (List (List (Int × Int) × List (Int × Int) × (Int × Int × Int) × Int × Int)))
  | 0, _, _, _, _ => none
  | m + 1, e2_0, a3, a4, a5 =>
    (bif (decide (a4 < (a5.length : Int))) then
    (bif decide ((0 : Int) ≤ a4 ∧ a4 < (a5.length : Int)) then
    (Option.bind (L.markTokS a3 ((nthI a5 a4 ([], ([], (((0 : Int), ((0 : Int), (0 : Int))), ((0 : Int), (0 : Int)))))).1)) fun r8 =>
    (let v9 : List (List (Int × Int) × List (Int × Int) × (Int × Int × Int) × Int × Int) := (a5.set (Int.toNat a4) (r8.2, (nthI a5 a4 ([], ([], (((0 : Int), ((0 : Int), (0 : Int))), ((0 : Int), (0 : Int)))))).2))
    (bif decide ((0 : Int) ≤ a4 ∧ a4 < (v9.length : Int)) then
    (Option.bind (L.markTokS r8.1 ((nthI v9 a4 ([], ([], (((0 : Int), ((0 : Int), (0 : Int))), ((0 : Int), (0 : Int)))))).2.1)) fun r10 =>
    (let v11 : List (List (Int × Int) × List (Int × Int) × (Int × Int × Int) × Int × Int) := (v9.set (Int.toNat a4) ((nthI v9 a4 ([], ([], (((0 : Int), ((0 : Int), (0 : Int))), ((0 : Int), (0 : Int)))))).1, (r10.2, (nthI v9 a4 ([], ([], (((0 : Int), ((0 : Int), (0 : Int))), ((0 : Int), (0 : Int)))))).2.2)))
    (bif decide ((0 : Int) ≤ a4 ∧ a4 < (v11.length : Int)) then
    (let v12 : List (List (Int × Int) × List (Int × Int) × (Int × Int × Int) × Int × Int) := (v11.set (Int.toNat a4) ((nthI v11 a4 ([], ([], (((0 : Int), ((0 : Int), (0 : Int))), ((0 : Int), (0 : Int)))))).1, ((nthI v11 a4 ([], ([], (((0 : Int), ((0 : Int), (0 : Int))), ((0 : Int), (0 : Int)))))).2.1, ((r10.1, (nthI v11 a4 ([], ([], (((0 : Int), ((0 : Int), (0 : Int))), ((0 : Int), (0 : Int)))))).2.2.1.2), (nthI v11 a4 ([], ([], (((0 : Int), ((0 : Int), (0 : Int))), ((0 : Int), (0 : Int)))))).2.2.2))))
    (let v13 : Int := (IntKind.wrap .i64 (r10.1 + 1))
    (bif decide ((0 : Int) ≤ a4 ∧ a4 < (v12.length : Int)) then
    (let v14 : List (List (Int × Int) × List (Int × Int) × (Int × Int × Int) × Int × Int) := (v12.set (Int.toNat a4) ((nthI v12 a4 ([], ([], (((0 : Int), ((0 : Int), (0 : Int))), ((0 : Int), (0 : Int)))))).1, ((nthI v12 a4 ([], ([], (((0 : Int), ((0 : Int), (0 : Int))), ((0 : Int), (0 : Int)))))).2.1, (((nthI v12 a4 ([], ([], (((0 : Int), ((0 : Int), (0 : Int))), ((0 : Int), (0 : Int)))))).2.2.1.1, (v13, (nthI v12 a4 ([], ([], (((0 : Int), ((0 : Int), (0 : Int))), ((0 : Int), (0 : Int)))))).2.2.1.2.2)), (nthI v12 a4 ([], ([], (((0 : Int), ((0 : Int), (0 : Int))), ((0 : Int), (0 : Int)))))).2.2.2))))
    (let v15 : Int := (IntKind.wrap .i64 (v13 + 1))
    (bif decide ((0 : Int) ≤ a4 ∧ a4 < (v14.length : Int)) then
    (let v16 : List (List (Int × Int) × List (Int × Int) × (Int × Int × Int) × Int × Int) := (v14.set (Int.toNat a4) ((nthI v14 a4 ([], ([], (((0 : Int), ((0 : Int), (0 : Int))), ((0 : Int), (0 : Int)))))).1, ((nthI v14 a4 ([], ([], (((0 : Int), ((0 : Int), (0 : Int))), ((0 : Int), (0 : Int)))))).2.1, (((nthI v14 a4 ([], ([], (((0 : Int), ((0 : Int), (0 : Int))), ((0 : Int), (0 : Int)))))).2.2.1.1, ((nthI v14 a4 ([], ([], (((0 : Int), ((0 : Int), (0 : Int))), ((0 : Int), (0 : Int)))))).2.2.1.2.1, v15)), (nthI v14 a4 ([], ([], (((0 : Int), ((0 : Int), (0 : Int))), ((0 : Int), (0 : Int)))))).2.2.2))))
    (let v17 : Int := (IntKind.wrap .i64 (v15 + 1))
    (bif decide ((0 : Int) ≤ a4 ∧ a4 < (v16.length : Int)) then
    (let v18 : List (List (Int × Int) × List (Int × Int) × (Int × Int × Int) × Int × Int) := (v16.set (Int.toNat a4) ((nthI v16 a4 ([], ([], (((0 : Int), ((0 : Int), (0 : Int))), ((0 : Int), (0 : Int)))))).1, ((nthI v16 a4 ([], ([], (((0 : Int), ((0 : Int), (0 : Int))), ((0 : Int), (0 : Int)))))).2.1, ((nthI v16 a4 ([], ([], (((0 : Int), ((0 : Int), (0 : Int))), ((0 : Int), (0 : Int)))))).2.2.1, (v17, (nthI v16 a4 ([], ([], (((0 : Int), ((0 : Int), (0 : Int))), ((0 : Int), (0 : Int)))))).2.2.2.2)))))
    (let v19 : Int := (IntKind.wrap .i64 (v17 + 1))
    (bif decide ((0 : Int) ≤ a4 ∧ a4 < (v18.length : Int)) then
    (let v20 : List (List (Int × Int) × List (Int × Int) × (Int × Int × Int) × Int × Int) := (v18.set (Int.toNat a4) ((nthI v18 a4 ([], ([], (((0 : Int), ((0 : Int), (0 : Int))), ((0 : Int), (0 : Int)))))).1, ((nthI v18 a4 ([], ([], (((0 : Int), ((0 : Int), (0 : Int))), ((0 : Int), (0 : Int)))))).2.1, ((nthI v18 a4 ([], ([], (((0 : Int), ((0 : Int), (0 : Int))), ((0 : Int), (0 : Int)))))).2.2.1, ((nthI v18 a4 ([], ([], (((0 : Int), ((0 : Int), (0 : Int))), ((0 : Int), (0 : Int)))))).2.2.2.1, v19)))))
    (L.markQueryS_l0 m e2_0 (IntKind.wrap .i64 (v19 + 1)) (IntKind.wrap .i64 (a4 + 1)) v20))
    else
    none)))
    else
    none)))
    else
    none)))
    else
    none)))
    else
    none)))
    else
    none)))
    else
    none)
    else
    (e2_0 a3 a5))
noncomputable def L.markQueryS (a1 : Int) (a2 : List (List (Int × Int) × List (Int × Int) × (Int × Int × Int) × Int × Int)) : Option (Int × (List (List (Int × Int) × List (Int × Int) × (Int × Int × Int) × Int × Int))) :=
(L.markQueryS_l0 fu (fun y23 y24 =>
(some (y23, y24))) a1 0 a2)
noncomputable def H138_2 : LoopH := ⟨⟨((.one (.sl 0)) :: hh :: (hu 3 (hh :: (hu 59 [])))), [], [(173, (.pair (.sl 260 (.pair (.int .i64) (.int .i64))) (.pair (.sl 260 (.pair (.int .i64) (.int .i64))) (.pair (.pair (.int .i64) (.pair (.int .i64) (.int .i64))) (.pair (.int .i64) (.int .i64))))), .own)]⟩, [2, 3, 4, 6, 7, 8, 9, 10, 11, 12, 13, 14, 15, 16, 17, 18, 19, 20, 21, 22, 23, 24, 25, 26, 27, 28, 29, 30, 31, 32, 33, 34, 35, 36, 37, 38, 39, 40, 41, 42, 43, 44, 45, 46, 47, 48, 49, 50, 51, 52, 53, 54, 55, 56, 57, 58, 59, 60, 61, 62, 63, 64], [], [0, 2, 3, 5, 6, 7, 8, 9, 10, 11, 12, 13, 14, 15, 16, 17, 18, 19, 20, 21, 22, 23, 24, 25, 26, 27, 28, 29, 30, 31, 32, 33, 34, 35, 36, 37, 38, 39, 40, 41, 42, 43, 44, 45, 46, 47, 48, 49, 50, 51, 52, 53, 54, 55, 56, 57, 58, 59, 60, 61, 62, 63, 64]⟩
noncomputable def E138_2 (m : Nat) (ps : List Prm) (k : Kont (Int × (List (List (Int × Int) × List (Int × Int) × (Int × Int × Int) × Int × Int)))) : Option (Int × (List (List (Int × Int) × List (Int × Int) × (Int × Int × Int) × Int × Int))) :=
  match ps with
  | [.v (.int .i64 a3), .v (.int .i64 a4), .row (.pair (.sl 260 (.pair (.int .i64) (.int .i64))) (.pair (.sl 260 (.pair (.int .i64) (.int .i64))) (.pair (.pair (.int .i64) (.pair (.int .i64) (.int .i64))) (.pair (.int .i64) (.int .i64))))) a5] => L.markQueryS_l0 m (fun z27 z28 => k (.exit 0) (⟨((.s1 (.one (.unk))) :: (vi z27) :: (vu 63 [])), [], [⟨173, (.pair (.sl 260 (.pair (.int .i64) (.int .i64))) (.pair (.sl 260 (.pair (.int .i64) (.int .i64))) (.pair (.pair (.int .i64) (.pair (.int .i64) (.int .i64))) (.pair (.int .i64) (.int .i64))))), z28, .own⟩]⟩ : St)) a3 a4 a5
  | _ => none
noncomputable def S138_2 (a3 a4 : Int) (a5 : List (List (Int × Int) × List (Int × Int) × (Int × Int × Int) × Int × Int)) : St := (⟨((vl 0) :: (vi a3) :: (vu 3 ((vi a4) :: (vu 59 [])))), [], [⟨173, (.pair (.sl 260 (.pair (.int .i64) (.int .i64))) (.pair (.sl 260 (.pair (.int .i64) (.int .i64))) (.pair (.pair (.int .i64) (.pair (.int .i64) (.int .i64))) (.pair (.int .i64) (.int .i64))))), a5, .own⟩]⟩ : St)
theorem ev138_2 (m : Nat) (k : Kont (Int × (List (List (Int × Int) × List (Int × Int) × (Int × Int × Int) × Int × Int)))) (a3 a4 : Int) (a5 : List (List (Int × Int) × List (Int × Int) × (Int × Int × Int) × Int × Int)) : evC Try.prog G138 loopNil c138_2 (S138_2 a3 a4 a5) (turn Try.prog (0, 1) H138_2 (E138_2 m) k) = E138_2 (m + 1) [.v (.int .i64 a3), .v (.int .i64 a4), .row (.pair (.sl 260 (.pair (.int .i64) (.int .i64))) (.pair (.sl 260 (.pair (.int .i64) (.int .i64))) (.pair (.pair (.int .i64) (.pair (.int .i64) (.int .i64))) (.pair (.int .i64) (.int .i64))))) a5] k := by kernel_rfl
theorem ok138_2 (m : Nat) : LoopOk Try.prog (0, 1) c138_2 (enter Try.prog (0, 1) H138_2 (E138_2 m)) := by
  refine loop_ok (G := G138) (L := loopNil) (envCons_good good189 envNil_good) (by intro x hx; simp [show loopsOf c138_2 = [] from by kernel_rfl] at hx) (fun ps k => by unfold E138_2; split <;> rfl) (fun m ps k r h => ?_) m
  have h0 := h
  unfold E138_2 at h
  split at h
  · exact ⟨S138_2 _ _ _, by kernel_rfl, (ev138_2 m k _ _ _).trans h0⟩
  · cases h
noncomputable def L138 : LEnv (Int × (List (List (Int × Int) × List (Int × Int) × (Int × Int × Int) × Int × Int))) := (loopCons 2 (enter Try.prog (0, 1) H138_2 (E138_2 fu)) loopNil)
theorem lq138 : loopsOf c138 = [c138_2] := by kernel_rfl
theorem fr138_2 : firstReg c138_2 = some 2 := by kernel_rfl
theorem le138_2 : L138 2 = enter Try.prog (0, 1) H138_2 (E138_2 fu) := by kernel_rfl
theorem lm138 : ∀ x ∈ [c138_2], ∀ id, firstReg x = some id → LoopOk Try.prog (0, 1) x (L138 id) := (loops_cons fr138_2 le138_2 (ok138_2 fu) loops_nil)
theorem lp138 : ∀ x ∈ loopsOf c138, ∀ id, firstReg x = some id → LoopOk Try.prog (0, 1) x (L138 id) := loops_eq lq138 lm138
noncomputable def R138 (x : Int × (List (List (Int × Int) × List (Int × Int) × (Int × Int × Int) × Int × Int))) : Res := ⟨[.one (ai x.1)], [], [⟨173, (.pair (.sl 260 (.pair (.int .i64) (.int .i64))) (.pair (.sl 260 (.pair (.int .i64) (.int .i64))) (.pair (.pair (.int .i64) (.pair (.int .i64) (.int .i64))) (.pair (.int .i64) (.int .i64))))), x.2, .own⟩]⟩
noncomputable def K138 (r : Res) : Option (Int × (List (List (Int × Int) × List (Int × Int) × (Int × Int × Int) × Int × Int))) :=
  match r with
  | ⟨[.one (.val (.int .i64 v1))], [], [⟨173, (.pair (.sl 260 (.pair (.int .i64) (.int .i64))) (.pair (.sl 260 (.pair (.int .i64) (.int .i64))) (.pair (.pair (.int .i64) (.pair (.int .i64) (.int .i64))) (.pair (.int .i64) (.int .i64))))), v2, .own⟩]⟩ => some (v1, v2)
  | _ => none
noncomputable def E138 : Fun2 := fun args bs rs =>
  match args, bs, rs with
  | [.s1 (.one (.sl 0)), .s1 (.one (.val (.int .i64 a1)))], [], [⟨173, (.pair (.sl 260 (.pair (.int .i64) (.int .i64))) (.pair (.sl 260 (.pair (.int .i64) (.int .i64))) (.pair (.pair (.int .i64) (.pair (.int .i64) (.int .i64))) (.pair (.int .i64) (.int .i64))))), a2, .own⟩] => some ⟨Int × (List (List (Int × Int) × List (Int × Int) × (Int × Int × Int) × Int × Int)), L.markQueryS a1 a2, R138⟩
  | _, _, _ => none
theorem ev138 (a1 : Int) (a2 : List (List (Int × Int) × List (Int × Int) × (Int × Int × Int) × Int × Int)) : evF Try.prog G138 L138 (0, 1) Try.f138 c138 [vl 0, vi a1] [] [⟨173, (.pair (.sl 260 (.pair (.int .i64) (.int .i64))) (.pair (.sl 260 (.pair (.int .i64) (.int .i64))) (.pair (.pair (.int .i64) (.pair (.int .i64) (.int .i64))) (.pair (.int .i64) (.int .i64))))), a2, .own⟩] K138 = L.markQueryS a1 a2 := by kernel_rfl
theorem good138 : Vm.Good Try.prog 138 E138 := by
  refine evF_good (G := G138) (c := c138) (envCons_good good189 envNil_good) Try.func138 (by kernel_rfl) (by kernel_rfl) (0, 1) (fun args bs rs out t h h2 => ?_)
  unfold E138 at h
  split at h
  · injection h with h
    subst h
    exact ⟨rfl, L138, K138, lp138, (fun r t h => by unfold K138 at h; split at h; (injection h with h; subst h; rfl); cases h), (ev138 _ _).trans h2⟩
  · cases h
/-! ### L.markSubS -/
noncomputable def G139 : Env := envNil
noncomputable def c139 : Code := bodyOf Try.f139
noncomputable def c139_2 : Code := (loopsOf c139).getD 0 .skip
noncomputable def L.markSubS_l0 : Nat → (Int → (List (Int × Int × Int)) → Option (Int × (List (Int × Int × Int)))) → Int → Int → (List (Int × Int × Int)) → Option (Int × (List (Int × Int × Int)))
  | 0, _, _, _, _ => none
  | m + 1, e2_0, a3, a4, a5 =>
    (bif (decide (a4 < (a5.length : Int))) then
    (bif decide ((0 : Int) ≤ a4 ∧ a4 < (a5.length : Int)) then
    (let v8 : List (Int × Int × Int) := (a5.set (Int.toNat a4) (a3, (nthI a5 a4 ((0 : Int), ((0 : Int), (0 : Int)))).2))
    (let v9 : Int := (IntKind.wrap .i64 (a3 + 1))
    (bif decide ((0 : Int) ≤ a4 ∧ a4 < (v8.length : Int)) then
    (let v10 : List (Int × Int × Int) := (v8.set (Int.toNat a4) ((nthI v8 a4 ((0 : Int), ((0 : Int), (0 : Int)))).1, (v9, (nthI v8 a4 ((0 : Int), ((0 : Int), (0 : Int)))).2.2)))
    (let v11 : Int := (IntKind.wrap .i64 (v9 + 1))
    (bif decide ((0 : Int) ≤ a4 ∧ a4 < (v10.length : Int)) then
    (let v12 : List (Int × Int × Int) := (v10.set (Int.toNat a4) ((nthI v10 a4 ((0 : Int), ((0 : Int), (0 : Int)))).1, ((nthI v10 a4 ((0 : Int), ((0 : Int), (0 : Int)))).2.1, v11)))
    (L.markSubS_l0 m e2_0 (IntKind.wrap .i64 (v11 + 1)) (IntKind.wrap .i64 (a4 + 1)) v12))
    else
    none)))
    else
    none)))
    else
    none)
    else
    (e2_0 a3 a5))
noncomputable def L.markSubS (a1 : Int) (a2 : List (Int × Int × Int)) : Option (Int × (List (Int × Int × Int))) :=
(L.markSubS_l0 fu (fun y15 y16 =>
(some (y15, y16))) a1 0 a2)
noncomputable def H139_2 : LoopH := ⟨⟨((.one (.sl 0)) :: hh :: (hu 3 (hh :: (hu 28 [])))), [], [(175, (.pair (.int .i64) (.pair (.int .i64) (.int .i64))), .own)]⟩, [2, 3, 4, 6, 7, 8, 9, 10, 11, 12, 13, 14, 15, 16, 17, 18, 19, 20, 21, 22, 23, 24, 25, 26, 27, 28, 29, 30, 31, 32, 33], [], [0, 2, 3, 5, 6, 7, 8, 9, 10, 11, 12, 13, 14, 15, 16, 17, 18, 19, 20, 21, 22, 23, 24, 25, 26, 27, 28, 29, 30, 31, 32, 33]⟩
noncomputable def E139_2 (m : Nat) (ps : List Prm) (k : Kont (Int × (List (Int × Int × Int)))) : Option (Int × (List (Int × Int × Int))) :=
  match ps with
  | [.v (.int .i64 a3), .v (.int .i64 a4), .row (.pair (.int .i64) (.pair (.int .i64) (.int .i64))) a5] => L.markSubS_l0 m (fun z19 z20 => k (.exit 0) (⟨((.s1 (.one (.unk))) :: (vi z19) :: (vu 32 [])), [], [⟨175, (.pair (.int .i64) (.pair (.int .i64) (.int .i64))), z20, .own⟩]⟩ : St)) a3 a4 a5
  | _ => none
noncomputable def S139_2 (a3 a4 : Int) (a5 : List (Int × Int × Int)) : St := (⟨((vl 0) :: (vi a3) :: (vu 3 ((vi a4) :: (vu 28 [])))), [], [⟨175, (.pair (.int .i64) (.pair (.int .i64) (.int .i64))), a5, .own⟩]⟩ : St)
theorem ev139_2 (m : Nat) (k : Kont (Int × (List (Int × Int × Int)))) (a3 a4 : Int) (a5 : List (Int × Int × Int)) : evC Try.prog G139 loopNil c139_2 (S139_2 a3 a4 a5) (turn Try.prog (0, 1) H139_2 (E139_2 m) k) = E139_2 (m + 1) [.v (.int .i64 a3), .v (.int .i64 a4), .row (.pair (.int .i64) (.pair (.int .i64) (.int .i64))) a5] k := by kernel_rfl
theorem ok139_2 (m : Nat) : LoopOk Try.prog (0, 1) c139_2 (enter Try.prog (0, 1) H139_2 (E139_2 m)) := by
  refine loop_ok (G := G139) (L := loopNil) envNil_good (by intro x hx; simp [show loopsOf c139_2 = [] from by kernel_rfl] at hx) (fun ps k => by unfold E139_2; split <;> rfl) (fun m ps k r h => ?_) m
  have h0 := h
  unfold E139_2 at h
  split at h
  · exact ⟨S139_2 _ _ _, by kernel_rfl, (ev139_2 m k _ _ _).trans h0⟩
  · cases h
noncomputable def L139 : LEnv (Int × (List (Int × Int × Int))) := (loopCons 2 (enter Try.prog (0, 1) H139_2 (E139_2 fu)) loopNil)
theorem lq139 : loopsOf c139 = [c139_2] := by kernel_rfl
theorem fr139_2 : firstReg c139_2 = some 2 := by kernel_rfl
theorem le139_2 : L139 2 = enter Try.prog (0, 1) H139_2 (E139_2 fu) := by kernel_rfl
theorem lm139 : ∀ x ∈ [c139_2], ∀ id, firstReg x = some id → LoopOk Try.prog (0, 1) x (L139 id) := (loops_cons fr139_2 le139_2 (ok139_2 fu) loops_nil)
theorem lp139 : ∀ x ∈ loopsOf c139, ∀ id, firstReg x = some id → LoopOk Try.prog (0, 1) x (L139 id) := loops_eq lq139 lm139
noncomputable def R139 (x : Int × (List (Int × Int × Int))) : Res := ⟨[.one (ai x.1)], [], [⟨175, (.pair (.int .i64) (.pair (.int .i64) (.int .i64))), x.2, .own⟩]⟩
noncomputable def K139 (r : Res) : Option (Int × (List (Int × Int × Int))) :=
  match r with
  | ⟨[.one (.val (.int .i64 v1))], [], [⟨175, (.pair (.int .i64) (.pair (.int .i64) (.int .i64))), v2, .own⟩]⟩ => some (v1, v2)
  | _ => none
noncomputable def E139 : Fun2 := fun args bs rs =>
  match args, bs, rs with
  | [.s1 (.one (.sl 0)), .s1 (.one (.val (.int .i64 a1)))], [], [⟨175, (.pair (.int .i64) (.pair (.int .i64) (.int .i64))), a2, .own⟩] => some ⟨Int × (List (Int × Int × Int)), L.markSubS a1 a2, R139⟩
  | _, _, _ => none
theorem ev139 (a1 : Int) (a2 : List (Int × Int × Int)) : evF Try.prog G139 L139 (0, 1) Try.f139 c139 [vl 0, vi a1] [] [⟨175, (.pair (.int .i64) (.pair (.int .i64) (.int .i64))), a2, .own⟩] K139 = L.markSubS a1 a2 := by kernel_rfl
theorem good139 : Vm.Good Try.prog 139 E139 := by
  refine evF_good (G := G139) (c := c139) envNil_good Try.func139 (by kernel_rfl) (by kernel_rfl) (0, 1) (fun args bs rs out t h h2 => ?_)
  unfold E139 at h
  split at h
  · injection h with h
    subst h
    exact ⟨rfl, L139, K139, lp139, (fun r t h => by unfold K139 at h; split at h; (injection h with h; subst h; rfl); cases h), (ev139 _ _).trans h2⟩
  · cases h
/-! ### L.markRuleS -/
noncomputable def G140 : Env := envNil
noncomputable def c140 : Code := bodyOf Try.f140
noncomputable def c140_2 : Code := (loopsOf c140).getD 0 .skip
noncomputable def L.markRuleS_l0 : Nat → (Int → (List (Int × Int × Int × Int × Int)) → Option (Int × (List (Int × Int × Int × Int × Int)))) → Int → Int → (List (Int × Int × Int × Int × Int)) → Option (Int × (List (Int × Int × Int × Int × Int)))
  | 0, _, _, _, _ => none
  | m + 1, e2_0, a3, a4, a5 =>
    (bif (decide (a4 < (a5.length : Int))) then
    (bif decide ((0 : Int) ≤ a4 ∧ a4 < (a5.length : Int)) then
    (let v8 : List (Int × Int × Int × Int × Int) := (a5.set (Int.toNat a4) (a3, (nthI a5 a4 ((0 : Int), ((0 : Int), ((0 : Int), ((0 : Int), (0 : Int)))))).2))
    (let v9 : Int := (IntKind.wrap .i64 (a3 + 1))
    (bif decide ((0 : Int) ≤ a4 ∧ a4 < (v8.length : Int)) then
    (let v10 : List (Int × Int × Int × Int × Int) := (v8.set (Int.toNat a4) ((nthI v8 a4 ((0 : Int), ((0 : Int), ((0 : Int), ((0 : Int), (0 : Int)))))).1, (v9, (nthI v8 a4 ((0 : Int), ((0 : Int), ((0 : Int), ((0 : Int), (0 : Int)))))).2.2)))
    (let v11 : Int := (IntKind.wrap .i64 (v9 + 1))
    (bif decide ((0 : Int) ≤ a4 ∧ a4 < (v10.length : Int)) then
    (let v12 : List (Int × Int × Int × Int × Int) := (v10.set (Int.toNat a4) ((nthI v10 a4 ((0 : Int), ((0 : Int), ((0 : Int), ((0 : Int), (0 : Int)))))).1, ((nthI v10 a4 ((0 : Int), ((0 : Int), ((0 : Int), ((0 : Int), (0 : Int)))))).2.1, (v11, (nthI v10 a4 ((0 : Int), ((0 : Int), ((0 : Int), ((0 : Int), (0 : Int)))))).2.2.2))))
    (let v13 : Int := (IntKind.wrap .i64 (v11 + 1))
    (bif decide ((0 : Int) ≤ a4 ∧ a4 < (v12.length : Int)) then
    (let v14 : List (Int × Int × Int × Int × Int) := (v12.set (Int.toNat a4) ((nthI v12 a4 ((0 : Int), ((0 : Int), ((0 : Int), ((0 : Int), (0 : Int)))))).1, ((nthI v12 a4 ((0 : Int), ((0 : Int), ((0 : Int), ((0 : Int), (0 : Int)))))).2.1, ((nthI v12 a4 ((0 : Int), ((0 : Int), ((0 : Int), ((0 : Int), (0 : Int)))))).2.2.1, (v13, (nthI v12 a4 ((0 : Int), ((0 : Int), ((0 : Int), ((0 : Int), (0 : Int)))))).2.2.2.2)))))
    (let v15 : Int := (IntKind.wrap .i64 (v13 + 1))
    (bif decide ((0 : Int) ≤ a4 ∧ a4 < (v14.length : Int)) then
    (let v16 : List (Int × Int × Int × Int × Int) := (v14.set (Int.toNat a4) ((nthI v14 a4 ((0 : Int), ((0 : Int), ((0 : Int), ((0 : Int), (0 : Int)))))).1, ((nthI v14 a4 ((0 : Int), ((0 : Int), ((0 : Int), ((0 : Int), (0 : Int)))))).2.1, ((nthI v14 a4 ((0 : Int), ((0 : Int), ((0 : Int), ((0 : Int), (0 : Int)))))).2.2.1, ((nthI v14 a4 ((0 : Int), ((0 : Int), ((0 : Int), ((0 : Int), (0 : Int)))))).2.2.2.1, v15)))))
    (L.markRuleS_l0 m e2_0 (IntKind.wrap .i64 (v15 + 1)) (IntKind.wrap .i64 (a4 + 1)) v16))
    else
    none)))
    else
    none)))
    else
    none)))
    else
    none)))
    else
    none)
    else
    (e2_0 a3 a5))
noncomputable def L.markRuleS (a1 : Int) (a2 : List (Int × Int × Int × Int × Int)) : Option (Int × (List (Int × Int × Int × Int × Int))) :=
(L.markRuleS_l0 fu (fun y19 y20 =>
(some (y19, y20))) a1 0 a2)
noncomputable def H140_2 : LoopH := ⟨⟨((.one (.sl 0)) :: hh :: (hu 3 (hh :: (hu 42 [])))), [], [(178, (.pair (.int .i64) (.pair (.int .i64) (.pair (.int .i64) (.pair (.int .i64) (.int .i64))))), .own)]⟩, [2, 3, 4, 6, 7, 8, 9, 10, 11, 12, 13, 14, 15, 16, 17, 18, 19, 20, 21, 22, 23, 24, 25, 26, 27, 28, 29, 30, 31, 32, 33, 34, 35, 36, 37, 38, 39, 40, 41, 42, 43, 44, 45, 46, 47], [], [0, 2, 3, 5, 6, 7, 8, 9, 10, 11, 12, 13, 14, 15, 16, 17, 18, 19, 20, 21, 22, 23, 24, 25, 26, 27, 28, 29, 30, 31, 32, 33, 34, 35, 36, 37, 38, 39, 40, 41, 42, 43, 44, 45, 46, 47]⟩
noncomputable def E140_2 (m : Nat) (ps : List Prm) (k : Kont (Int × (List (Int × Int × Int × Int × Int)))) : Option (Int × (List (Int × Int × Int × Int × Int))) :=
  match ps with
  | [.v (.int .i64 a3), .v (.int .i64 a4), .row (.pair (.int .i64) (.pair (.int .i64) (.pair (.int .i64) (.pair (.int .i64) (.int .i64))))) a5] => L.markRuleS_l0 m (fun z23 z24 => k (.exit 0) (⟨((.s1 (.one (.unk))) :: (vi z23) :: (vu 46 [])), [], [⟨178, (.pair (.int .i64) (.pair (.int .i64) (.pair (.int .i64) (.pair (.int .i64) (.int .i64))))), z24, .own⟩]⟩ : St)) a3 a4 a5
  | _ => none
noncomputable def S140_2 (a3 a4 : Int) (a5 : List (Int × Int × Int × Int × Int)) : St := (⟨((vl 0) :: (vi a3) :: (vu 3 ((vi a4) :: (vu 42 [])))), [], [⟨178, (.pair (.int .i64) (.pair (.int .i64) (.pair (.int .i64) (.pair (.int .i64) (.int .i64))))), a5, .own⟩]⟩ : St)
theorem ev140_2 (m : Nat) (k : Kont (Int × (List (Int × Int × Int × Int × Int)))) (a3 a4 : Int) (a5 : List (Int × Int × Int × Int × Int)) : evC Try.prog G140 loopNil c140_2 (S140_2 a3 a4 a5) (turn Try.prog (0, 1) H140_2 (E140_2 m) k) = E140_2 (m + 1) [.v (.int .i64 a3), .v (.int .i64 a4), .row (.pair (.int .i64) (.pair (.int .i64) (.pair (.int .i64) (.pair (.int .i64) (.int .i64))))) a5] k := by kernel_rfl
theorem ok140_2 (m : Nat) : LoopOk Try.prog (0, 1) c140_2 (enter Try.prog (0, 1) H140_2 (E140_2 m)) := by
  refine loop_ok (G := G140) (L := loopNil) envNil_good (by intro x hx; simp [show loopsOf c140_2 = [] from by kernel_rfl] at hx) (fun ps k => by unfold E140_2; split <;> rfl) (fun m ps k r h => ?_) m
  have h0 := h
  unfold E140_2 at h
  split at h
  · exact ⟨S140_2 _ _ _, by kernel_rfl, (ev140_2 m k _ _ _).trans h0⟩
  · cases h
noncomputable def L140 : LEnv (Int × (List (Int × Int × Int × Int × Int))) := (loopCons 2 (enter Try.prog (0, 1) H140_2 (E140_2 fu)) loopNil)
theorem lq140 : loopsOf c140 = [c140_2] := by kernel_rfl
theorem fr140_2 : firstReg c140_2 = some 2 := by kernel_rfl
theorem le140_2 : L140 2 = enter Try.prog (0, 1) H140_2 (E140_2 fu) := by kernel_rfl
theorem lm140 : ∀ x ∈ [c140_2], ∀ id, firstReg x = some id → LoopOk Try.prog (0, 1) x (L140 id) := (loops_cons fr140_2 le140_2 (ok140_2 fu) loops_nil)
theorem lp140 : ∀ x ∈ loopsOf c140, ∀ id, firstReg x = some id → LoopOk Try.prog (0, 1) x (L140 id) := loops_eq lq140 lm140
noncomputable def R140 (x : Int × (List (Int × Int × Int × Int × Int))) : Res := ⟨[.one (ai x.1)], [], [⟨178, (.pair (.int .i64) (.pair (.int .i64) (.pair (.int .i64) (.pair (.int .i64) (.int .i64))))), x.2, .own⟩]⟩
noncomputable def K140 (r : Res) : Option (Int × (List (Int × Int × Int × Int × Int))) :=
  match r with
  | ⟨[.one (.val (.int .i64 v1))], [], [⟨178, (.pair (.int .i64) (.pair (.int .i64) (.pair (.int .i64) (.pair (.int .i64) (.int .i64))))), v2, .own⟩]⟩ => some (v1, v2)
  | _ => none
noncomputable def E140 : Fun2 := fun args bs rs =>
  match args, bs, rs with
  | [.s1 (.one (.sl 0)), .s1 (.one (.val (.int .i64 a1)))], [], [⟨178, (.pair (.int .i64) (.pair (.int .i64) (.pair (.int .i64) (.pair (.int .i64) (.int .i64))))), a2, .own⟩] => some ⟨Int × (List (Int × Int × Int × Int × Int)), L.markRuleS a1 a2, R140⟩
  | _, _, _ => none
theorem ev140 (a1 : Int) (a2 : List (Int × Int × Int × Int × Int)) : evF Try.prog G140 L140 (0, 1) Try.f140 c140 [vl 0, vi a1] [] [⟨178, (.pair (.int .i64) (.pair (.int .i64) (.pair (.int .i64) (.pair (.int .i64) (.int .i64))))), a2, .own⟩] K140 = L.markRuleS a1 a2 := by kernel_rfl
theorem good140 : Vm.Good Try.prog 140 E140 := by
  refine evF_good (G := G140) (c := c140) envNil_good Try.func140 (by kernel_rfl) (by kernel_rfl) (0, 1) (fun args bs rs out t h h2 => ?_)
  unfold E140 at h
  split at h
  · injection h with h
    subst h
    exact ⟨rfl, L140, K140, lp140, (fun r t h => by unfold K140 at h; split at h; (injection h with h; subst h; rfl); cases h), (ev140 _ _).trans h2⟩
  · cases h
/-! ### L.markConf -/
noncomputable def G69 : Env := (envCons 38 [1] E38 (envCons 138 [0] E138 (envCons 139 [0] E139 (envCons 140 [0] E140 envNil))))
noncomputable def c69 : Code := bodyOf Try.f69
noncomputable def L.markConf (a1 a2 a3 a4 : Int) (a5 : List Int) (a6 : List (List (Int × Int) × List (Int × Int) × (Int × Int × Int) × Int × Int)) (a7 : List (Int × Int × Int)) (a8 : List (Int × Int × Int × Int × Int)) : Option (Int × List Int × (List (List (Int × Int) × List (Int × Int) × (Int × Int × Int) × Int × Int)) × (List (Int × Int × Int)) × (List (Int × Int × Int × Int × Int))) :=
(Option.bind (L.markLat a1 a4 a5) fun r9 =>
(Option.bind (L.markQueryS r9.1 a6) fun r10 =>
(Option.bind (L.markSubS r10.1 a7) fun r11 =>
(Option.bind (L.markRuleS r11.1 a8) fun r12 =>
(some (r12.1, r9.2, r10.2, r11.2, r12.2))))))
noncomputable def R69 (x : Int × List Int × (List (List (Int × Int) × List (Int × Int) × (Int × Int × Int) × Int × Int)) × (List (Int × Int × Int)) × (List (Int × Int × Int × Int × Int))) : Res := ⟨[.one (ai x.1)], [], [⟨145, (.int .u64), x.2.1, .own⟩, ⟨173, (.pair (.sl 260 (.pair (.int .i64) (.int .i64))) (.pair (.sl 260 (.pair (.int .i64) (.int .i64))) (.pair (.pair (.int .i64) (.pair (.int .i64) (.int .i64))) (.pair (.int .i64) (.int .i64))))), x.2.2.1, .own⟩, ⟨175, (.pair (.int .i64) (.pair (.int .i64) (.int .i64))), x.2.2.2.1, .own⟩, ⟨178, (.pair (.int .i64) (.pair (.int .i64) (.pair (.int .i64) (.pair (.int .i64) (.int .i64))))), x.2.2.2.2, .own⟩]⟩
noncomputable def K69 (r : Res) : Option (Int × List Int × (List (List (Int × Int) × List (Int × Int) × (Int × Int × Int) × Int × Int)) × (List (Int × Int × Int)) × (List (Int × Int × Int × Int × Int))) :=
  match r with
  | ⟨[.one (.val (.int .i64 v1))], [], [⟨145, (.int .u64), v2, .own⟩, ⟨173, (.pair (.sl 260 (.pair (.int .i64) (.int .i64))) (.pair (.sl 260 (.pair (.int .i64) (.int .i64))) (.pair (.pair (.int .i64) (.pair (.int .i64) (.int .i64))) (.pair (.int .i64) (.int .i64))))), v3, .own⟩, ⟨175, (.pair (.int .i64) (.pair (.int .i64) (.int .i64))), v4, .own⟩, ⟨178, (.pair (.int .i64) (.pair (.int .i64) (.pair (.int .i64) (.pair (.int .i64) (.int .i64))))), v5, .own⟩]⟩ => some (v1, v2, v3, v4, v5)
  | _ => none
noncomputable def E69 : Fun2 := fun args bs rs =>
  match args, bs, rs with
  | [.s1 (.agg [.val (.int .i64 a1), .sl 0, .val (.int .i64 a2), .val (.int .i64 a3), .sl 1, .sl 2, .sl 3]), .s1 (.one (.val (.int .i64 a4)))], [], [⟨145, (.int .u64), a5, .own⟩, ⟨173, (.pair (.sl 260 (.pair (.int .i64) (.int .i64))) (.pair (.sl 260 (.pair (.int .i64) (.int .i64))) (.pair (.pair (.int .i64) (.pair (.int .i64) (.int .i64))) (.pair (.int .i64) (.int .i64))))), a6, .own⟩, ⟨175, (.pair (.int .i64) (.pair (.int .i64) (.int .i64))), a7, .own⟩, ⟨178, (.pair (.int .i64) (.pair (.int .i64) (.pair (.int .i64) (.pair (.int .i64) (.int .i64))))), a8, .own⟩] => some ⟨Int × List Int × (List (List (Int × Int) × List (Int × Int) × (Int × Int × Int) × Int × Int)) × (List (Int × Int × Int)) × (List (Int × Int × Int × Int × Int)), L.markConf a1 a2 a3 a4 a5 a6 a7 a8, R69⟩
  | _, _, _ => none
theorem ev69 (a1 a2 a3 a4 : Int) (a5 : List Int) (a6 : List (List (Int × Int) × List (Int × Int) × (Int × Int × Int) × Int × Int)) (a7 : List (Int × Int × Int)) (a8 : List (Int × Int × Int × Int × Int)) : evF Try.prog G69 loopNil (0, 4) Try.f69 c69 [.s1 (.agg [ai a1, .sl 0, ai a2, ai a3, .sl 1, .sl 2, .sl 3]), vi a4] [] [⟨145, (.int .u64), a5, .own⟩, ⟨173, (.pair (.sl 260 (.pair (.int .i64) (.int .i64))) (.pair (.sl 260 (.pair (.int .i64) (.int .i64))) (.pair (.pair (.int .i64) (.pair (.int .i64) (.int .i64))) (.pair (.int .i64) (.int .i64))))), a6, .own⟩, ⟨175, (.pair (.int .i64) (.pair (.int .i64) (.int .i64))), a7, .own⟩, ⟨178, (.pair (.int .i64) (.pair (.int .i64) (.pair (.int .i64) (.pair (.int .i64) (.int .i64))))), a8, .own⟩] K69 = L.markConf a1 a2 a3 a4 a5 a6 a7 a8 := by kernel_rfl
theorem good69 : Vm.Good Try.prog 69 E69 := by
  refine evF_good (G := G69) (c := c69) (envCons_good good38 (envCons_good good138 (envCons_good good139 (envCons_good good140 envNil_good)))) Try.func69 (by kernel_rfl) (by kernel_rfl) (0, 4) (fun args bs rs out t h h2 => ?_)
  unfold E69 at h
  split at h
  · injection h with h
    subst h
    exact ⟨rfl, loopNil, K69, (by intro x hx; simp [show loopsOf c69 = [] from by kernel_rfl] at hx), (fun r t h => by unfold K69 at h; split at h; (injection h with h; subst h; rfl); cases h), (ev69 _ _ _ _ _ _ _ _).trans h2⟩
  · cases h
/-! ### L.markIntS -/
noncomputable def G70 : Env := envNil
noncomputable def c70 : Code := bodyOf Try.f70
noncomputable def c70_2 : Code := (loopsOf c70).getD 0 .skip
noncomputable def L.markIntS_l0 : Nat → (Int → List Int → Option (Int × List Int)) → Int → Int → List Int → Option (Int × List Int)
  | 0, _, _, _, _ => none
  | m + 1, e2_0, a3, a4, a5 =>
    (bif (decide (a4 < (a5.length : Int))) then
    (bif decide ((0 : Int) ≤ a4 ∧ a4 < (a5.length : Int)) then
    (L.markIntS_l0 m e2_0 (IntKind.wrap .i64 (a3 + 1)) (IntKind.wrap .i64 (a4 + 1)) (a5.set (Int.toNat a4) a3))
    else
    none)
    else
    (e2_0 a3 a5))
noncomputable def L.markIntS (a1 : Int) (a2 : List Int) : Option (Int × List Int) :=
(L.markIntS_l0 fu (fun y11 y12 =>
(some (y11, y12))) a1 0 a2)
noncomputable def H70_2 : LoopH := ⟨⟨((.one (.sl 0)) :: hh :: (hu 3 (hh :: (hu 13 [])))), [], [(3, (.int .i64), .own)]⟩, [2, 3, 4, 6, 7, 8, 9, 10, 11, 12, 13, 14, 15, 16, 17, 18], [], [0, 2, 3, 5, 6, 7, 8, 9, 10, 11, 12, 13, 14, 15, 16, 17, 18]⟩
noncomputable def E70_2 (m : Nat) (ps : List Prm) (k : Kont (Int × List Int)) : Option (Int × List Int) :=
  match ps with
  | [.v (.int .i64 a3), .v (.int .i64 a4), .row (.int .i64) a5] => L.markIntS_l0 m (fun z15 z16 => k (.exit 0) (⟨((.s1 (.one (.unk))) :: (vi z15) :: (vu 17 [])), [], [⟨3, (.int .i64), z16, .own⟩]⟩ : St)) a3 a4 a5
  | _ => none
noncomputable def S70_2 (a3 a4 : Int) (a5 : List Int) : St := (⟨((vl 0) :: (vi a3) :: (vu 3 ((vi a4) :: (vu 13 [])))), [], [⟨3, (.int .i64), a5, .own⟩]⟩ : St)
theorem ev70_2 (m : Nat) (k : Kont (Int × List Int)) (a3 a4 : Int) (a5 : List Int) : evC Try.prog G70 loopNil c70_2 (S70_2 a3 a4 a5) (turn Try.prog (0, 1) H70_2 (E70_2 m) k) = E70_2 (m + 1) [.v (.int .i64 a3), .v (.int .i64 a4), .row (.int .i64) a5] k := by kernel_rfl
theorem ok70_2 (m : Nat) : LoopOk Try.prog (0, 1) c70_2 (enter Try.prog (0, 1) H70_2 (E70_2 m)) := by
  refine loop_ok (G := G70) (L := loopNil) envNil_good (by intro x hx; simp [show loopsOf c70_2 = [] from by kernel_rfl] at hx) (fun ps k => by unfold E70_2; split <;> rfl) (fun m ps k r h => ?_) m
  have h0 := h
  unfold E70_2 at h
  split at h
  · exact ⟨S70_2 _ _ _, by kernel_rfl, (ev70_2 m k _ _ _).trans h0⟩
  · cases h
noncomputable def L70 : LEnv (Int × List Int) := (loopCons 2 (enter Try.prog (0, 1) H70_2 (E70_2 fu)) loopNil)
theorem lq70 : loopsOf c70 = [c70_2] := by kernel_rfl
theorem fr70_2 : firstReg c70_2 = some 2 := by kernel_rfl
theorem le70_2 : L70 2 = enter Try.prog (0, 1) H70_2 (E70_2 fu) := by kernel_rfl
theorem lm70 : ∀ x ∈ [c70_2], ∀ id, firstReg x = some id → LoopOk Try.prog (0, 1) x (L70 id) := (loops_cons fr70_2 le70_2 (ok70_2 fu) loops_nil)
theorem lp70 : ∀ x ∈ loopsOf c70, ∀ id, firstReg x = some id → LoopOk Try.prog (0, 1) x (L70 id) := loops_eq lq70 lm70
noncomputable def R70 (x : Int × List Int) : Res := ⟨[.one (ai x.1)], [], [⟨3, (.int .i64), x.2, .own⟩]⟩
noncomputable def K70 (r : Res) : Option (Int × List Int) :=
  match r with
  | ⟨[.one (.val (.int .i64 v1))], [], [⟨3, (.int .i64), v2, .own⟩]⟩ => some (v1, v2)
  | _ => none
noncomputable def E70 : Fun2 := fun args bs rs =>
  match args, bs, rs with
  | [.s1 (.one (.sl 0)), .s1 (.one (.val (.int .i64 a1)))], [], [⟨3, (.int .i64), a2, .own⟩] => some ⟨Int × List Int, L.markIntS a1 a2, R70⟩
  | _, _, _ => none
theorem ev70 (a1 : Int) (a2 : List Int) : evF Try.prog G70 L70 (0, 1) Try.f70 c70 [vl 0, vi a1] [] [⟨3, (.int .i64), a2, .own⟩] K70 = L.markIntS a1 a2 := by kernel_rfl
theorem good70 : Vm.Good Try.prog 70 E70 := by
  refine evF_good (G := G70) (c := c70) envNil_good Try.func70 (by kernel_rfl) (by kernel_rfl) (0, 1) (fun args bs rs out t h h2 => ?_)
  unfold E70 at h
  split at h
  · injection h with h
    subst h
    exact ⟨rfl, L70, K70, lp70, (fun r t h => by unfold K70 at h; split at h; (injection h with h; subst h; rfl); cases h), (ev70 _ _).trans h2⟩
  · cases h
/-! ### L.heldIntS -/
noncomputable def G71 : Env := envNil
noncomputable def c71 : Code := bodyOf Try.f71
noncomputable def c71_2 : Code := (loopsOf c71).getD 0 .skip
noncomputable def L.heldIntS_l0 : Nat → (Int → Int → Option Int) → (Int → Option Int) → Int → Int → List Int → Option Int
  | 0, _, _, _, _, _ => none
  | m + 1, e2_0, e2_1, a3, a4, a5 =>
    (bif (decide (a4 < (a5.length : Int))) then
    (bif decide ((0 : Int) ≤ a4 ∧ a4 < (a5.length : Int)) then
    (bif ((nthI a5 a4 (0 : Int)) != a3) then
    (e2_0 a3 (-1))
    else
    (L.heldIntS_l0 m e2_0 e2_1 (IntKind.wrap .i64 (a3 + 1)) (IntKind.wrap .i64 (a4 + 1)) a5))
    else
    none)
    else
    (e2_1 a3))
noncomputable def L.heldIntS (a1 : Int) (a2 : List Int) : Option Int :=
(L.heldIntS_l0 fu (fun y11 y12 =>
(some y12)) (fun y13 =>
(some y13)) a1 0 a2)
noncomputable def H71_2 : LoopH := ⟨⟨((.one (.sl 0)) :: hh :: (hu 3 (hh :: (hu 15 [])))), [], [(3, (.int .i64), .ro)]⟩, [2, 3, 4, 6, 7, 8, 9, 10, 11, 12, 13, 14, 15, 16, 17, 18, 19, 20], [], [0, 2, 3, 5, 6, 7, 8, 9, 10, 11, 12, 13, 14, 15, 16, 17, 18, 19, 20]⟩
noncomputable def E71_2 (m : Nat) (ps : List Prm) (k : Kont Int) : Option Int :=
  match ps with
  | [.v (.int .i64 a3), .v (.int .i64 a4), .row (.int .i64) a5] => L.heldIntS_l0 m (fun z17 z18 => k .ret (⟨((.s1 (.one (.unk))) :: (vi z17) :: (vu 2 ((vi z18) :: (vu 16 [])))), [], []⟩ : St)) (fun z19 => k (.exit 0) (⟨((.s1 (.one (.unk))) :: (vi z19) :: (vu 19 [])), [], []⟩ : St)) a3 a4 a5
  | _ => none
noncomputable def S71_2 (a3 a4 : Int) (a5 : List Int) : St := (⟨((vl 0) :: (vi a3) :: (vu 3 ((vi a4) :: (vu 15 [])))), [], [⟨3, (.int .i64), a5, .ro⟩]⟩ : St)
theorem ev71_2 (m : Nat) (k : Kont Int) (a3 a4 : Int) (a5 : List Int) : evC Try.prog G71 loopNil c71_2 (S71_2 a3 a4 a5) (turn Try.prog (0, 0) H71_2 (E71_2 m) k) = E71_2 (m + 1) [.v (.int .i64 a3), .v (.int .i64 a4), .row (.int .i64) a5] k := by kernel_rfl
theorem ok71_2 (m : Nat) : LoopOk Try.prog (0, 0) c71_2 (enter Try.prog (0, 0) H71_2 (E71_2 m)) := by
  refine loop_ok (G := G71) (L := loopNil) envNil_good (by intro x hx; simp [show loopsOf c71_2 = [] from by kernel_rfl] at hx) (fun ps k => by unfold E71_2; split <;> rfl) (fun m ps k r h => ?_) m
  have h0 := h
  unfold E71_2 at h
  split at h
  · exact ⟨S71_2 _ _ _, by kernel_rfl, (ev71_2 m k _ _ _).trans h0⟩
  · cases h
noncomputable def L71 : LEnv Int := (loopCons 2 (enter Try.prog (0, 0) H71_2 (E71_2 fu)) loopNil)
theorem lq71 : loopsOf c71 = [c71_2] := by kernel_rfl
theorem fr71_2 : firstReg c71_2 = some 2 := by kernel_rfl
theorem le71_2 : L71 2 = enter Try.prog (0, 0) H71_2 (E71_2 fu) := by kernel_rfl
theorem lm71 : ∀ x ∈ [c71_2], ∀ id, firstReg x = some id → LoopOk Try.prog (0, 0) x (L71 id) := (loops_cons fr71_2 le71_2 (ok71_2 fu) loops_nil)
theorem lp71 : ∀ x ∈ loopsOf c71, ∀ id, firstReg x = some id → LoopOk Try.prog (0, 0) x (L71 id) := loops_eq lq71 lm71
noncomputable def R71 (x : Int) : Res := ⟨[.one (ai x)], [], []⟩
noncomputable def K71 (r : Res) : Option Int :=
  match r with
  | ⟨[.one (.val (.int .i64 v1))], [], []⟩ => some (v1)
  | _ => none
noncomputable def E71 : Fun2 := fun args bs rs =>
  match args, bs, rs with
  | [.s1 (.one (.sl 0)), .s1 (.one (.val (.int .i64 a1)))], [], [⟨3, (.int .i64), a2, .ro⟩] => some ⟨Int, L.heldIntS a1 a2, R71⟩
  | _, _, _ => none
theorem ev71 (a1 : Int) (a2 : List Int) : evF Try.prog G71 L71 (0, 0) Try.f71 c71 [vl 0, vi a1] [] [⟨3, (.int .i64), a2, .ro⟩] K71 = L.heldIntS a1 a2 := by kernel_rfl
theorem good71 : Vm.Good Try.prog 71 E71 := by
  refine evF_good (G := G71) (c := c71) envNil_good Try.func71 (by kernel_rfl) (by kernel_rfl) (0, 0) (fun args bs rs out t h h2 => ?_)
  unfold E71 at h
  split at h
  · injection h with h
    subst h
    exact ⟨rfl, L71, K71, lp71, (fun r t h => by unfold K71 at h; split at h; (injection h with h; subst h; rfl); cases h), (ev71 _ _).trans h2⟩
  · cases h
/-! ### L.FnExactConfSessions -/
noncomputable def G12 : Env := (envCons 61 [] E61 (envCons 63 [] E63 (envCons 66 [] E66 (envCons 67 [] E67 (envCons 68 [] E68 (envCons 65 [] E65 (envCons 69 [1, 4, 5, 6] E69 (envCons 70 [0] E70 (envCons 71 [] E71 envNil)))))))))
noncomputable def c12 : Code := bodyOf Try.f12
noncomputable def L.FnExactConfSessions (a1 a2 a3 : Int) (a4 : List Int) (a5 : List (List (Int × Int) × List (Int × Int) × (Int × Int × Int) × Int × Int)) (a6 : List (Int × Int × Int)) (a7 : List (Int × Int × Int × Int × Int)) : Option Bool :=
(Option.bind (L.szConf a1 a2 a3 1048576 a4 a5 a6 a7) fun r8 =>
(bif (decide (r8 < 0)) then
(some true)
else
(Option.bind (L.toConf a1 a2 a3 a4 a5 a6 a7) fun r10 =>
(Option.bind (S.ConfSessions r10.1 r10.2.1 r10.2.2.1 r10.2.2.2.1 r10.2.2.2.2.1 r10.2.2.2.2.2.1 r10.2.2.2.2.2.2) fun r11 =>
(Option.bind (L.toConf a1 a2 a3 a4 a5 a6 a7) fun r12 =>
(Option.bind (I.ConfSessions r12.1 r12.2.1 r12.2.2.1 r12.2.2.2.1 r12.2.2.2.2.1 r12.2.2.2.2.2.1 r12.2.2.2.2.2.2) fun r13 =>
(Option.bind (L.eqIntS r13 r11) fun r14 =>
(bif (!r14) then
(some false)
else
(Option.bind (L.toConf a1 a2 a3 a4 a5 a6 a7) fun r15 =>
(Option.bind (L.eqConf r12.1 r12.2.1 r12.2.2.1 r15.1 r15.2.1 r15.2.2.1 r12.2.2.2.1 r12.2.2.2.2.1 r12.2.2.2.2.2.1 r12.2.2.2.2.2.2 r15.2.2.2.1 r15.2.2.2.2.1 r15.2.2.2.2.2.1 r15.2.2.2.2.2.2) fun r16 =>
(bif (!r16) then
(some false)
else
(Option.bind (L.markConf r12.1 r12.2.1 r12.2.2.1 1 r12.2.2.2.1 r12.2.2.2.2.1 r12.2.2.2.2.2.1 r12.2.2.2.2.2.2) fun r17 =>
(bif (decide (r17.1 < 0)) then
(some false)
else
(Option.bind (L.eqIntS r13 r11) fun r19 =>
(bif (!r19) then
(some false)
else
(Option.bind (L.markIntS 1 r13) fun r20 =>
(Option.bind (L.heldIntS 1 r20.2) fun r21 =>
(bif (decide (r21 < 0)) then
(some false)
else
(bif (r21 != r20.1) then
(some false)
else
(Option.bind (L.toConf a1 a2 a3 a4 a5 a6 a7) fun r23 =>
(Option.bind (I.ConfSessions r23.1 r23.2.1 r23.2.2.1 r23.2.2.2.1 r23.2.2.2.2.1 r23.2.2.2.2.2.1 r23.2.2.2.2.2.2) fun r24 =>
(Option.bind (L.eqIntS r24 r11) fun r25 =>
(bif (!r25) then
(some false)
else
(Option.bind (L.heldIntS 1 r20.2) fun r26 =>
(bif (decide (r26 < 0)) then
(some false)
else
(bif (r26 != r20.1) then
(some false)
else
(some true)))))))))))))))))))))))))))
noncomputable def R12 (x : Bool) : Res := ⟨[.one (ab x)], [], []⟩
noncomputable def K12 (r : Res) : Option Bool :=
  match r with
  | ⟨[.one (.val (.bool v1))], [], []⟩ => some (v1)
  | _ => none
noncomputable def E12 : Fun2 := fun args bs rs =>
  match args, bs, rs with
  | [.s1 (.agg [.val (.int .i64 a1), .sl 0, .val (.int .i64 a2), .val (.int .i64 a3), .sl 1, .sl 2, .sl 3])], [], [⟨145, (.int .u64), a4, .ro⟩, ⟨231, (.pair (.sl 269 (.pair (.int .i64) (.int .i64))) (.pair (.sl 269 (.pair (.int .i64) (.int .i64))) (.pair (.pair (.int .i64) (.pair (.int .i64) (.int .i64))) (.pair (.int .i64) (.int .i64))))), a5, .ro⟩, ⟨236, (.pair (.int .i64) (.pair (.int .i64) (.int .i64))), a6, .ro⟩, ⟨238, (.pair (.int .i64) (.pair (.int .i64) (.pair (.int .i64) (.pair (.int .i64) (.int .i64))))), a7, .ro⟩] => some ⟨Bool, L.FnExactConfSessions a1 a2 a3 a4 a5 a6 a7, R12⟩
  | _, _, _ => none
theorem ev12 (a1 a2 a3 : Int) (a4 : List Int) (a5 : List (List (Int × Int) × List (Int × Int) × (Int × Int × Int) × Int × Int)) (a6 : List (Int × Int × Int)) (a7 : List (Int × Int × Int × Int × Int)) : evF Try.prog G12 loopNil (0, 0) Try.f12 c12 [.s1 (.agg [ai a1, .sl 0, ai a2, ai a3, .sl 1, .sl 2, .sl 3])] [] [⟨145, (.int .u64), a4, .ro⟩, ⟨231, (.pair (.sl 269 (.pair (.int .i64) (.int .i64))) (.pair (.sl 269 (.pair (.int .i64) (.int .i64))) (.pair (.pair (.int .i64) (.pair (.int .i64) (.int .i64))) (.pair (.int .i64) (.int .i64))))), a5, .ro⟩, ⟨236, (.pair (.int .i64) (.pair (.int .i64) (.int .i64))), a6, .ro⟩, ⟨238, (.pair (.int .i64) (.pair (.int .i64) (.pair (.int .i64) (.pair (.int .i64) (.int .i64))))), a7, .ro⟩] K12 = L.FnExactConfSessions a1 a2 a3 a4 a5 a6 a7 := by kernel_rfl
theorem good12 : Vm.Good Try.prog 12 E12 := by
  refine evF_good (G := G12) (c := c12) (envCons_good good61 (envCons_good good63 (envCons_good good66 (envCons_good good67 (envCons_good good68 (envCons_good good65 (envCons_good good69 (envCons_good good70 (envCons_good good71 envNil_good))))))))) Try.func12 (by kernel_rfl) (by kernel_rfl) (0, 0) (fun args bs rs out t h h2 => ?_)
  unfold E12 at h
  split at h
  · injection h with h
    subst h
    exact ⟨rfl, loopNil, K12, (by intro x hx; simp [show loopsOf c12 = [] from by kernel_rfl] at hx), (fun r t h => by unfold K12 at h; split at h; (injection h with h; subst h; rfl); cases h), (ev12 _ _ _ _ _ _ _).trans h2⟩
  · cases h
end Go.Proofs.Ytipekionggdicaa.Run
