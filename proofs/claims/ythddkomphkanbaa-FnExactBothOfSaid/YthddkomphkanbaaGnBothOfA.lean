import Derived.Test.YthddkomphkanbaaVmU
import Derived.Test.YthddkomphkanbaaProg
namespace Go.Proofs.Ythddkomphkanbaa.Run
open Go Go.RowKit Go.Proofs.YthddkomphkanbaaW.PrintWords Go.Proofs.Ythddkomphkanbaa.Vm
set_option linter.unusedVariables false
set_option maxRecDepth 100000

/-! ### L.szUint64S -/
noncomputable def G102 : Env := envNil
noncomputable def c102 : Code := bodyOf Try.f102
noncomputable def L.szUint64S (a1 : Int) (a2 : List Int) : Option Int :=
(let v4 : Int := (IntKind.wrap .i64 (a1 - (a2.length : Int)))
(bif (decide (v4 < 0)) then
(some (-1))
else
(some v4)))
noncomputable def R102 (x : Int) : Res := ⟨[.one (ai x)], [], []⟩
noncomputable def K102 (r : Res) : Option Int :=
  match r with
  | ⟨[.one (.val (.int .i64 v1))], [], []⟩ => some (v1)
  | _ => none
noncomputable def E102 : Fun2 := fun args bs rs =>
  match args, bs, rs with
  | [.s1 (.one (.sl 0)), .s1 (.one (.val (.int .i64 a1)))], [], [⟨117, (.int .u64), a2, .ro⟩] => some ⟨Int, L.szUint64S a1 a2, R102⟩
  | _, _, _ => none
theorem ev102 (a1 : Int) (a2 : List Int) : evF Try.prog G102 loopNil (0, 0) [] Try.f102 c102 [vl 0, vi a1] [] [⟨117, (.int .u64), a2, .ro⟩] K102 = L.szUint64S a1 a2 := by kernel_rfl
theorem good102 : Vm.Good Try.prog 102 E102 := by
  refine evF_good (G := G102) (c := c102) envNil_good Try.func102 (by kernel_rfl) (by kernel_rfl) (0, 0) (fun args bs rs out t h h2 => ?_)
  unfold E102 at h
  split at h
  · injection h with h
    subst h
    exact ⟨rfl, [], loopNil, K102, (by intro x hx; simp [show loopsOf c102 = [] from by kernel_rfl] at hx), (fun r t h => by unfold K102 at h; split at h; (injection h with h; subst h; rfl); cases h), (ev102 _ _).trans h2⟩
  · cases h
/-! ### L.szLat -/
noncomputable def G29 : Env := (envCons 102 [] E102 envNil)
noncomputable def c29 : Code := bodyOf Try.f29
noncomputable def L.szLat (a1 a2 : Int) (a3 : List Int) : Option Int :=
(Option.bind (L.szUint64S a2 a3) fun r4 =>
(bif (decide (r4 < 0)) then
(some (-1))
else
(some r4)))
noncomputable def R29 (x : Int) : Res := ⟨[.one (ai x)], [], []⟩
noncomputable def K29 (r : Res) : Option Int :=
  match r with
  | ⟨[.one (.val (.int .i64 v1))], [], []⟩ => some (v1)
  | _ => none
noncomputable def E29 : Fun2 := fun args bs rs =>
  match args, bs, rs with
  | [.s1 (.agg [.val (.int .i64 a1), .sl 0]), .s1 (.one (.val (.int .i64 a2)))], [], [⟨117, (.int .u64), a3, .ro⟩] => some ⟨Int, L.szLat a1 a2 a3, R29⟩
  | _, _, _ => none
theorem ev29 (a1 a2 : Int) (a3 : List Int) : evF Try.prog G29 loopNil (0, 0) [] Try.f29 c29 [.s1 (.agg [ai a1, .sl 0]), vi a2] [] [⟨117, (.int .u64), a3, .ro⟩] K29 = L.szLat a1 a2 a3 := by kernel_rfl
theorem good29 : Vm.Good Try.prog 29 E29 := by
  refine evF_good (G := G29) (c := c29) (envCons_good good102 envNil_good) Try.func29 (by kernel_rfl) (by kernel_rfl) (0, 0) (fun args bs rs out t h h2 => ?_)
  unfold E29 at h
  split at h
  · injection h with h
    subst h
    exact ⟨rfl, [], loopNil, K29, (by intro x hx; simp [show loopsOf c29 = [] from by kernel_rfl] at hx), (fun r t h => by unfold K29 at h; split at h; (injection h with h; subst h; rfl); cases h), (ev29 _ _ _).trans h2⟩
  · cases h
/-! ### L.szIntS -/
noncomputable def G114 : Env := envNil
noncomputable def c114 : Code := bodyOf Try.f114
noncomputable def L.szIntS (a1 : Int) (a2 : List Int) : Option Int :=
(let v4 : Int := (IntKind.wrap .i64 (a1 - (a2.length : Int)))
(bif (decide (v4 < 0)) then
(some (-1))
else
(some v4)))
noncomputable def R114 (x : Int) : Res := ⟨[.one (ai x)], [], []⟩
noncomputable def K114 (r : Res) : Option Int :=
  match r with
  | ⟨[.one (.val (.int .i64 v1))], [], []⟩ => some (v1)
  | _ => none
noncomputable def E114 : Fun2 := fun args bs rs =>
  match args, bs, rs with
  | [.s1 (.one (.sl 0)), .s1 (.one (.val (.int .i64 a1)))], [], [⟨3, (.int .i64), a2, .ro⟩] => some ⟨Int, L.szIntS a1 a2, R114⟩
  | _, _, _ => none
theorem ev114 (a1 : Int) (a2 : List Int) : evF Try.prog G114 loopNil (0, 0) [] Try.f114 c114 [vl 0, vi a1] [] [⟨3, (.int .i64), a2, .ro⟩] K114 = L.szIntS a1 a2 := by kernel_rfl
theorem good114 : Vm.Good Try.prog 114 E114 := by
  refine evF_good (G := G114) (c := c114) envNil_good Try.func114 (by kernel_rfl) (by kernel_rfl) (0, 0) (fun args bs rs out t h h2 => ?_)
  unfold E114 at h
  split at h
  · injection h with h
    subst h
    exact ⟨rfl, [], loopNil, K114, (by intro x hx; simp [show loopsOf c114 = [] from by kernel_rfl] at hx), (fun r t h => by unfold K114 at h; split at h; (injection h with h; subst h; rfl); cases h), (ev114 _ _).trans h2⟩
  · cases h
/-! ### L.szPane -/
noncomputable def G42 : Env := (envCons 114 [] E114 envNil)
noncomputable def c42 : Code := bodyOf Try.f42
noncomputable def L.szPane (a1 a2 a3 a4 a5 a6 : Int) (a7 : Bool) (a8 : Int) (a9 : List Int) : Option Int :=
(Option.bind (L.szIntS a8 a9) fun r10 =>
(bif (decide (r10 < 0)) then
(some (-1))
else
(some r10)))
noncomputable def R42 (x : Int) : Res := ⟨[.one (ai x)], [], []⟩
noncomputable def K42 (r : Res) : Option Int :=
  match r with
  | ⟨[.one (.val (.int .i64 v1))], [], []⟩ => some (v1)
  | _ => none
noncomputable def E42 : Fun2 := fun args bs rs =>
  match args, bs, rs with
  | [.s1 (.agg [.val (.int .i64 a1), .val (.int .i64 a2), .val (.int .i64 a3), .val (.int .i64 a4), .val (.int .i64 a5), .val (.int .i64 a6), .sl 0, .val (.bool a7)]), .s1 (.one (.val (.int .i64 a8)))], [], [⟨3, (.int .i64), a9, .ro⟩] => some ⟨Int, L.szPane a1 a2 a3 a4 a5 a6 a7 a8 a9, R42⟩
  | _, _, _ => none
theorem ev42 (a1 a2 a3 a4 a5 a6 : Int) (a7 : Bool) (a8 : Int) (a9 : List Int) : evF Try.prog G42 loopNil (0, 0) [] Try.f42 c42 [.s1 (.agg [ai a1, ai a2, ai a3, ai a4, ai a5, ai a6, .sl 0, ab a7]), vi a8] [] [⟨3, (.int .i64), a9, .ro⟩] K42 = L.szPane a1 a2 a3 a4 a5 a6 a7 a8 a9 := by kernel_rfl
theorem good42 : Vm.Good Try.prog 42 E42 := by
  refine evF_good (G := G42) (c := c42) (envCons_good good114 envNil_good) Try.func42 (by kernel_rfl) (by kernel_rfl) (0, 0) (fun args bs rs out t h h2 => ?_)
  unfold E42 at h
  split at h
  · injection h with h
    subst h
    exact ⟨rfl, [], loopNil, K42, (by intro x hx; simp [show loopsOf c42 = [] from by kernel_rfl] at hx), (fun r t h => by unfold K42 at h; split at h; (injection h with h; subst h; rfl); cases h), (ev42 _ _ _ _ _ _ _ _ _).trans h2⟩
  · cases h
/-! ### L.szPaneS -/
noncomputable def G30 : Env := (envCons 42 [] E42 envNil)
noncomputable def c30 : Code := bodyOf Try.f30
noncomputable def c30_5 : Code := (loopsOf c30).getD 0 .skip
noncomputable def L.szPaneS_l0 : Nat → (Int → Int → Option Int) → (Int → Option Int) → Int → Int → (List (Int × Int × Int × Int × Int × Int × List Int × Bool)) → Option Int
  | 0, _, _, _, _, _ => none
  | m + 1, e5_0, e5_1, a6, a7, a8 =>
    (bif (decide (a7 < (a8.length : Int))) then
    (bif decide ((0 : Int) ≤ a7 ∧ a7 < (a8.length : Int)) then
    (Option.bind (L.szPane ((nthI a8 a7 ((0 : Int), ((0 : Int), ((0 : Int), ((0 : Int), ((0 : Int), ((0 : Int), ([], false)))))))).1) ((nthI a8 a7 ((0 : Int), ((0 : Int), ((0 : Int), ((0 : Int), ((0 : Int), ((0 : Int), ([], false)))))))).2.1) ((nthI a8 a7 ((0 : Int), ((0 : Int), ((0 : Int), ((0 : Int), ((0 : Int), ((0 : Int), ([], false)))))))).2.2.1) ((nthI a8 a7 ((0 : Int), ((0 : Int), ((0 : Int), ((0 : Int), ((0 : Int), ((0 : Int), ([], false)))))))).2.2.2.1) ((nthI a8 a7 ((0 : Int), ((0 : Int), ((0 : Int), ((0 : Int), ((0 : Int), ((0 : Int), ([], false)))))))).2.2.2.2.1) ((nthI a8 a7 ((0 : Int), ((0 : Int), ((0 : Int), ((0 : Int), ((0 : Int), ((0 : Int), ([], false)))))))).2.2.2.2.2.1) ((nthI a8 a7 ((0 : Int), ((0 : Int), ((0 : Int), ((0 : Int), ((0 : Int), ((0 : Int), ([], false)))))))).2.2.2.2.2.2.2) a6 ((nthI a8 a7 ((0 : Int), ((0 : Int), ((0 : Int), ((0 : Int), ((0 : Int), ((0 : Int), ([], false)))))))).2.2.2.2.2.2.1)) fun r11 =>
    (bif (decide (r11 < 0)) then
    (e5_0 r11 (-1))
    else
    (L.szPaneS_l0 m e5_0 e5_1 r11 (IntKind.wrap .i64 (a7 + 1)) a8)))
    else
    none)
    else
    (e5_1 a6))
noncomputable def L.szPaneS (a1 : Int) (a2 : List (Int × Int × Int × Int × Int × Int × List Int × Bool)) : Option Int :=
(let v4 : Int := (IntKind.wrap .i64 (a1 - (a2.length : Int)))
(bif (decide (v4 < 0)) then
(some (-1))
else
(L.szPaneS_l0 fu (fun y14 y15 =>
(some y15)) (fun y16 =>
(some y16)) v4 0 a2)))
noncomputable def H30_5 : LoopH := ⟨⟨((.one (.sl 0)) :: hh :: (hu 3 (hh :: (hu 21 [])))), [], [(64, (.pair (.int .i64) (.pair (.int .i64) (.pair (.int .i64) (.pair (.int .i64) (.pair (.int .i64) (.pair (.int .i64) (.pair (.sl 3 (.int .i64)) .bool))))))), .ro)]⟩, [2, 3, 4, 6, 7, 8, 9, 10, 11, 12, 13, 14, 15, 16, 17, 18, 19, 20, 21, 22, 23, 24, 25, 26], [], [0, 2, 3, 5, 6, 7, 8, 9, 10, 11, 12, 13, 14, 15, 16, 17, 18, 19, 20, 21, 22, 23, 24, 25, 26]⟩
noncomputable def E30_5 (m : Nat) (ps : List Prm) (k : Kont Int) : Option Int :=
  match ps with
  | [.v (.int .i64 a6), .v (.int .i64 a7), .row (.pair (.int .i64) (.pair (.int .i64) (.pair (.int .i64) (.pair (.int .i64) (.pair (.int .i64) (.pair (.int .i64) (.pair (.sl 3 (.int .i64)) .bool))))))) a8] => L.szPaneS_l0 m (fun z20 z21 => k .ret (⟨((.s1 (.one (.unk))) :: (vi z20) :: (vu 2 ((vi z21) :: (vu 22 [])))), [], []⟩ : St)) (fun z22 => k (.exit 0) (⟨((.s1 (.one (.unk))) :: (vi z22) :: (vu 25 [])), [], []⟩ : St)) a6 a7 a8
  | _ => none
noncomputable def S30_5 (a6 a7 : Int) (a8 : List (Int × Int × Int × Int × Int × Int × List Int × Bool)) : St := (⟨((vl 0) :: (vi a6) :: (vu 3 ((vi a7) :: (vu 21 [])))), [], [⟨64, (.pair (.int .i64) (.pair (.int .i64) (.pair (.int .i64) (.pair (.int .i64) (.pair (.int .i64) (.pair (.int .i64) (.pair (.sl 3 (.int .i64)) .bool))))))), a8, .ro⟩]⟩ : St)
theorem ev30_5 (m : Nat) (k : Kont Int) (a6 a7 : Int) (a8 : List (Int × Int × Int × Int × Int × Int × List Int × Bool)) : evC Try.prog G30 loopNil c30_5 (S30_5 a6 a7 a8) (turn Try.prog (0, 0) H30_5 (E30_5 m) k) = E30_5 (m + 1) [.v (.int .i64 a6), .v (.int .i64 a7), .row (.pair (.int .i64) (.pair (.int .i64) (.pair (.int .i64) (.pair (.int .i64) (.pair (.int .i64) (.pair (.int .i64) (.pair (.sl 3 (.int .i64)) .bool))))))) a8] k := by kernel_rfl
theorem ok30_5 (m : Nat) : LoopOk Try.prog (0, 0) c30_5 (enter Try.prog (0, 0) H30_5 (E30_5 m)) := by
  refine loop_ok (G := G30) (L := loopNil) (envCons_good good42 envNil_good) (by intro x hx; simp [show loopsOf c30_5 = [] from by kernel_rfl] at hx) (fun ps k => by unfold E30_5; split <;> rfl) (fun m ps k r h => ?_) m
  have h0 := h
  unfold E30_5 at h
  split at h
  · exact ⟨S30_5 _ _ _, by kernel_rfl, (ev30_5 m k _ _ _).trans h0⟩
  · cases h
noncomputable def L30 : LEnv Int := (loopCons 5 (enter Try.prog (0, 0) H30_5 (E30_5 fu)) loopNil)
theorem lq30 : loopsOf c30 = [c30_5] := by kernel_rfl
theorem fr30_5 : firstReg c30_5 = some 5 := by kernel_rfl
theorem le30_5 : L30 5 = enter Try.prog (0, 0) H30_5 (E30_5 fu) := by kernel_rfl
theorem lm30 : ∀ x ∈ [c30_5], ∀ id, firstReg x = some id → LoopOk Try.prog (0, 0) x (L30 id) := (loops_cons fr30_5 le30_5 (ok30_5 fu) loops_nil)
theorem lp30 : ∀ x ∈ loopsOf c30, ∀ id, firstReg x = some id → LoopOk Try.prog (0, 0) x (L30 id) := loops_eq lq30 lm30
noncomputable def R30 (x : Int) : Res := ⟨[.one (ai x)], [], []⟩
noncomputable def K30 (r : Res) : Option Int :=
  match r with
  | ⟨[.one (.val (.int .i64 v1))], [], []⟩ => some (v1)
  | _ => none
noncomputable def E30 : Fun2 := fun args bs rs =>
  match args, bs, rs with
  | [.s1 (.one (.sl 0)), .s1 (.one (.val (.int .i64 a1)))], [], [⟨64, (.pair (.int .i64) (.pair (.int .i64) (.pair (.int .i64) (.pair (.int .i64) (.pair (.int .i64) (.pair (.int .i64) (.pair (.sl 3 (.int .i64)) .bool))))))), a2, .ro⟩] => some ⟨Int, L.szPaneS a1 a2, R30⟩
  | _, _, _ => none
theorem ev30 (a1 : Int) (a2 : List (Int × Int × Int × Int × Int × Int × List Int × Bool)) : evF Try.prog G30 L30 (0, 0) [] Try.f30 c30 [vl 0, vi a1] [] [⟨64, (.pair (.int .i64) (.pair (.int .i64) (.pair (.int .i64) (.pair (.int .i64) (.pair (.int .i64) (.pair (.int .i64) (.pair (.sl 3 (.int .i64)) .bool))))))), a2, .ro⟩] K30 = L.szPaneS a1 a2 := by kernel_rfl
theorem good30 : Vm.Good Try.prog 30 E30 := by
  refine evF_good (G := G30) (c := c30) (envCons_good good42 envNil_good) Try.func30 (by kernel_rfl) (by kernel_rfl) (0, 0) (fun args bs rs out t h h2 => ?_)
  unfold E30 at h
  split at h
  · injection h with h
    subst h
    exact ⟨rfl, [], L30, K30, lp30, (fun r t h => by unfold K30 at h; split at h; (injection h with h; subst h; rfl); cases h), (ev30 _ _).trans h2⟩
  · cases h
/-! ### L.toUint64S -/
noncomputable def G106 : Env := envNil
noncomputable def c106 : Code := bodyOf Try.f106
noncomputable def c106_3 : Code := (loopsOf c106).getD 0 .skip
noncomputable def L.toUint64S_l0 : Nat → (List Int → Option (List Int)) → Int → List Int → List Int → Option (List Int)
  | 0, _, _, _, _ => none
  | m + 1, e3_0, a4, a5, a6 =>
    (bif (decide (a4 < (a5.length : Int))) then
    (bif decide ((0 : Int) ≤ a4 ∧ a4 < (a5.length : Int)) then
    (bif decide ((0 : Int) ≤ a4 ∧ a4 < (a6.length : Int)) then
    (L.toUint64S_l0 m e3_0 (IntKind.wrap .i64 (a4 + 1)) a5 (a6.set (Int.toNat a4) (nthI a5 a4 (0 : Int))))
    else
    none)
    else
    none)
    else
    (e3_0 a6))
noncomputable def L.toUint64S (a1 : List Int) : Option (List Int) :=
(let v2 : Int := (a1.length : Int)
(bif decide ((0 : Int) ≤ v2 ∧ v2 ≤ v2 ∧ (8 : Int) * v2 ≤ 281474976710656 ∧ v2 ≤ 9223372036854775807) then
(L.toUint64S_l0 fu (fun y11 =>
(some y11)) 0 a1 (List.replicate (Int.toNat v2) (0 : Int)))
else
none))
noncomputable def H106_3 : LoopH := ⟨⟨((.one (.sl 0)) :: (hu 2 ((.one (.sl 1)) :: hh :: (hu 17 [])))), [], [(117, (.int .u64), .ro), (117, (.int .u64), .own)]⟩, [1, 2, 5, 6, 7, 8, 9, 10, 11, 12, 13, 14, 15, 16, 17, 18, 19, 20, 21], [], [0, 1, 4, 5, 6, 7, 8, 9, 10, 11, 12, 13, 14, 15, 16, 17, 18, 19, 20, 21]⟩
noncomputable def E106_3 (m : Nat) (ps : List Prm) (k : Kont (List Int)) : Option (List Int) :=
  match ps with
  | [.v (.int .i64 a4), .row (.int .u64) a5, .row (.int .u64) a6] => L.toUint64S_l0 m (fun z13 => k (.exit 0) (⟨(vu 3 ((vl 0) :: (vu 18 []))), [], [⟨117, (.int .u64), z13, .own⟩]⟩ : St)) a4 a5 a6
  | _ => none
noncomputable def S106_3 (a4 : Int) (a5 a6 : List Int) : St := (⟨((vl 0) :: (vu 2 ((vl 1) :: (vi a4) :: (vu 17 [])))), [], [⟨117, (.int .u64), a5, .ro⟩, ⟨117, (.int .u64), a6, .own⟩]⟩ : St)
theorem ev106_3 (m : Nat) (k : Kont (List Int)) (a4 : Int) (a5 a6 : List Int) : evC Try.prog G106 loopNil c106_3 (S106_3 a4 a5 a6) (turn Try.prog (0, 0) H106_3 (E106_3 m) k) = E106_3 (m + 1) [.v (.int .i64 a4), .row (.int .u64) a5, .row (.int .u64) a6] k := by kernel_rfl
theorem ok106_3 (m : Nat) : LoopOk Try.prog (0, 0) c106_3 (enter Try.prog (0, 0) H106_3 (E106_3 m)) := by
  refine loop_ok (G := G106) (L := loopNil) envNil_good (by intro x hx; simp [show loopsOf c106_3 = [] from by kernel_rfl] at hx) (fun ps k => by unfold E106_3; split <;> rfl) (fun m ps k r h => ?_) m
  have h0 := h
  unfold E106_3 at h
  split at h
  · exact ⟨S106_3 _ _ _, by kernel_rfl, (ev106_3 m k _ _ _).trans h0⟩
  · cases h
noncomputable def L106 : LEnv (List Int) := (loopCons 3 (enter Try.prog (0, 0) H106_3 (E106_3 fu)) loopNil)
theorem lq106 : loopsOf c106 = [c106_3] := by kernel_rfl
theorem fr106_3 : firstReg c106_3 = some 3 := by kernel_rfl
theorem le106_3 : L106 3 = enter Try.prog (0, 0) H106_3 (E106_3 fu) := by kernel_rfl
theorem lm106 : ∀ x ∈ [c106_3], ∀ id, firstReg x = some id → LoopOk Try.prog (0, 0) x (L106 id) := (loops_cons fr106_3 le106_3 (ok106_3 fu) loops_nil)
theorem lp106 : ∀ x ∈ loopsOf c106, ∀ id, firstReg x = some id → LoopOk Try.prog (0, 0) x (L106 id) := loops_eq lq106 lm106
noncomputable def R106 (x : List Int) : Res := ⟨[.one (.sl 0)], [], [⟨117, (.int .u64), x, .own⟩]⟩
noncomputable def K106 (r : Res) : Option (List Int) :=
  match r with
  | ⟨[.one (.sl 0)], [], [⟨117, (.int .u64), v1, .own⟩]⟩ => some (v1)
  | _ => none
noncomputable def E106 : Fun2 := fun args bs rs =>
  match args, bs, rs with
  | [.s1 (.one (.sl 0))], [], [⟨117, (.int .u64), a1, .ro⟩] => some ⟨List Int, L.toUint64S a1, R106⟩
  | _, _, _ => none
theorem ev106 (a1 : List Int) : evF Try.prog G106 L106 (0, 0) [] Try.f106 c106 [vl 0] [] [⟨117, (.int .u64), a1, .ro⟩] K106 = L.toUint64S a1 := by kernel_rfl
theorem good106 : Vm.Good Try.prog 106 E106 := by
  refine evF_good (G := G106) (c := c106) envNil_good Try.func106 (by kernel_rfl) (by kernel_rfl) (0, 0) (fun args bs rs out t h h2 => ?_)
  unfold E106 at h
  split at h
  · injection h with h
    subst h
    exact ⟨rfl, [], L106, K106, lp106, (fun r t h => by unfold K106 at h; split at h; (injection h with h; subst h; rfl); cases h), (ev106 _).trans h2⟩
  · cases h
/-! ### L.toLat -/
noncomputable def G32 : Env := (envCons 106 [] E106 envNil)
noncomputable def c32 : Code := bodyOf Try.f32
noncomputable def L.toLat (a1 : Int) (a2 : List Int) : Option (Int × List Int) :=
(Option.bind (L.toUint64S a2) fun r3 =>
(some (a1, r3)))
noncomputable def R32 (x : Int × List Int) : Res := ⟨[.agg [ai x.1, .sl 0]], [], [⟨117, (.int .u64), x.2, .own⟩]⟩
noncomputable def K32 (r : Res) : Option (Int × List Int) :=
  match r with
  | ⟨[.agg [.val (.int .i64 v1), .sl 0]], [], [⟨117, (.int .u64), v2, .own⟩]⟩ => some (v1, v2)
  | _ => none
noncomputable def E32 : Fun2 := fun args bs rs =>
  match args, bs, rs with
  | [.s1 (.agg [.val (.int .i64 a1), .sl 0])], [], [⟨117, (.int .u64), a2, .ro⟩] => some ⟨Int × List Int, L.toLat a1 a2, R32⟩
  | _, _, _ => none
theorem ev32 (a1 : Int) (a2 : List Int) : evF Try.prog G32 loopNil (0, 0) [] Try.f32 c32 [.s1 (.agg [ai a1, .sl 0])] [] [⟨117, (.int .u64), a2, .ro⟩] K32 = L.toLat a1 a2 := by kernel_rfl
theorem good32 : Vm.Good Try.prog 32 E32 := by
  refine evF_good (G := G32) (c := c32) (envCons_good good106 envNil_good) Try.func32 (by kernel_rfl) (by kernel_rfl) (0, 0) (fun args bs rs out t h h2 => ?_)
  unfold E32 at h
  split at h
  · injection h with h
    subst h
    exact ⟨rfl, [], loopNil, K32, (by intro x hx; simp [show loopsOf c32 = [] from by kernel_rfl] at hx), (fun r t h => by unfold K32 at h; split at h; (injection h with h; subst h; rfl); cases h), (ev32 _ _).trans h2⟩
  · cases h
/-! ### L.toIntS -/
noncomputable def G118 : Env := envNil
noncomputable def c118 : Code := bodyOf Try.f118
noncomputable def c118_3 : Code := (loopsOf c118).getD 0 .skip
noncomputable def L.toIntS_l0 : Nat → (List Int → Option (List Int)) → Int → List Int → List Int → Option (List Int)
  | 0, _, _, _, _ => none
  | m + 1, e3_0, a4, a5, a6 =>
    (bif (decide (a4 < (a5.length : Int))) then
    (bif decide ((0 : Int) ≤ a4 ∧ a4 < (a5.length : Int)) then
    (bif decide ((0 : Int) ≤ a4 ∧ a4 < (a6.length : Int)) then
    (L.toIntS_l0 m e3_0 (IntKind.wrap .i64 (a4 + 1)) a5 (a6.set (Int.toNat a4) (nthI a5 a4 (0 : Int))))
    else
    none)
    else
    none)
    else
    (e3_0 a6))
noncomputable def L.toIntS (a1 : List Int) : Option (List Int) :=
(let v2 : Int := (a1.length : Int)
(bif decide ((0 : Int) ≤ v2 ∧ v2 ≤ v2 ∧ (8 : Int) * v2 ≤ 281474976710656 ∧ v2 ≤ 9223372036854775807) then
(L.toIntS_l0 fu (fun y11 =>
(some y11)) 0 a1 (List.replicate (Int.toNat v2) (0 : Int)))
else
none))
noncomputable def H118_3 : LoopH := ⟨⟨((.one (.sl 0)) :: (hu 2 ((.one (.sl 1)) :: hh :: (hu 17 [])))), [], [(3, (.int .i64), .ro), (3, (.int .i64), .own)]⟩, [1, 2, 5, 6, 7, 8, 9, 10, 11, 12, 13, 14, 15, 16, 17, 18, 19, 20, 21], [], [0, 1, 4, 5, 6, 7, 8, 9, 10, 11, 12, 13, 14, 15, 16, 17, 18, 19, 20, 21]⟩
noncomputable def E118_3 (m : Nat) (ps : List Prm) (k : Kont (List Int)) : Option (List Int) :=
  match ps with
  | [.v (.int .i64 a4), .row (.int .i64) a5, .row (.int .i64) a6] => L.toIntS_l0 m (fun z13 => k (.exit 0) (⟨(vu 3 ((vl 0) :: (vu 18 []))), [], [⟨3, (.int .i64), z13, .own⟩]⟩ : St)) a4 a5 a6
  | _ => none
noncomputable def S118_3 (a4 : Int) (a5 a6 : List Int) : St := (⟨((vl 0) :: (vu 2 ((vl 1) :: (vi a4) :: (vu 17 [])))), [], [⟨3, (.int .i64), a5, .ro⟩, ⟨3, (.int .i64), a6, .own⟩]⟩ : St)
theorem ev118_3 (m : Nat) (k : Kont (List Int)) (a4 : Int) (a5 a6 : List Int) : evC Try.prog G118 loopNil c118_3 (S118_3 a4 a5 a6) (turn Try.prog (0, 0) H118_3 (E118_3 m) k) = E118_3 (m + 1) [.v (.int .i64 a4), .row (.int .i64) a5, .row (.int .i64) a6] k := by kernel_rfl
theorem ok118_3 (m : Nat) : LoopOk Try.prog (0, 0) c118_3 (enter Try.prog (0, 0) H118_3 (E118_3 m)) := by
  refine loop_ok (G := G118) (L := loopNil) envNil_good (by intro x hx; simp [show loopsOf c118_3 = [] from by kernel_rfl] at hx) (fun ps k => by unfold E118_3; split <;> rfl) (fun m ps k r h => ?_) m
  have h0 := h
  unfold E118_3 at h
  split at h
  · exact ⟨S118_3 _ _ _, by kernel_rfl, (ev118_3 m k _ _ _).trans h0⟩
  · cases h
noncomputable def L118 : LEnv (List Int) := (loopCons 3 (enter Try.prog (0, 0) H118_3 (E118_3 fu)) loopNil)
theorem lq118 : loopsOf c118 = [c118_3] := by kernel_rfl
theorem fr118_3 : firstReg c118_3 = some 3 := by kernel_rfl
theorem le118_3 : L118 3 = enter Try.prog (0, 0) H118_3 (E118_3 fu) := by kernel_rfl
theorem lm118 : ∀ x ∈ [c118_3], ∀ id, firstReg x = some id → LoopOk Try.prog (0, 0) x (L118 id) := (loops_cons fr118_3 le118_3 (ok118_3 fu) loops_nil)
theorem lp118 : ∀ x ∈ loopsOf c118, ∀ id, firstReg x = some id → LoopOk Try.prog (0, 0) x (L118 id) := loops_eq lq118 lm118
noncomputable def R118 (x : List Int) : Res := ⟨[.one (.sl 0)], [], [⟨3, (.int .i64), x, .own⟩]⟩
noncomputable def K118 (r : Res) : Option (List Int) :=
  match r with
  | ⟨[.one (.sl 0)], [], [⟨3, (.int .i64), v1, .own⟩]⟩ => some (v1)
  | _ => none
noncomputable def E118 : Fun2 := fun args bs rs =>
  match args, bs, rs with
  | [.s1 (.one (.sl 0))], [], [⟨3, (.int .i64), a1, .ro⟩] => some ⟨List Int, L.toIntS a1, R118⟩
  | _, _, _ => none
theorem ev118 (a1 : List Int) : evF Try.prog G118 L118 (0, 0) [] Try.f118 c118 [vl 0] [] [⟨3, (.int .i64), a1, .ro⟩] K118 = L.toIntS a1 := by kernel_rfl
theorem good118 : Vm.Good Try.prog 118 E118 := by
  refine evF_good (G := G118) (c := c118) envNil_good Try.func118 (by kernel_rfl) (by kernel_rfl) (0, 0) (fun args bs rs out t h h2 => ?_)
  unfold E118 at h
  split at h
  · injection h with h
    subst h
    exact ⟨rfl, [], L118, K118, lp118, (fun r t h => by unfold K118 at h; split at h; (injection h with h; subst h; rfl); cases h), (ev118 _).trans h2⟩
  · cases h
/-! ### L.toPane -/
noncomputable def G44 : Env := (envCons 118 [] E118 envNil)
noncomputable def c44 : Code := bodyOf Try.f44
noncomputable def L.toPane (a1 a2 a3 a4 a5 a6 : Int) (a7 : Bool) (a8 : List Int) : Option (Int × Int × Int × Int × Int × Int × Bool × List Int) :=
(Option.bind (L.toIntS a8) fun r9 =>
(some (a1, a2, a3, a4, a5, a6, a7, r9)))
noncomputable def R44 (x : Int × Int × Int × Int × Int × Int × Bool × List Int) : Res := ⟨[.agg [ai x.1, ai x.2.1, ai x.2.2.1, ai x.2.2.2.1, ai x.2.2.2.2.1, ai x.2.2.2.2.2.1, .sl 0, ab x.2.2.2.2.2.2.1]], [], [⟨3, (.int .i64), x.2.2.2.2.2.2.2, .own⟩]⟩
noncomputable def K44 (r : Res) : Option (Int × Int × Int × Int × Int × Int × Bool × List Int) :=
  match r with
  | ⟨[.agg [.val (.int .i64 v1), .val (.int .i64 v2), .val (.int .i64 v3), .val (.int .i64 v4), .val (.int .i64 v5), .val (.int .i64 v6), .sl 0, .val (.bool v7)]], [], [⟨3, (.int .i64), v8, .own⟩]⟩ => some (v1, v2, v3, v4, v5, v6, v7, v8)
  | _ => none
noncomputable def E44 : Fun2 := fun args bs rs =>
  match args, bs, rs with
  | [.s1 (.agg [.val (.int .i64 a1), .val (.int .i64 a2), .val (.int .i64 a3), .val (.int .i64 a4), .val (.int .i64 a5), .val (.int .i64 a6), .sl 0, .val (.bool a7)])], [], [⟨3, (.int .i64), a8, .ro⟩] => some ⟨Int × Int × Int × Int × Int × Int × Bool × List Int, L.toPane a1 a2 a3 a4 a5 a6 a7 a8, R44⟩
  | _, _, _ => none
theorem ev44 (a1 a2 a3 a4 a5 a6 : Int) (a7 : Bool) (a8 : List Int) : evF Try.prog G44 loopNil (0, 0) [] Try.f44 c44 [.s1 (.agg [ai a1, ai a2, ai a3, ai a4, ai a5, ai a6, .sl 0, ab a7])] [] [⟨3, (.int .i64), a8, .ro⟩] K44 = L.toPane a1 a2 a3 a4 a5 a6 a7 a8 := by kernel_rfl
theorem good44 : Vm.Good Try.prog 44 E44 := by
  refine evF_good (G := G44) (c := c44) (envCons_good good118 envNil_good) Try.func44 (by kernel_rfl) (by kernel_rfl) (0, 0) (fun args bs rs out t h h2 => ?_)
  unfold E44 at h
  split at h
  · injection h with h
    subst h
    exact ⟨rfl, [], loopNil, K44, (by intro x hx; simp [show loopsOf c44 = [] from by kernel_rfl] at hx), (fun r t h => by unfold K44 at h; split at h; (injection h with h; subst h; rfl); cases h), (ev44 _ _ _ _ _ _ _ _).trans h2⟩
  · cases h
/-! ### L.toPaneS -/
noncomputable def G33 : Env := (envCons 44 [] E44 envNil)
noncomputable def c33 : Code := bodyOf Try.f33
noncomputable def c33_3 : Code := (loopsOf c33).getD 0 .skip
noncomputable def L.toPaneS_l0 : Nat → ((List (Int × Int × Int × Int × Int × Int × List Int × Bool)) → Option ((List (Int × Int × Int × Int × Int × Int × List Int × Bool)))) → Int → (List (Int × Int × Int × Int × Int × Int × List Int × Bool)) → (List (Int × Int × Int × Int × Int × Int × List Int × Bool)) → Option ((List (Int × Int × Int × Int × Int × Int × List Int × Bool)))
  | 0, _, _, _, _ => none
  | m + 1, e3_0, a4, a5, a6 =>
    (bif (decide (a4 < (a5.length : Int))) then
    (bif decide ((0 : Int) ≤ a4 ∧ a4 < (a5.length : Int)) then
    (Option.bind (L.toPane ((nthI a5 a4 ((0 : Int), ((0 : Int), ((0 : Int), ((0 : Int), ((0 : Int), ((0 : Int), ([], false)))))))).1) ((nthI a5 a4 ((0 : Int), ((0 : Int), ((0 : Int), ((0 : Int), ((0 : Int), ((0 : Int), ([], false)))))))).2.1) ((nthI a5 a4 ((0 : Int), ((0 : Int), ((0 : Int), ((0 : Int), ((0 : Int), ((0 : Int), ([], false)))))))).2.2.1) ((nthI a5 a4 ((0 : Int), ((0 : Int), ((0 : Int), ((0 : Int), ((0 : Int), ((0 : Int), ([], false)))))))).2.2.2.1) ((nthI a5 a4 ((0 : Int), ((0 : Int), ((0 : Int), ((0 : Int), ((0 : Int), ((0 : Int), ([], false)))))))).2.2.2.2.1) ((nthI a5 a4 ((0 : Int), ((0 : Int), ((0 : Int), ((0 : Int), ((0 : Int), ((0 : Int), ([], false)))))))).2.2.2.2.2.1) ((nthI a5 a4 ((0 : Int), ((0 : Int), ((0 : Int), ((0 : Int), ((0 : Int), ((0 : Int), ([], false)))))))).2.2.2.2.2.2.2) ((nthI a5 a4 ((0 : Int), ((0 : Int), ((0 : Int), ((0 : Int), ((0 : Int), ((0 : Int), ([], false)))))))).2.2.2.2.2.2.1)) fun r9 =>
    (bif decide ((0 : Int) ≤ a4 ∧ a4 < (a6.length : Int)) then
    (let v10 : List (Int × Int × Int × Int × Int × Int × List Int × Bool) := (a6.set (Int.toNat a4) (r9.1, (r9.2.1, (r9.2.2.1, (r9.2.2.2.1, (r9.2.2.2.2.1, (r9.2.2.2.2.2.1, (r9.2.2.2.2.2.2.2, r9.2.2.2.2.2.2.1))))))))
    (L.toPaneS_l0 m e3_0 (IntKind.wrap .i64 (a4 + 1)) a5 v10))
    else
    none))
    else
    none)
    else
    (e3_0 a6))
noncomputable def L.toPaneS (a1 : List (Int × Int × Int × Int × Int × Int × List Int × Bool)) : Option ((List (Int × Int × Int × Int × Int × Int × List Int × Bool))) :=
(let v2 : Int := (a1.length : Int)
(bif decide ((0 : Int) ≤ v2 ∧ v2 ≤ v2 ∧ (80 : Int) * v2 ≤ 281474976710656 ∧ v2 ≤ 9223372036854775807) then
(let v3 : List (Int × Int × Int × Int × Int × Int × List Int × Bool) := (List.replicate (Int.toNat v2) (0, (0, (0, (0, (0, (0, ([], false))))))))
(L.toPaneS_l0 fu (fun y12 =>
(some y12)) 0 a1 v3))
else
none))
noncomputable def H33_3 : LoopH := ⟨⟨((.one (.sl 0)) :: (hu 2 ((.one (.sl 1)) :: hh :: (hu 18 [])))), [], [(64, (.pair (.int .i64) (.pair (.int .i64) (.pair (.int .i64) (.pair (.int .i64) (.pair (.int .i64) (.pair (.int .i64) (.pair (.sl 3 (.int .i64)) .bool))))))), .ro), (68, (.pair (.int .i64) (.pair (.int .i64) (.pair (.int .i64) (.pair (.int .i64) (.pair (.int .i64) (.pair (.int .i64) (.pair (.sl 3 (.int .i64)) .bool))))))), .own)]⟩, [1, 2, 5, 6, 7, 8, 9, 10, 11, 12, 13, 14, 15, 16, 17, 18, 19, 20, 21, 22], [], [0, 1, 4, 5, 6, 7, 8, 9, 10, 11, 12, 13, 14, 15, 16, 17, 18, 19, 20, 21, 22]⟩
noncomputable def E33_3 (m : Nat) (ps : List Prm) (k : Kont ((List (Int × Int × Int × Int × Int × Int × List Int × Bool)))) : Option ((List (Int × Int × Int × Int × Int × Int × List Int × Bool))) :=
  match ps with
  | [.v (.int .i64 a4), .row (.pair (.int .i64) (.pair (.int .i64) (.pair (.int .i64) (.pair (.int .i64) (.pair (.int .i64) (.pair (.int .i64) (.pair (.sl 3 (.int .i64)) .bool))))))) a5, .row (.pair (.int .i64) (.pair (.int .i64) (.pair (.int .i64) (.pair (.int .i64) (.pair (.int .i64) (.pair (.int .i64) (.pair (.sl 3 (.int .i64)) .bool))))))) a6] => L.toPaneS_l0 m (fun z14 => k (.exit 0) (⟨(vu 3 ((vl 0) :: (vu 19 []))), [], [⟨68, (.pair (.int .i64) (.pair (.int .i64) (.pair (.int .i64) (.pair (.int .i64) (.pair (.int .i64) (.pair (.int .i64) (.pair (.sl 3 (.int .i64)) .bool))))))), z14, .own⟩]⟩ : St)) a4 a5 a6
  | _ => none
noncomputable def S33_3 (a4 : Int) (a5 a6 : List (Int × Int × Int × Int × Int × Int × List Int × Bool)) : St := (⟨((vl 0) :: (vu 2 ((vl 1) :: (vi a4) :: (vu 18 [])))), [], [⟨64, (.pair (.int .i64) (.pair (.int .i64) (.pair (.int .i64) (.pair (.int .i64) (.pair (.int .i64) (.pair (.int .i64) (.pair (.sl 3 (.int .i64)) .bool))))))), a5, .ro⟩, ⟨68, (.pair (.int .i64) (.pair (.int .i64) (.pair (.int .i64) (.pair (.int .i64) (.pair (.int .i64) (.pair (.int .i64) (.pair (.sl 3 (.int .i64)) .bool))))))), a6, .own⟩]⟩ : St)
theorem ev33_3 (m : Nat) (k : Kont ((List (Int × Int × Int × Int × Int × Int × List Int × Bool)))) (a4 : Int) (a5 a6 : List (Int × Int × Int × Int × Int × Int × List Int × Bool)) : evC Try.prog G33 loopNil c33_3 (S33_3 a4 a5 a6) (turn Try.prog (0, 0) H33_3 (E33_3 m) k) = E33_3 (m + 1) [.v (.int .i64 a4), .row (.pair (.int .i64) (.pair (.int .i64) (.pair (.int .i64) (.pair (.int .i64) (.pair (.int .i64) (.pair (.int .i64) (.pair (.sl 3 (.int .i64)) .bool))))))) a5, .row (.pair (.int .i64) (.pair (.int .i64) (.pair (.int .i64) (.pair (.int .i64) (.pair (.int .i64) (.pair (.int .i64) (.pair (.sl 3 (.int .i64)) .bool))))))) a6] k := by kernel_rfl
theorem ok33_3 (m : Nat) : LoopOk Try.prog (0, 0) c33_3 (enter Try.prog (0, 0) H33_3 (E33_3 m)) := by
  refine loop_ok (G := G33) (L := loopNil) (envCons_good good44 envNil_good) (by intro x hx; simp [show loopsOf c33_3 = [] from by kernel_rfl] at hx) (fun ps k => by unfold E33_3; split <;> rfl) (fun m ps k r h => ?_) m
  have h0 := h
  unfold E33_3 at h
  split at h
  · exact ⟨S33_3 _ _ _, by kernel_rfl, (ev33_3 m k _ _ _).trans h0⟩
  · cases h
noncomputable def L33 : LEnv ((List (Int × Int × Int × Int × Int × Int × List Int × Bool))) := (loopCons 3 (enter Try.prog (0, 0) H33_3 (E33_3 fu)) loopNil)
theorem lq33 : loopsOf c33 = [c33_3] := by kernel_rfl
theorem fr33_3 : firstReg c33_3 = some 3 := by kernel_rfl
theorem le33_3 : L33 3 = enter Try.prog (0, 0) H33_3 (E33_3 fu) := by kernel_rfl
theorem lm33 : ∀ x ∈ [c33_3], ∀ id, firstReg x = some id → LoopOk Try.prog (0, 0) x (L33 id) := (loops_cons fr33_3 le33_3 (ok33_3 fu) loops_nil)
theorem lp33 : ∀ x ∈ loopsOf c33, ∀ id, firstReg x = some id → LoopOk Try.prog (0, 0) x (L33 id) := loops_eq lq33 lm33
noncomputable def R33 (x : (List (Int × Int × Int × Int × Int × Int × List Int × Bool))) : Res := ⟨[.one (.sl 0)], [], [⟨68, (.pair (.int .i64) (.pair (.int .i64) (.pair (.int .i64) (.pair (.int .i64) (.pair (.int .i64) (.pair (.int .i64) (.pair (.sl 3 (.int .i64)) .bool))))))), x, .own⟩]⟩
noncomputable def K33 (r : Res) : Option ((List (Int × Int × Int × Int × Int × Int × List Int × Bool))) :=
  match r with
  | ⟨[.one (.sl 0)], [], [⟨68, (.pair (.int .i64) (.pair (.int .i64) (.pair (.int .i64) (.pair (.int .i64) (.pair (.int .i64) (.pair (.int .i64) (.pair (.sl 3 (.int .i64)) .bool))))))), v1, .own⟩]⟩ => some (v1)
  | _ => none
noncomputable def E33 : Fun2 := fun args bs rs =>
  match args, bs, rs with
  | [.s1 (.one (.sl 0))], [], [⟨64, (.pair (.int .i64) (.pair (.int .i64) (.pair (.int .i64) (.pair (.int .i64) (.pair (.int .i64) (.pair (.int .i64) (.pair (.sl 3 (.int .i64)) .bool))))))), a1, .ro⟩] => some ⟨(List (Int × Int × Int × Int × Int × Int × List Int × Bool)), L.toPaneS a1, R33⟩
  | _, _, _ => none
theorem ev33 (a1 : List (Int × Int × Int × Int × Int × Int × List Int × Bool)) : evF Try.prog G33 L33 (0, 0) [] Try.f33 c33 [vl 0] [] [⟨64, (.pair (.int .i64) (.pair (.int .i64) (.pair (.int .i64) (.pair (.int .i64) (.pair (.int .i64) (.pair (.int .i64) (.pair (.sl 3 (.int .i64)) .bool))))))), a1, .ro⟩] K33 = L.toPaneS a1 := by kernel_rfl
theorem good33 : Vm.Good Try.prog 33 E33 := by
  refine evF_good (G := G33) (c := c33) (envCons_good good44 envNil_good) Try.func33 (by kernel_rfl) (by kernel_rfl) (0, 0) (fun args bs rs out t h h2 => ?_)
  unfold E33 at h
  split at h
  · injection h with h
    subst h
    exact ⟨rfl, [], L33, K33, lp33, (fun r t h => by unfold K33 at h; split at h; (injection h with h; subst h; rfl); cases h), (ev33 _).trans h2⟩
  · cases h
/-! ### S.l01Bit -/
noncomputable def G181 : Env := envNil
noncomputable def c181 : Code := bodyOf Try.f181
noncomputable def S.l01Bit (a1 a2 : Int) : Option Bool :=
(let v3 : Int := (IntKind.wrap .u64 a2)
(bif decide ((0 : Int) ≤ v3) then
(some ((Go.bits .and .u64 (Int.fdiv a1 (2 ^ min (Int.toNat v3) (IntKind.bits .u64))) 1) == 1))
else
none))
noncomputable def R181 (x : Bool) : Res := ⟨[.one (ab x)], [], []⟩
noncomputable def K181 (r : Res) : Option Bool :=
  match r with
  | ⟨[.one (.val (.bool v1))], [], []⟩ => some (v1)
  | _ => none
noncomputable def E181 : Fun2 := fun args bs rs =>
  match args, bs, rs with
  | [.s1 (.one (.val (.int .u64 a1))), .s1 (.one (.val (.int .i64 a2)))], [], [] => some ⟨Bool, S.l01Bit a1 a2, R181⟩
  | _, _, _ => none
theorem ev181 (a1 a2 : Int) : evF Try.prog G181 loopNil (0, 0) [] Try.f181 c181 [vk .u64 a1, vi a2] [] [] K181 = S.l01Bit a1 a2 := by kernel_rfl
theorem good181 : Vm.Good Try.prog 181 E181 := by
  refine evF_good (G := G181) (c := c181) envNil_good Try.func181 (by kernel_rfl) (by kernel_rfl) (0, 0) (fun args bs rs out t h h2 => ?_)
  unfold E181 at h
  split at h
  · injection h with h
    subst h
    exact ⟨rfl, [], loopNil, K181, (by intro x hx; simp [show loopsOf c181 = [] from by kernel_rfl] at hx), (fun r t h => by unfold K181 at h; split at h; (injection h with h; subst h; rfl); cases h), (ev181 _ _).trans h2⟩
  · cases h
/-! ### S.l01Power -/
noncomputable def G182 : Env := envNil
noncomputable def c182 : Code := bodyOf Try.f182
noncomputable def c182_2 : Code := (loopsOf c182).getD 0 .skip
noncomputable def S.l01Power_l0 : Nat → (Int → Option Int) → Int → Int → Option Int
  | 0, _, _, _ => none
  | m + 1, e2_0, a2, a3 =>
    (bif (decide (0 < a2)) then
    (S.l01Power_l0 m e2_0 (IntKind.wrap .i64 (a2 - 1)) (IntKind.wrap .u64 (2 * a3)))
    else
    (e2_0 a3))
noncomputable def S.l01Power (a1 : Int) : Option Int :=
(S.l01Power_l0 fu (fun y7 =>
(some y7)) a1 1)
noncomputable def H182_2 : LoopH := ⟨⟨(hh :: (hu 2 (hh :: (hu 7 [])))), [], []⟩, [1, 2, 4, 5, 6, 7, 8, 9, 10], [], [0, 1, 4, 5, 6, 7, 8, 9, 10]⟩
noncomputable def E182_2 (m : Nat) (ps : List Prm) (k : Kont Int) : Option Int :=
  match ps with
  | [.v (.int .i64 a2), .v (.int .u64 a3)] => S.l01Power_l0 m (fun z9 => k (.exit 0) (⟨(vu 3 ((vk .u64 z9) :: (vu 7 []))), [], []⟩ : St)) a2 a3
  | _ => none
noncomputable def S182_2 (a2 a3 : Int) : St := (⟨((vi a2) :: (vu 2 ((vk .u64 a3) :: (vu 7 [])))), [], []⟩ : St)
theorem ev182_2 (m : Nat) (k : Kont Int) (a2 a3 : Int) : evC Try.prog G182 loopNil c182_2 (S182_2 a2 a3) (turn Try.prog (0, 0) H182_2 (E182_2 m) k) = E182_2 (m + 1) [.v (.int .i64 a2), .v (.int .u64 a3)] k := by kernel_rfl
theorem ok182_2 (m : Nat) : LoopOk Try.prog (0, 0) c182_2 (enter Try.prog (0, 0) H182_2 (E182_2 m)) := by
  refine loop_ok (G := G182) (L := loopNil) envNil_good (by intro x hx; simp [show loopsOf c182_2 = [] from by kernel_rfl] at hx) (fun ps k => by unfold E182_2; split <;> rfl) (fun m ps k r h => ?_) m
  have h0 := h
  unfold E182_2 at h
  split at h
  · exact ⟨S182_2 _ _, by kernel_rfl, (ev182_2 m k _ _).trans h0⟩
  · cases h
noncomputable def L182 : LEnv Int := (loopCons 2 (enter Try.prog (0, 0) H182_2 (E182_2 fu)) loopNil)
theorem lq182 : loopsOf c182 = [c182_2] := by kernel_rfl
theorem fr182_2 : firstReg c182_2 = some 2 := by kernel_rfl
theorem le182_2 : L182 2 = enter Try.prog (0, 0) H182_2 (E182_2 fu) := by kernel_rfl
theorem lm182 : ∀ x ∈ [c182_2], ∀ id, firstReg x = some id → LoopOk Try.prog (0, 0) x (L182 id) := (loops_cons fr182_2 le182_2 (ok182_2 fu) loops_nil)
theorem lp182 : ∀ x ∈ loopsOf c182, ∀ id, firstReg x = some id → LoopOk Try.prog (0, 0) x (L182 id) := loops_eq lq182 lm182
noncomputable def R182 (x : Int) : Res := ⟨[.one (ak .u64 x)], [], []⟩
noncomputable def K182 (r : Res) : Option Int :=
  match r with
  | ⟨[.one (.val (.int .u64 v1))], [], []⟩ => some (v1)
  | _ => none
noncomputable def E182 : Fun2 := fun args bs rs =>
  match args, bs, rs with
  | [.s1 (.one (.val (.int .i64 a1)))], [], [] => some ⟨Int, S.l01Power a1, R182⟩
  | _, _, _ => none
theorem ev182 (a1 : Int) : evF Try.prog G182 L182 (0, 0) [] Try.f182 c182 [vi a1] [] [] K182 = S.l01Power a1 := by kernel_rfl
theorem good182 : Vm.Good Try.prog 182 E182 := by
  refine evF_good (G := G182) (c := c182) envNil_good Try.func182 (by kernel_rfl) (by kernel_rfl) (0, 0) (fun args bs rs out t h h2 => ?_)
  unfold E182 at h
  split at h
  · injection h with h
    subst h
    exact ⟨rfl, [], L182, K182, lp182, (fun r t h => by unfold K182 at h; split at h; (injection h with h; subst h; rfl); cases h), (ev182 _).trans h2⟩
  · cases h
/-! ### S.l01Side -/
noncomputable def G183 : Env := (envCons 181 [] E181 envNil)
noncomputable def c183 : Code := bodyOf Try.f183
noncomputable def S.l01Side (a1 a2 a3 : Int) (a4 : Bool) (a5 : List Int) : Option Bool :=
(bif a4 then
(bif decide ((0 : Int) ≤ a2 ∧ a2 < (a5.length : Int)) then
(Option.bind (S.l01Bit (nthI a5 a2 (0 : Int)) a3) fun r6 =>
(some r6))
else
none)
else
(bif decide ((0 : Int) ≤ a3 ∧ a3 < (a5.length : Int)) then
(Option.bind (S.l01Bit (nthI a5 a3 (0 : Int)) a2) fun r7 =>
(some r7))
else
none))
noncomputable def R183 (x : Bool) : Res := ⟨[.one (ab x)], [], []⟩
noncomputable def K183 (r : Res) : Option Bool :=
  match r with
  | ⟨[.one (.val (.bool v1))], [], []⟩ => some (v1)
  | _ => none
noncomputable def E183 : Fun2 := fun args bs rs =>
  match args, bs, rs with
  | [.s1 (.agg [.val (.int .i64 a1), .sl 0]), .s1 (.one (.val (.int .i64 a2))), .s1 (.one (.val (.int .i64 a3))), .s1 (.one (.val (.bool a4)))], [], [⟨117, (.int .u64), a5, .ro⟩] => some ⟨Bool, S.l01Side a1 a2 a3 a4 a5, R183⟩
  | _, _, _ => none
theorem ev183 (a1 a2 a3 : Int) (a4 : Bool) (a5 : List Int) : evF Try.prog G183 loopNil (0, 0) [] Try.f183 c183 [.s1 (.agg [ai a1, .sl 0]), vi a2, vi a3, vb a4] [] [⟨117, (.int .u64), a5, .ro⟩] K183 = S.l01Side a1 a2 a3 a4 a5 := by kernel_rfl
theorem good183 : Vm.Good Try.prog 183 E183 := by
  refine evF_good (G := G183) (c := c183) (envCons_good good181 envNil_good) Try.func183 (by kernel_rfl) (by kernel_rfl) (0, 0) (fun args bs rs out t h h2 => ?_)
  unfold E183 at h
  split at h
  · injection h with h
    subst h
    exact ⟨rfl, [], loopNil, K183, (by intro x hx; simp [show loopsOf c183 = [] from by kernel_rfl] at hx), (fun r t h => by unfold K183 at h; split at h; (injection h with h; subst h; rfl); cases h), (ev183 _ _ _ _ _).trans h2⟩
  · cases h
/-! ### S.l01Bound -/
noncomputable def G105 : Env := (envCons 183 [] E183 envNil)
noncomputable def c105 : Code := bodyOf Try.f105
noncomputable def c105_2 : Code := (loopsOf c105).getD 0 .skip
noncomputable def c105_6 : Code := (loopsOf c105_2).getD 0 .skip
noncomputable def S.l01Bound_l1 : Nat → (Int → Int → Bool → Int → Bool → Int → List Int → Option Int) → Int → Int → Bool → Int → Bool → Int → Int → List Int → Option Int
  | 0, _, _, _, _, _, _, _, _, _ => none
  | m + 1, e6_0, a15, a16, a17, a18, a19, a20, a21, a22 =>
    (bif (decide (a20 < a21)) then
    (bif a19 then
    (Option.bind (S.l01Side a21 a15 a20 a17 a22) fun r24 =>
    (bif r24 then
    (Option.bind (S.l01Side a21 a16 a20 a17 a22) fun r25 =>
    (bif r25 then
    (Option.bind (S.l01Side a21 a18 a20 a17 a22) fun r26 =>
    (bif (!r26) then
    (S.l01Bound_l1 m e6_0 a15 a16 a17 a18 false (IntKind.wrap .i64 (a20 + 1)) a21 a22)
    else
    (S.l01Bound_l1 m e6_0 a15 a16 a17 a18 a19 (IntKind.wrap .i64 (a20 + 1)) a21 a22)))
    else
    (S.l01Bound_l1 m e6_0 a15 a16 a17 a18 a19 (IntKind.wrap .i64 (a20 + 1)) a21 a22)))
    else
    (S.l01Bound_l1 m e6_0 a15 a16 a17 a18 a19 (IntKind.wrap .i64 (a20 + 1)) a21 a22)))
    else
    (e6_0 a15 a16 a17 a18 a19 a21 a22))
    else
    (e6_0 a15 a16 a17 a18 a19 a21 a22))
noncomputable def S.l01Bound_l0 : Nat → (Int → Option Int) → (Option Int) → Int → Int → Bool → Int → Int → List Int → Option Int
  | 0, _, _, _, _, _, _, _, _ => none
  | m + 1, e2_0, e2_1, a6, a7, a8, a9, a10, a11 =>
    (bif (decide (a9 < a10)) then
    (Option.bind (S.l01Side a10 a6 a9 a8 a11) fun r13 =>
    (bif r13 then
    (Option.bind (S.l01Side a10 a7 a9 a8 a11) fun r14 =>
    (S.l01Bound_l1 fu (fun y31 y32 y33 y34 y35 y36 y37 =>
    (bif y35 then
    (e2_0 y34)
    else
    (S.l01Bound_l0 m e2_0 e2_1 y31 y32 y33 (IntKind.wrap .i64 (y34 + 1)) y36 y37))) a6 a7 a8 a9 r14 0 a10 a11))
    else
    (S.l01Bound_l1 fu (fun y39 y40 y41 y42 y43 y44 y45 =>
    (bif y43 then
    (e2_0 y42)
    else
    (S.l01Bound_l0 m e2_0 e2_1 y39 y40 y41 (IntKind.wrap .i64 (y42 + 1)) y44 y45))) a6 a7 a8 a9 false 0 a10 a11)))
    else
    e2_1)
noncomputable def S.l01Bound (a1 a2 a3 : Int) (a4 : Bool) (a5 : List Int) : Option Int :=
(S.l01Bound_l0 fu (fun y47 =>
(some y47)) (some (-1)) a2 a3 a4 0 a1 a5)
noncomputable def H105_6 : LoopH := ⟨⟨((.one (.unk)) :: hh :: hh :: hh :: (.one (.ptr 0 0)) :: (hu 4 (hh :: hh :: hh :: (hu 49 [])))), [(51, [.hole, .sl 0])], [(117, (.int .u64), .ro)]⟩, [0, 5, 6, 7, 8, 12, 13, 14, 15, 16, 17, 18, 19, 20, 21, 22, 23, 24, 25, 26, 27, 28, 29, 30, 31, 32, 33, 34, 35, 36, 37, 38, 39, 40, 41, 42, 43, 44, 45, 46, 47, 48, 49, 50, 51, 52, 53, 54, 55, 56, 57, 58, 59, 60], [], [0, 5, 6, 7, 11, 12, 13, 14, 15, 16, 17, 18, 19, 20, 21, 22, 23, 24, 25, 26, 27, 28, 29, 30, 31, 32, 33, 34, 35, 36, 37, 38, 39, 40, 41, 42, 43, 44, 45, 46, 47, 48, 49, 50, 51, 52, 53, 54, 55, 56, 57, 58, 59, 60]⟩
noncomputable def E105_6 (m : Nat) (ps : List Prm) (k : Kont Int) : Option Int :=
  match ps with
  | [.v (.int .i64 a15), .v (.int .i64 a16), .v (.bool a17), .v (.int .i64 a18), .v (.bool a19), .v (.int .i64 a20), .v (.int .i64 a21), .row (.int .u64) a22] => S.l01Bound_l1 m (fun z56 z57 z58 z59 z60 z61 z62 => k (.exit 2) (⟨((.s1 (.one (.unk))) :: (vi z56) :: (vi z57) :: (vb z58) :: (vp 0 0) :: (vu 4 ((vi z59) :: (vb z60) :: (vu 50 [])))), [(51, [ai z61, .sl 0])], [⟨117, (.int .u64), z62, .ro⟩]⟩ : St)) a15 a16 a17 a18 a19 a20 a21 a22
  | _ => none
noncomputable def S105_6 (a15 a16 : Int) (a17 : Bool) (a18 : Int) (a19 : Bool) (a20 a21 : Int) (a22 : List Int) : St := (⟨((.s1 (.one (.unk))) :: (vi a15) :: (vi a16) :: (vb a17) :: (vp 0 0) :: (vu 4 ((vi a18) :: (vb a19) :: (vi a20) :: (vu 49 [])))), [(51, [ai a21, .sl 0])], [⟨117, (.int .u64), a22, .ro⟩]⟩ : St)
theorem ev105_6 (m : Nat) (k : Kont Int) (a15 a16 : Int) (a17 : Bool) (a18 : Int) (a19 : Bool) (a20 a21 : Int) (a22 : List Int) : evC Try.prog G105 loopNil c105_6 (S105_6 a15 a16 a17 a18 a19 a20 a21 a22) (turn Try.prog (0, 0) H105_6 (E105_6 m) k) = E105_6 (m + 1) [.v (.int .i64 a15), .v (.int .i64 a16), .v (.bool a17), .v (.int .i64 a18), .v (.bool a19), .v (.int .i64 a20), .v (.int .i64 a21), .row (.int .u64) a22] k := by kernel_rfl
theorem ok105_6 (m : Nat) : LoopOk Try.prog (0, 0) c105_6 (enter Try.prog (0, 0) H105_6 (E105_6 m)) := by
  refine loop_ok (G := G105) (L := loopNil) (envCons_good good183 envNil_good) (by intro x hx; simp [show loopsOf c105_6 = [] from by kernel_rfl] at hx) (fun ps k => by unfold E105_6; split <;> rfl) (fun m ps k r h => ?_) m
  have h0 := h
  unfold E105_6 at h
  split at h
  · exact ⟨S105_6 _ _ _ _ _ _ _ _, by kernel_rfl, (ev105_6 m k _ _ _ _ _ _ _ _).trans h0⟩
  · cases h
noncomputable def L105_2 : LEnv Int := (loopCons 6 (enter Try.prog (0, 0) H105_6 (E105_6 fu)) loopNil)
theorem lq105_2 : loopsOf c105_2 = [c105_6] := by kernel_rfl
theorem fr105_6 : firstReg c105_6 = some 6 := by kernel_rfl
theorem le105_6 : L105_2 6 = enter Try.prog (0, 0) H105_6 (E105_6 fu) := by kernel_rfl
theorem lm105_2 : ∀ x ∈ [c105_6], ∀ id, firstReg x = some id → LoopOk Try.prog (0, 0) x (L105_2 id) := (loops_cons fr105_6 le105_6 (ok105_6 fu) loops_nil)
theorem lp105_2 : ∀ x ∈ loopsOf c105_2, ∀ id, firstReg x = some id → LoopOk Try.prog (0, 0) x (L105_2 id) := loops_eq lq105_2 lm105_2
noncomputable def H105_2 : LoopH := ⟨⟨((.one (.unk)) :: hh :: hh :: hh :: (.one (.ptr 0 0)) :: (hu 4 (hh :: (hu 51 [])))), [(51, [.hole, .sl 0])], [(117, (.int .u64), .ro)]⟩, [0, 5, 6, 7, 8, 10, 11, 12, 13, 14, 15, 16, 17, 18, 19, 20, 21, 22, 23, 24, 25, 26, 27, 28, 29, 30, 31, 32, 33, 34, 35, 36, 37, 38, 39, 40, 41, 42, 43, 44, 45, 46, 47, 48, 49, 50, 51, 52, 53, 54, 55, 56, 57, 58, 59, 60], [], [0, 1, 2, 3, 4, 5, 6, 7, 9, 10, 11, 12, 13, 14, 15, 16, 17, 18, 19, 20, 21, 22, 23, 24, 25, 26, 27, 28, 29, 30, 31, 32, 33, 34, 35, 36, 37, 38, 39, 40, 41, 42, 43, 44, 45, 46, 47, 48, 49, 50, 51, 52, 53, 54, 55, 56, 57, 58, 59, 60]⟩
noncomputable def E105_2 (m : Nat) (ps : List Prm) (k : Kont Int) : Option Int :=
  match ps with
  | [.v (.int .i64 a6), .v (.int .i64 a7), .v (.bool a8), .v (.int .i64 a9), .v (.int .i64 a10), .row (.int .u64) a11] => S.l01Bound_l0 m (fun z63 => k .ret (⟨(vu 8 ((vi z63) :: (vu 52 []))), [], []⟩ : St)) (k (.exit 0) (⟨(vu 61 []), [], []⟩ : St)) a6 a7 a8 a9 a10 a11
  | _ => none
noncomputable def S105_2 (a6 a7 : Int) (a8 : Bool) (a9 a10 : Int) (a11 : List Int) : St := (⟨((.s1 (.one (.unk))) :: (vi a6) :: (vi a7) :: (vb a8) :: (vp 0 0) :: (vu 4 ((vi a9) :: (vu 51 [])))), [(51, [ai a10, .sl 0])], [⟨117, (.int .u64), a11, .ro⟩]⟩ : St)
theorem ev105_2 (m : Nat) (k : Kont Int) (a6 a7 : Int) (a8 : Bool) (a9 a10 : Int) (a11 : List Int) : evC Try.prog G105 L105_2 c105_2 (S105_2 a6 a7 a8 a9 a10 a11) (turn Try.prog (0, 0) H105_2 (E105_2 m) k) = E105_2 (m + 1) [.v (.int .i64 a6), .v (.int .i64 a7), .v (.bool a8), .v (.int .i64 a9), .v (.int .i64 a10), .row (.int .u64) a11] k := by kernel_rfl
theorem ok105_2 (m : Nat) : LoopOk Try.prog (0, 0) c105_2 (enter Try.prog (0, 0) H105_2 (E105_2 m)) := by
  refine loop_ok (G := G105) (L := L105_2) (envCons_good good183 envNil_good) lp105_2 (fun ps k => by unfold E105_2; split <;> rfl) (fun m ps k r h => ?_) m
  have h0 := h
  unfold E105_2 at h
  split at h
  · exact ⟨S105_2 _ _ _ _ _ _, by kernel_rfl, (ev105_2 m k _ _ _ _ _ _).trans h0⟩
  · cases h
noncomputable def L105 : LEnv Int := (loopCons 2 (enter Try.prog (0, 0) H105_2 (E105_2 fu)) loopNil)
theorem lq105 : loopsOf c105 = [c105_2] := by kernel_rfl
theorem fr105_2 : firstReg c105_2 = some 2 := by kernel_rfl
theorem le105_2 : L105 2 = enter Try.prog (0, 0) H105_2 (E105_2 fu) := by kernel_rfl
theorem lm105 : ∀ x ∈ [c105_2], ∀ id, firstReg x = some id → LoopOk Try.prog (0, 0) x (L105 id) := (loops_cons fr105_2 le105_2 (ok105_2 fu) loops_nil)
theorem lp105 : ∀ x ∈ loopsOf c105, ∀ id, firstReg x = some id → LoopOk Try.prog (0, 0) x (L105 id) := loops_eq lq105 lm105
noncomputable def R105 (x : Int) : Res := ⟨[.one (ai x)], [], []⟩
noncomputable def K105 (r : Res) : Option Int :=
  match r with
  | ⟨[.one (.val (.int .i64 v1))], [], []⟩ => some (v1)
  | _ => none
noncomputable def E105 : Fun2 := fun args bs rs =>
  match args, bs, rs with
  | [.s1 (.agg [.val (.int .i64 a1), .sl 0]), .s1 (.one (.val (.int .i64 a2))), .s1 (.one (.val (.int .i64 a3))), .s1 (.one (.val (.bool a4)))], [], [⟨117, (.int .u64), a5, .ro⟩] => some ⟨Int, S.l01Bound a1 a2 a3 a4 a5, R105⟩
  | _, _, _ => none
theorem ev105 (a1 a2 a3 : Int) (a4 : Bool) (a5 : List Int) : evF Try.prog G105 L105 (0, 0) [] Try.f105 c105 [.s1 (.agg [ai a1, .sl 0]), vi a2, vi a3, vb a4] [] [⟨117, (.int .u64), a5, .ro⟩] K105 = S.l01Bound a1 a2 a3 a4 a5 := by kernel_rfl
theorem good105 : Vm.Good Try.prog 105 E105 := by
  refine evF_good (G := G105) (c := c105) (envCons_good good183 envNil_good) Try.func105 (by kernel_rfl) (by kernel_rfl) (0, 0) (fun args bs rs out t h h2 => ?_)
  unfold E105 at h
  split at h
  · injection h with h
    subst h
    exact ⟨rfl, [], L105, K105, lp105, (fun r t h => by unfold K105 at h; split at h; (injection h with h; subst h; rfl); cases h), (ev105 _ _ _ _ _).trans h2⟩
  · cases h
/-! ### S.LatOk -/
noncomputable def G103 : Env := (envCons 181 [] E181 (envCons 182 [] E182 (envCons 105 [] E105 envNil)))
noncomputable def c103 : Code := bodyOf Try.f103
noncomputable def c103_4 : Code := (loopsOf c103).getD 0 .skip
noncomputable def c103_9 : Code := (loopsOf c103_4).getD 0 .skip
noncomputable def c103_14 : Code := (loopsOf c103_9).getD 0 .skip
noncomputable def c103_19 : Code := (loopsOf c103).getD 1 .skip
noncomputable def c103_22 : Code := (loopsOf c103_19).getD 0 .skip
noncomputable def S.LatOk_l2 : Nat → (Bool → Int → Int → Int → List Int → Option Bool) → (Int → Int → Int → List Int → Option Bool) → Int → Int → Int → Int → List Int → Option Bool
  | 0, _, _, _, _, _, _, _ => none
  | m + 1, e14_0, e14_1, a20, a21, a22, a23, a24 =>
    (bif (decide (a22 < a23)) then
    (bif decide ((0 : Int) ≤ a20 ∧ a20 < (a24.length : Int)) then
    (Option.bind (S.l01Bit (nthI a24 a20 (0 : Int)) a21) fun r26 =>
    (bif r26 then
    (bif decide ((0 : Int) ≤ a21 ∧ a21 < (a24.length : Int)) then
    (Option.bind (S.l01Bit (nthI a24 a21 (0 : Int)) a22) fun r27 =>
    (bif r27 then
    (bif decide ((0 : Int) ≤ a20 ∧ a20 < (a24.length : Int)) then
    (Option.bind (S.l01Bit (nthI a24 a20 (0 : Int)) a22) fun r28 =>
    (bif (!r28) then
    (e14_0 false a20 a21 a23 a24)
    else
    (S.LatOk_l2 m e14_0 e14_1 a20 a21 (IntKind.wrap .i64 (a22 + 1)) a23 a24)))
    else
    none)
    else
    (S.LatOk_l2 m e14_0 e14_1 a20 a21 (IntKind.wrap .i64 (a22 + 1)) a23 a24)))
    else
    none)
    else
    (S.LatOk_l2 m e14_0 e14_1 a20 a21 (IntKind.wrap .i64 (a22 + 1)) a23 a24)))
    else
    none)
    else
    (e14_1 a20 a21 a23 a24))
noncomputable def S.LatOk_l1 : Nat → (Bool → Int → Int → List Int → Option Bool) → (Int → Int → List Int → Option Bool) → Int → Int → Int → List Int → Option Bool
  | 0, _, _, _, _, _, _ => none
  | m + 1, e9_0, e9_1, a13, a14, a15, a16 =>
    (bif (decide (a14 < a15)) then
    (bif (a13 != a14) then
    (bif decide ((0 : Int) ≤ a13 ∧ a13 < (a16.length : Int)) then
    (Option.bind (S.l01Bit (nthI a16 a13 (0 : Int)) a14) fun r18 =>
    (bif r18 then
    (bif decide ((0 : Int) ≤ a14 ∧ a14 < (a16.length : Int)) then
    (Option.bind (S.l01Bit (nthI a16 a14 (0 : Int)) a13) fun r19 =>
    (bif r19 then
    (e9_0 false a13 a15 a16)
    else
    (S.LatOk_l2 fu (fun y32 y33 y34 y35 y36 =>
    (e9_0 y32 y33 y35 y36)) (fun y37 y38 y39 y40 =>
    (S.LatOk_l1 m e9_0 e9_1 y37 (IntKind.wrap .i64 (y38 + 1)) y39 y40)) a13 a14 0 a15 a16)))
    else
    none)
    else
    (S.LatOk_l2 fu (fun y42 y43 y44 y45 y46 =>
    (e9_0 y42 y43 y45 y46)) (fun y47 y48 y49 y50 =>
    (S.LatOk_l1 m e9_0 e9_1 y47 (IntKind.wrap .i64 (y48 + 1)) y49 y50)) a13 a14 0 a15 a16)))
    else
    none)
    else
    (S.LatOk_l2 fu (fun y52 y53 y54 y55 y56 =>
    (e9_0 y52 y53 y55 y56)) (fun y57 y58 y59 y60 =>
    (S.LatOk_l1 m e9_0 e9_1 y57 (IntKind.wrap .i64 (y58 + 1)) y59 y60)) a13 a14 0 a15 a16))
    else
    (e9_1 a13 a15 a16))
noncomputable def S.LatOk_l0 : Nat → (Bool → Int → List Int → Option Bool) → (Int → List Int → Option Bool) → Int → Int → List Int → Option Bool
  | 0, _, _, _, _, _ => none
  | m + 1, e4_0, e4_1, a6, a7, a8 =>
    (bif (decide (a6 < a7)) then
    (bif decide ((0 : Int) ≤ a6 ∧ a6 < (a8.length : Int)) then
    (Option.bind (S.l01Bit (nthI a8 a6 (0 : Int)) a6) fun r10 =>
    (bif (!r10) then
    (e4_0 false a7 a8)
    else
    (bif decide ((0 : Int) ≤ a6 ∧ a6 < (a8.length : Int)) then
    (Option.bind (S.l01Power a7) fun r11 =>
    (bif (decide (r11 ≤ (nthI a8 a6 (0 : Int)))) then
    (e4_0 false a7 a8)
    else
    (S.LatOk_l1 fu (fun y62 y63 y64 y65 =>
    (e4_0 y62 y64 y65)) (fun y66 y67 y68 =>
    (S.LatOk_l0 m e4_0 e4_1 (IntKind.wrap .i64 (y66 + 1)) y67 y68)) a6 0 a7 a8)))
    else
    none)))
    else
    none)
    else
    (e4_1 a7 a8))
noncomputable def S.LatOk_l4 : Nat → (Bool → Int → Int → List Int → Option Bool) → (Int → Int → List Int → Option Bool) → Int → Int → Int → List Int → Option Bool
  | 0, _, _, _, _, _, _ => none
  | m + 1, e22_0, e22_1, a79, a80, a81, a82 =>
    (bif (decide (a80 < a79)) then
    (Option.bind (S.l01Bound a81 a79 a80 true a82) fun r84 =>
    (bif (decide (r84 < 0)) then
    (e22_0 false a79 a81 a82)
    else
    (Option.bind (S.l01Bound a81 a79 a80 false a82) fun r86 =>
    (bif (decide (r86 < 0)) then
    (e22_0 false a79 a81 a82)
    else
    (S.LatOk_l4 m e22_0 e22_1 a79 (IntKind.wrap .i64 (a80 + 1)) a81 a82)))))
    else
    (e22_1 a79 a81 a82))
noncomputable def S.LatOk_l3 : Nat → (Bool → Option Bool) → (Option Bool) → Int → Int → List Int → Option Bool
  | 0, _, _, _, _, _ => none
  | m + 1, e19_0, e19_1, a75, a76, a77 =>
    (bif (decide (a75 < a76)) then
    (S.LatOk_l4 fu (fun y89 y90 y91 y92 =>
    (e19_0 y89)) (fun y93 y94 y95 =>
    (S.LatOk_l3 m e19_0 e19_1 (IntKind.wrap .i64 (y93 + 1)) y94 y95)) a75 0 a76 a77)
    else
    e19_1)
noncomputable def S.LatOk (a1 : Int) (a2 : List Int) : Option Bool :=
(bif (decide (a1 < 1)) then
(some false)
else
(bif (decide (16 < a1)) then
(some false)
else
(bif ((a2.length : Int) != a1) then
(some false)
else
(S.LatOk_l0 fu (fun y70 y71 y72 =>
(some y70)) (fun y73 y74 =>
(S.LatOk_l3 fu (fun y97 =>
(some y97)) (some true) 0 y73 y74)) 0 a1 a2))))
noncomputable def H103_14 : LoopH := ⟨⟨((.one (.unk)) :: (.one (.ptr 0 0)) :: (.one (.unk)) :: hh :: hh :: hh :: (hu 125 [])), [(51, [.hole, .sl 0])], [(117, (.int .u64), .ro)]⟩, [0, 2, 6, 7, 8, 9, 10, 11, 12, 13, 14, 15, 16, 17, 18, 19, 20, 21, 22, 23, 24, 25, 26, 27, 28, 29, 30, 31, 32, 33, 34, 35, 36, 37, 38, 39, 40, 41, 42, 43, 44, 45, 46, 47, 48, 49, 50, 51, 52, 53, 54, 55, 56, 57, 58, 59, 60, 61, 62, 63, 64, 65, 66, 67, 68, 69, 70, 71, 72, 73, 74, 75, 76, 77, 78, 79, 80, 81, 82, 83, 84, 85, 86, 87, 88, 89, 90, 91, 92, 93, 94, 95, 96, 97, 98, 99, 100, 101, 102, 103, 104, 105, 106, 107, 108, 109, 110, 111, 112, 113, 114, 115, 116, 117, 118, 119, 120, 121, 122, 123, 124, 125, 126, 127, 128, 129, 130], [], [0, 5, 6, 7, 8, 9, 10, 11, 12, 13, 14, 15, 16, 17, 18, 19, 20, 21, 22, 23, 24, 25, 26, 27, 28, 29, 30, 31, 32, 33, 34, 35, 36, 37, 38, 39, 40, 41, 42, 43, 44, 45, 46, 47, 48, 49, 50, 51, 52, 53, 54, 55, 56, 57, 58, 59, 60, 61, 62, 63, 64, 65, 66, 67, 68, 69, 70, 71, 72, 73, 74, 75, 76, 77, 78, 79, 80, 81, 82, 83, 84, 85, 86, 87, 88, 89, 90, 91, 92, 93, 94, 95, 96, 97, 98, 99, 100, 101, 102, 103, 104, 105, 106, 107, 108, 109, 110, 111, 112, 113, 114, 115, 116, 117, 118, 119, 120, 121, 122, 123, 124, 125, 126, 127, 128, 129, 130]⟩
noncomputable def E103_14 (m : Nat) (ps : List Prm) (k : Kont Bool) : Option Bool :=
  match ps with
  | [.v (.int .i64 a20), .v (.int .i64 a21), .v (.int .i64 a22), .v (.int .i64 a23), .row (.int .u64) a24] => S.LatOk_l2 m (fun z127 z128 z129 z130 z131 => k .ret (⟨((.s1 (.one (.unk))) :: (vp 0 0) :: (vb z127) :: (vi z128) :: (vi z129) :: (vu 126 [])), [(51, [ai z130, .sl 0])], [⟨117, (.int .u64), z131, .ro⟩]⟩ : St)) (fun z132 z133 z134 z135 => k (.exit 4) (⟨((.s1 (.one (.unk))) :: (vp 0 0) :: (.s1 (.one (.unk))) :: (vi z132) :: (vi z133) :: (vu 126 [])), [(51, [ai z134, .sl 0])], [⟨117, (.int .u64), z135, .ro⟩]⟩ : St)) a20 a21 a22 a23 a24
  | _ => none
noncomputable def S103_14 (a20 a21 a22 a23 : Int) (a24 : List Int) : St := (⟨((.s1 (.one (.unk))) :: (vp 0 0) :: (.s1 (.one (.unk))) :: (vi a20) :: (vi a21) :: (vi a22) :: (vu 125 [])), [(51, [ai a23, .sl 0])], [⟨117, (.int .u64), a24, .ro⟩]⟩ : St)
theorem ev103_14 (m : Nat) (k : Kont Bool) (a20 a21 a22 a23 : Int) (a24 : List Int) : evC Try.prog G103 loopNil c103_14 (S103_14 a20 a21 a22 a23 a24) (turn Try.prog (0, 0) H103_14 (E103_14 m) k) = E103_14 (m + 1) [.v (.int .i64 a20), .v (.int .i64 a21), .v (.int .i64 a22), .v (.int .i64 a23), .row (.int .u64) a24] k := by kernel_rfl
theorem ok103_14 (m : Nat) : LoopOk Try.prog (0, 0) c103_14 (enter Try.prog (0, 0) H103_14 (E103_14 m)) := by
  refine loop_ok (G := G103) (L := loopNil) (envCons_good good181 (envCons_good good182 (envCons_good good105 envNil_good))) (by intro x hx; simp [show loopsOf c103_14 = [] from by kernel_rfl] at hx) (fun ps k => by unfold E103_14; split <;> rfl) (fun m ps k r h => ?_) m
  have h0 := h
  unfold E103_14 at h
  split at h
  · exact ⟨S103_14 _ _ _ _ _, by kernel_rfl, (ev103_14 m k _ _ _ _ _).trans h0⟩
  · cases h
noncomputable def L103_9 : LEnv Bool := (loopCons 14 (enter Try.prog (0, 0) H103_14 (E103_14 fu)) loopNil)
theorem lq103_9 : loopsOf c103_9 = [c103_14] := by kernel_rfl
theorem fr103_14 : firstReg c103_14 = some 14 := by kernel_rfl
theorem le103_14 : L103_9 14 = enter Try.prog (0, 0) H103_14 (E103_14 fu) := by kernel_rfl
theorem lm103_9 : ∀ x ∈ [c103_14], ∀ id, firstReg x = some id → LoopOk Try.prog (0, 0) x (L103_9 id) := (loops_cons fr103_14 le103_14 (ok103_14 fu) loops_nil)
theorem lp103_9 : ∀ x ∈ loopsOf c103_9, ∀ id, firstReg x = some id → LoopOk Try.prog (0, 0) x (L103_9 id) := loops_eq lq103_9 lm103_9
noncomputable def H103_9 : LoopH := ⟨⟨((.one (.unk)) :: (.one (.ptr 0 0)) :: (.one (.unk)) :: hh :: hh :: (hu 126 [])), [(51, [.hole, .sl 0])], [(117, (.int .u64), .ro)]⟩, [0, 2, 5, 6, 7, 8, 9, 10, 11, 12, 13, 14, 15, 16, 17, 18, 19, 20, 21, 22, 23, 24, 25, 26, 27, 28, 29, 30, 31, 32, 33, 34, 35, 36, 37, 38, 39, 40, 41, 42, 43, 44, 45, 46, 47, 48, 49, 50, 51, 52, 53, 54, 55, 56, 57, 58, 59, 60, 61, 62, 63, 64, 65, 66, 67, 68, 69, 70, 71, 72, 73, 74, 75, 76, 77, 78, 79, 80, 81, 82, 83, 84, 85, 86, 87, 88, 89, 90, 91, 92, 93, 94, 95, 96, 97, 98, 99, 100, 101, 102, 103, 104, 105, 106, 107, 108, 109, 110, 111, 112, 113, 114, 115, 116, 117, 118, 119, 120, 121, 122, 123, 124, 125, 126, 127, 128, 129, 130], [], [0, 4, 5, 6, 7, 8, 9, 10, 11, 12, 13, 14, 15, 16, 17, 18, 19, 20, 21, 22, 23, 24, 25, 26, 27, 28, 29, 30, 31, 32, 33, 34, 35, 36, 37, 38, 39, 40, 41, 42, 43, 44, 45, 46, 47, 48, 49, 50, 51, 52, 53, 54, 55, 56, 57, 58, 59, 60, 61, 62, 63, 64, 65, 66, 67, 68, 69, 70, 71, 72, 73, 74, 75, 76, 77, 78, 79, 80, 81, 82, 83, 84, 85, 86, 87, 88, 89, 90, 91, 92, 93, 94, 95, 96, 97, 98, 99, 100, 101, 102, 103, 104, 105, 106, 107, 108, 109, 110, 111, 112, 113, 114, 115, 116, 117, 118, 119, 120, 121, 122, 123, 124, 125, 126, 127, 128, 129, 130]⟩
noncomputable def E103_9 (m : Nat) (ps : List Prm) (k : Kont Bool) : Option Bool :=
  match ps with
  | [.v (.int .i64 a13), .v (.int .i64 a14), .v (.int .i64 a15), .row (.int .u64) a16] => S.LatOk_l1 m (fun z136 z137 z138 z139 => k .ret (⟨((.s1 (.one (.unk))) :: (vp 0 0) :: (vb z136) :: (vi z137) :: (vu 127 [])), [(51, [ai z138, .sl 0])], [⟨117, (.int .u64), z139, .ro⟩]⟩ : St)) (fun z140 z141 z142 => k (.exit 2) (⟨((.s1 (.one (.unk))) :: (vp 0 0) :: (.s1 (.one (.unk))) :: (vi z140) :: (vu 127 [])), [(51, [ai z141, .sl 0])], [⟨117, (.int .u64), z142, .ro⟩]⟩ : St)) a13 a14 a15 a16
  | _ => none
noncomputable def S103_9 (a13 a14 a15 : Int) (a16 : List Int) : St := (⟨((.s1 (.one (.unk))) :: (vp 0 0) :: (.s1 (.one (.unk))) :: (vi a13) :: (vi a14) :: (vu 126 [])), [(51, [ai a15, .sl 0])], [⟨117, (.int .u64), a16, .ro⟩]⟩ : St)
theorem ev103_9 (m : Nat) (k : Kont Bool) (a13 a14 a15 : Int) (a16 : List Int) : evC Try.prog G103 L103_9 c103_9 (S103_9 a13 a14 a15 a16) (turn Try.prog (0, 0) H103_9 (E103_9 m) k) = E103_9 (m + 1) [.v (.int .i64 a13), .v (.int .i64 a14), .v (.int .i64 a15), .row (.int .u64) a16] k := by kernel_rfl
theorem ok103_9 (m : Nat) : LoopOk Try.prog (0, 0) c103_9 (enter Try.prog (0, 0) H103_9 (E103_9 m)) := by
  refine loop_ok (G := G103) (L := L103_9) (envCons_good good181 (envCons_good good182 (envCons_good good105 envNil_good))) lp103_9 (fun ps k => by unfold E103_9; split <;> rfl) (fun m ps k r h => ?_) m
  have h0 := h
  unfold E103_9 at h
  split at h
  · exact ⟨S103_9 _ _ _ _, by kernel_rfl, (ev103_9 m k _ _ _ _).trans h0⟩
  · cases h
noncomputable def L103_4 : LEnv Bool := (loopCons 9 (enter Try.prog (0, 0) H103_9 (E103_9 fu)) loopNil)
theorem lq103_4 : loopsOf c103_4 = [c103_9] := by kernel_rfl
theorem fr103_9 : firstReg c103_9 = some 9 := by kernel_rfl
theorem le103_9 : L103_4 9 = enter Try.prog (0, 0) H103_9 (E103_9 fu) := by kernel_rfl
theorem lm103_4 : ∀ x ∈ [c103_9], ∀ id, firstReg x = some id → LoopOk Try.prog (0, 0) x (L103_4 id) := (loops_cons fr103_9 le103_9 (ok103_9 fu) loops_nil)
theorem lp103_4 : ∀ x ∈ loopsOf c103_4, ∀ id, firstReg x = some id → LoopOk Try.prog (0, 0) x (L103_4 id) := loops_eq lq103_4 lm103_4
noncomputable def H103_4 : LoopH := ⟨⟨((.one (.unk)) :: (.one (.ptr 0 0)) :: (.one (.unk)) :: hh :: (hu 127 [])), [(51, [.hole, .sl 0])], [(117, (.int .u64), .ro)]⟩, [0, 2, 4, 5, 6, 7, 8, 9, 10, 11, 12, 13, 14, 15, 16, 17, 18, 19, 20, 21, 22, 23, 24, 25, 26, 27, 28, 29, 30, 31, 32, 33, 34, 35, 36, 37, 38, 39, 40, 41, 42, 43, 44, 45, 46, 47, 48, 49, 50, 51, 52, 53, 54, 55, 56, 57, 58, 59, 60, 61, 62, 63, 64, 65, 66, 67, 68, 69, 70, 71, 72, 73, 74, 75, 76, 77, 78, 79, 80, 81, 82, 83, 84, 85, 86, 87, 88, 89, 90, 91, 92, 93, 94, 95, 96, 97, 98, 99, 100, 101, 102, 103, 104, 105, 106, 107, 108, 109, 110, 111, 112, 113, 114, 115, 116, 117, 118, 119, 120, 121, 122, 123, 124, 125, 126, 127, 128, 129, 130], [], [0, 3, 4, 5, 6, 7, 8, 9, 10, 11, 12, 13, 14, 15, 16, 17, 18, 19, 20, 21, 22, 23, 24, 25, 26, 27, 28, 29, 30, 31, 32, 33, 34, 35, 36, 37, 38, 39, 40, 41, 42, 43, 44, 45, 46, 47, 48, 49, 50, 51, 52, 53, 54, 55, 56, 57, 58, 59, 60, 61, 62, 63, 64, 65, 66, 67, 68, 69, 70, 71, 72, 73, 74, 75, 76, 77, 78, 79, 80, 81, 82, 83, 84, 85, 86, 87, 88, 89, 90, 91, 92, 93, 94, 95, 96, 97, 98, 99, 100, 101, 102, 103, 104, 105, 106, 107, 108, 109, 110, 111, 112, 113, 114, 115, 116, 117, 118, 119, 120, 121, 122, 123, 124, 125, 126, 127, 128, 129, 130]⟩
noncomputable def E103_4 (m : Nat) (ps : List Prm) (k : Kont Bool) : Option Bool :=
  match ps with
  | [.v (.int .i64 a6), .v (.int .i64 a7), .row (.int .u64) a8] => S.LatOk_l0 m (fun z143 z144 z145 => k .ret (⟨((.s1 (.one (.unk))) :: (vp 0 0) :: (vb z143) :: (vu 128 [])), [(51, [ai z144, .sl 0])], [⟨117, (.int .u64), z145, .ro⟩]⟩ : St)) (fun z146 z147 => k (.exit 0) (⟨((.s1 (.one (.unk))) :: (vp 0 0) :: (vu 129 [])), [(51, [ai z146, .sl 0])], [⟨117, (.int .u64), z147, .ro⟩]⟩ : St)) a6 a7 a8
  | _ => none
noncomputable def S103_4 (a6 a7 : Int) (a8 : List Int) : St := (⟨((.s1 (.one (.unk))) :: (vp 0 0) :: (.s1 (.one (.unk))) :: (vi a6) :: (vu 127 [])), [(51, [ai a7, .sl 0])], [⟨117, (.int .u64), a8, .ro⟩]⟩ : St)
theorem ev103_4 (m : Nat) (k : Kont Bool) (a6 a7 : Int) (a8 : List Int) : evC Try.prog G103 L103_4 c103_4 (S103_4 a6 a7 a8) (turn Try.prog (0, 0) H103_4 (E103_4 m) k) = E103_4 (m + 1) [.v (.int .i64 a6), .v (.int .i64 a7), .row (.int .u64) a8] k := by kernel_rfl
theorem ok103_4 (m : Nat) : LoopOk Try.prog (0, 0) c103_4 (enter Try.prog (0, 0) H103_4 (E103_4 m)) := by
  refine loop_ok (G := G103) (L := L103_4) (envCons_good good181 (envCons_good good182 (envCons_good good105 envNil_good))) lp103_4 (fun ps k => by unfold E103_4; split <;> rfl) (fun m ps k r h => ?_) m
  have h0 := h
  unfold E103_4 at h
  split at h
  · exact ⟨S103_4 _ _ _, by kernel_rfl, (ev103_4 m k _ _ _).trans h0⟩
  · cases h
noncomputable def H103_22 : LoopH := ⟨⟨((.one (.unk)) :: (.one (.ptr 0 0)) :: (hu 4 (hh :: hh :: (hu 123 [])))), [(51, [.hole, .sl 0])], [(117, (.int .u64), .ro)]⟩, [0, 2, 3, 4, 5, 8, 9, 10, 11, 12, 13, 14, 15, 16, 17, 18, 19, 20, 21, 22, 23, 24, 25, 26, 27, 28, 29, 30, 31, 32, 33, 34, 35, 36, 37, 38, 39, 40, 41, 42, 43, 44, 45, 46, 47, 48, 49, 50, 51, 52, 53, 54, 55, 56, 57, 58, 59, 60, 61, 62, 63, 64, 65, 66, 67, 68, 69, 70, 71, 72, 73, 74, 75, 76, 77, 78, 79, 80, 81, 82, 83, 84, 85, 86, 87, 88, 89, 90, 91, 92, 93, 94, 95, 96, 97, 98, 99, 100, 101, 102, 103, 104, 105, 106, 107, 108, 109, 110, 111, 112, 113, 114, 115, 116, 117, 118, 119, 120, 121, 122, 123, 124, 125, 126, 127, 128, 129, 130], [], [0, 3, 4, 5, 7, 8, 9, 10, 11, 12, 13, 14, 15, 16, 17, 18, 19, 20, 21, 22, 23, 24, 25, 26, 27, 28, 29, 30, 31, 32, 33, 34, 35, 36, 37, 38, 39, 40, 41, 42, 43, 44, 45, 46, 47, 48, 49, 50, 51, 52, 53, 54, 55, 56, 57, 58, 59, 60, 61, 62, 63, 64, 65, 66, 67, 68, 69, 70, 71, 72, 73, 74, 75, 76, 77, 78, 79, 80, 81, 82, 83, 84, 85, 86, 87, 88, 89, 90, 91, 92, 93, 94, 95, 96, 97, 98, 99, 100, 101, 102, 103, 104, 105, 106, 107, 108, 109, 110, 111, 112, 113, 114, 115, 116, 117, 118, 119, 120, 121, 122, 123, 124, 125, 126, 127, 128, 129, 130]⟩
noncomputable def E103_22 (m : Nat) (ps : List Prm) (k : Kont Bool) : Option Bool :=
  match ps with
  | [.v (.int .i64 a79), .v (.int .i64 a80), .v (.int .i64 a81), .row (.int .u64) a82] => S.LatOk_l4 m (fun z148 z149 z150 z151 => k .ret (⟨((.s1 (.one (.unk))) :: (vp 0 0) :: (vb z148) :: (vu 3 ((vi z149) :: (vu 124 [])))), [(51, [ai z150, .sl 0])], [⟨117, (.int .u64), z151, .ro⟩]⟩ : St)) (fun z152 z153 z154 => k (.exit 8) (⟨((.s1 (.one (.unk))) :: (vp 0 0) :: (vu 4 ((vi z152) :: (vu 124 [])))), [(51, [ai z153, .sl 0])], [⟨117, (.int .u64), z154, .ro⟩]⟩ : St)) a79 a80 a81 a82
  | _ => none
noncomputable def S103_22 (a79 a80 a81 : Int) (a82 : List Int) : St := (⟨((.s1 (.one (.unk))) :: (vp 0 0) :: (vu 4 ((vi a79) :: (vi a80) :: (vu 123 [])))), [(51, [ai a81, .sl 0])], [⟨117, (.int .u64), a82, .ro⟩]⟩ : St)
theorem ev103_22 (m : Nat) (k : Kont Bool) (a79 a80 a81 : Int) (a82 : List Int) : evC Try.prog G103 loopNil c103_22 (S103_22 a79 a80 a81 a82) (turn Try.prog (0, 0) H103_22 (E103_22 m) k) = E103_22 (m + 1) [.v (.int .i64 a79), .v (.int .i64 a80), .v (.int .i64 a81), .row (.int .u64) a82] k := by kernel_rfl
theorem ok103_22 (m : Nat) : LoopOk Try.prog (0, 0) c103_22 (enter Try.prog (0, 0) H103_22 (E103_22 m)) := by
  refine loop_ok (G := G103) (L := loopNil) (envCons_good good181 (envCons_good good182 (envCons_good good105 envNil_good))) (by intro x hx; simp [show loopsOf c103_22 = [] from by kernel_rfl] at hx) (fun ps k => by unfold E103_22; split <;> rfl) (fun m ps k r h => ?_) m
  have h0 := h
  unfold E103_22 at h
  split at h
  · exact ⟨S103_22 _ _ _ _, by kernel_rfl, (ev103_22 m k _ _ _ _).trans h0⟩
  · cases h
noncomputable def L103_19 : LEnv Bool := (loopCons 22 (enter Try.prog (0, 0) H103_22 (E103_22 fu)) loopNil)
theorem lq103_19 : loopsOf c103_19 = [c103_22] := by kernel_rfl
theorem fr103_22 : firstReg c103_22 = some 22 := by kernel_rfl
theorem le103_22 : L103_19 22 = enter Try.prog (0, 0) H103_22 (E103_22 fu) := by kernel_rfl
theorem lm103_19 : ∀ x ∈ [c103_22], ∀ id, firstReg x = some id → LoopOk Try.prog (0, 0) x (L103_19 id) := (loops_cons fr103_22 le103_22 (ok103_22 fu) loops_nil)
theorem lp103_19 : ∀ x ∈ loopsOf c103_19, ∀ id, firstReg x = some id → LoopOk Try.prog (0, 0) x (L103_19 id) := loops_eq lq103_19 lm103_19
noncomputable def H103_19 : LoopH := ⟨⟨((.one (.unk)) :: (.one (.ptr 0 0)) :: (hu 4 (hh :: (hu 124 [])))), [(51, [.hole, .sl 0])], [(117, (.int .u64), .ro)]⟩, [0, 2, 3, 4, 5, 7, 8, 9, 10, 11, 12, 13, 14, 15, 16, 17, 18, 19, 20, 21, 22, 23, 24, 25, 26, 27, 28, 29, 30, 31, 32, 33, 34, 35, 36, 37, 38, 39, 40, 41, 42, 43, 44, 45, 46, 47, 48, 49, 50, 51, 52, 53, 54, 55, 56, 57, 58, 59, 60, 61, 62, 63, 64, 65, 66, 67, 68, 69, 70, 71, 72, 73, 74, 75, 76, 77, 78, 79, 80, 81, 82, 83, 84, 85, 86, 87, 88, 89, 90, 91, 92, 93, 94, 95, 96, 97, 98, 99, 100, 101, 102, 103, 104, 105, 106, 107, 108, 109, 110, 111, 112, 113, 114, 115, 116, 117, 118, 119, 120, 121, 122, 123, 124, 125, 126, 127, 128, 129, 130], [], [0, 1, 3, 4, 5, 6, 7, 8, 9, 10, 11, 12, 13, 14, 15, 16, 17, 18, 19, 20, 21, 22, 23, 24, 25, 26, 27, 28, 29, 30, 31, 32, 33, 34, 35, 36, 37, 38, 39, 40, 41, 42, 43, 44, 45, 46, 47, 48, 49, 50, 51, 52, 53, 54, 55, 56, 57, 58, 59, 60, 61, 62, 63, 64, 65, 66, 67, 68, 69, 70, 71, 72, 73, 74, 75, 76, 77, 78, 79, 80, 81, 82, 83, 84, 85, 86, 87, 88, 89, 90, 91, 92, 93, 94, 95, 96, 97, 98, 99, 100, 101, 102, 103, 104, 105, 106, 107, 108, 109, 110, 111, 112, 113, 114, 115, 116, 117, 118, 119, 120, 121, 122, 123, 124, 125, 126, 127, 128, 129, 130]⟩
noncomputable def E103_19 (m : Nat) (ps : List Prm) (k : Kont Bool) : Option Bool :=
  match ps with
  | [.v (.int .i64 a75), .v (.int .i64 a76), .row (.int .u64) a77] => S.LatOk_l3 m (fun z155 => k .ret (⟨(vu 2 ((vb z155) :: (vu 128 []))), [], []⟩ : St)) (k (.exit 6) (⟨(vu 131 []), [], []⟩ : St)) a75 a76 a77
  | _ => none
noncomputable def S103_19 (a75 a76 : Int) (a77 : List Int) : St := (⟨((.s1 (.one (.unk))) :: (vp 0 0) :: (vu 4 ((vi a75) :: (vu 124 [])))), [(51, [ai a76, .sl 0])], [⟨117, (.int .u64), a77, .ro⟩]⟩ : St)
theorem ev103_19 (m : Nat) (k : Kont Bool) (a75 a76 : Int) (a77 : List Int) : evC Try.prog G103 L103_19 c103_19 (S103_19 a75 a76 a77) (turn Try.prog (0, 0) H103_19 (E103_19 m) k) = E103_19 (m + 1) [.v (.int .i64 a75), .v (.int .i64 a76), .row (.int .u64) a77] k := by kernel_rfl
theorem ok103_19 (m : Nat) : LoopOk Try.prog (0, 0) c103_19 (enter Try.prog (0, 0) H103_19 (E103_19 m)) := by
  refine loop_ok (G := G103) (L := L103_19) (envCons_good good181 (envCons_good good182 (envCons_good good105 envNil_good))) lp103_19 (fun ps k => by unfold E103_19; split <;> rfl) (fun m ps k r h => ?_) m
  have h0 := h
  unfold E103_19 at h
  split at h
  · exact ⟨S103_19 _ _ _, by kernel_rfl, (ev103_19 m k _ _ _).trans h0⟩
  · cases h
noncomputable def L103 : LEnv Bool := (loopCons 4 (enter Try.prog (0, 0) H103_4 (E103_4 fu)) (loopCons 19 (enter Try.prog (0, 0) H103_19 (E103_19 fu)) loopNil))
theorem lq103 : loopsOf c103 = [c103_4, c103_19] := by kernel_rfl
theorem fr103_4 : firstReg c103_4 = some 4 := by kernel_rfl
theorem le103_4 : L103 4 = enter Try.prog (0, 0) H103_4 (E103_4 fu) := by kernel_rfl
theorem fr103_19 : firstReg c103_19 = some 19 := by kernel_rfl
theorem le103_19 : L103 19 = enter Try.prog (0, 0) H103_19 (E103_19 fu) := by kernel_rfl
theorem lm103 : ∀ x ∈ [c103_4, c103_19], ∀ id, firstReg x = some id → LoopOk Try.prog (0, 0) x (L103 id) := (loops_cons fr103_4 le103_4 (ok103_4 fu) (loops_cons fr103_19 le103_19 (ok103_19 fu) loops_nil))
theorem lp103 : ∀ x ∈ loopsOf c103, ∀ id, firstReg x = some id → LoopOk Try.prog (0, 0) x (L103 id) := loops_eq lq103 lm103
noncomputable def R103 (x : Bool) : Res := ⟨[.one (ab x)], [], []⟩
noncomputable def K103 (r : Res) : Option Bool :=
  match r with
  | ⟨[.one (.val (.bool v1))], [], []⟩ => some (v1)
  | _ => none
noncomputable def E103 : Fun2 := fun args bs rs =>
  match args, bs, rs with
  | [.s1 (.agg [.val (.int .i64 a1), .sl 0])], [], [⟨117, (.int .u64), a2, .ro⟩] => some ⟨Bool, S.LatOk a1 a2, R103⟩
  | _, _, _ => none
theorem ev103 (a1 : Int) (a2 : List Int) : evF Try.prog G103 L103 (0, 0) [] Try.f103 c103 [.s1 (.agg [ai a1, .sl 0])] [] [⟨117, (.int .u64), a2, .ro⟩] K103 = S.LatOk a1 a2 := by kernel_rfl
theorem good103 : Vm.Good Try.prog 103 E103 := by
  refine evF_good (G := G103) (c := c103) (envCons_good good181 (envCons_good good182 (envCons_good good105 envNil_good))) Try.func103 (by kernel_rfl) (by kernel_rfl) (0, 0) (fun args bs rs out t h h2 => ?_)
  unfold E103 at h
  split at h
  · injection h with h
    subst h
    exact ⟨rfl, [], L103, K103, lp103, (fun r t h => by unfold K103 at h; split at h; (injection h with h; subst h; rfl); cases h), (ev103 _ _).trans h2⟩
  · cases h
/-! ### S.l04Key -/
noncomputable def G188 : Env := envNil
noncomputable def c188 : Code := bodyOf Try.f188
noncomputable def S.l04Key (a1 : Int) : Option Bool :=
(bif (decide (0 ≤ a1)) then
(some (decide (a1 ≤ 15)))
else
(some false))
noncomputable def R188 (x : Bool) : Res := ⟨[.one (ab x)], [], []⟩
noncomputable def K188 (r : Res) : Option Bool :=
  match r with
  | ⟨[.one (.val (.bool v1))], [], []⟩ => some (v1)
  | _ => none
noncomputable def E188 : Fun2 := fun args bs rs =>
  match args, bs, rs with
  | [.s1 (.one (.val (.int .i64 a1)))], [], [] => some ⟨Bool, S.l04Key a1, R188⟩
  | _, _, _ => none
theorem ev188 (a1 : Int) : evF Try.prog G188 loopNil (0, 0) [] Try.f188 c188 [vi a1] [] [] K188 = S.l04Key a1 := by kernel_rfl
theorem good188 : Vm.Good Try.prog 188 E188 := by
  refine evF_good (G := G188) (c := c188) envNil_good Try.func188 (by kernel_rfl) (by kernel_rfl) (0, 0) (fun args bs rs out t h h2 => ?_)
  unfold E188 at h
  split at h
  · injection h with h
    subst h
    exact ⟨rfl, [], loopNil, K188, (by intro x hx; simp [show loopsOf c188 = [] from by kernel_rfl] at hx), (fun r t h => by unfold K188 at h; split at h; (injection h with h; subst h; rfl); cases h), (ev188 _).trans h2⟩
  · cases h
/-! ### S.l06Win -/
noncomputable def G189 : Env := envNil
noncomputable def c189 : Code := bodyOf Try.f189
noncomputable def S.l06Win (a1 a2 : Int) : Option Bool :=
(bif (decide (0 ≤ a1)) then
(bif (decide (a1 < a2)) then
(some (decide (a2 ≤ 1100)))
else
(some false))
else
(some false))
noncomputable def R189 (x : Bool) : Res := ⟨[.one (ab x)], [], []⟩
noncomputable def K189 (r : Res) : Option Bool :=
  match r with
  | ⟨[.one (.val (.bool v1))], [], []⟩ => some (v1)
  | _ => none
noncomputable def E189 : Fun2 := fun args bs rs =>
  match args, bs, rs with
  | [.s1 (.agg [.val (.int .i64 a1), .val (.int .i64 a2)])], [], [] => some ⟨Bool, S.l06Win a1 a2, R189⟩
  | _, _, _ => none
theorem ev189 (a1 a2 : Int) : evF Try.prog G189 loopNil (0, 0) [] Try.f189 c189 [.s1 (.agg [ai a1, ai a2])] [] [] K189 = S.l06Win a1 a2 := by kernel_rfl
theorem good189 : Vm.Good Try.prog 189 E189 := by
  refine evF_good (G := G189) (c := c189) envNil_good Try.func189 (by kernel_rfl) (by kernel_rfl) (0, 0) (fun args bs rs out t h h2 => ?_)
  unfold E189 at h
  split at h
  · injection h with h
    subst h
    exact ⟨rfl, [], loopNil, K189, (by intro x hx; simp [show loopsOf c189 = [] from by kernel_rfl] at hx), (fun r t h => by unfold K189 at h; split at h; (injection h with h; subst h; rfl); cases h), (ev189 _ _).trans h2⟩
  · cases h
/-! ### S.PaneOk -/
noncomputable def G115 : Env := (envCons 188 [] E188 (envCons 189 [] E189 envNil))
noncomputable def c115 : Code := bodyOf Try.f115
noncomputable def S.PaneOk (a1 a2 a3 a4 a5 a6 : Int) (a7 : Bool) (a8 : List Int) : Option Bool :=
(bif (decide (a1 < 0)) then
(some false)
else
(bif (decide (4 ≤ a1)) then
(some false)
else
(Option.bind (S.l04Key a2) fun r11 =>
(bif (!r11) then
(some false)
else
(Option.bind (S.l06Win a3 a4) fun r12 =>
(bif (!r12) then
(some false)
else
(bif (decide (a5 < 0)) then
(some false)
else
(bif (decide (16 ≤ a5)) then
(some false)
else
(bif (decide (a6 < 1)) then
(some false)
else
(bif (decide (1000000 < a6)) then
(some false)
else
(bif (decide (4 < (a8.length : Int))) then
(some false)
else
(some (((a8.length : Int) == 0) == a7)))))))))))))
noncomputable def R115 (x : Bool) : Res := ⟨[.one (ab x)], [], []⟩
noncomputable def K115 (r : Res) : Option Bool :=
  match r with
  | ⟨[.one (.val (.bool v1))], [], []⟩ => some (v1)
  | _ => none
noncomputable def E115 : Fun2 := fun args bs rs =>
  match args, bs, rs with
  | [.s1 (.agg [.val (.int .i64 a1), .val (.int .i64 a2), .val (.int .i64 a3), .val (.int .i64 a4), .val (.int .i64 a5), .val (.int .i64 a6), .sl 0, .val (.bool a7)])], [], [⟨3, (.int .i64), a8, .ro⟩] => some ⟨Bool, S.PaneOk a1 a2 a3 a4 a5 a6 a7 a8, R115⟩
  | _, _, _ => none
theorem ev115 (a1 a2 a3 a4 a5 a6 : Int) (a7 : Bool) (a8 : List Int) : evF Try.prog G115 loopNil (0, 0) [] Try.f115 c115 [.s1 (.agg [ai a1, ai a2, ai a3, ai a4, ai a5, ai a6, .sl 0, ab a7])] [] [⟨3, (.int .i64), a8, .ro⟩] K115 = S.PaneOk a1 a2 a3 a4 a5 a6 a7 a8 := by kernel_rfl
theorem good115 : Vm.Good Try.prog 115 E115 := by
  refine evF_good (G := G115) (c := c115) (envCons_good good188 (envCons_good good189 envNil_good)) Try.func115 (by kernel_rfl) (by kernel_rfl) (0, 0) (fun args bs rs out t h h2 => ?_)
  unfold E115 at h
  split at h
  · injection h with h
    subst h
    exact ⟨rfl, [], loopNil, K115, (by intro x hx; simp [show loopsOf c115 = [] from by kernel_rfl] at hx), (fun r t h => by unfold K115 at h; split at h; (injection h with h; subst h; rfl); cases h), (ev115 _ _ _ _ _ _ _ _).trans h2⟩
  · cases h
/-! ### S.l01Here -/
noncomputable def G138 : Env := envNil
noncomputable def c138 : Code := bodyOf Try.f138
noncomputable def S.l01Here (a1 a2 : Int) (a3 : List Int) : Option Bool :=
(bif (decide (0 ≤ a2)) then
(some (decide (a2 < a1)))
else
(some false))
noncomputable def R138 (x : Bool) : Res := ⟨[.one (ab x)], [], []⟩
noncomputable def K138 (r : Res) : Option Bool :=
  match r with
  | ⟨[.one (.val (.bool v1))], [], []⟩ => some (v1)
  | _ => none
noncomputable def E138 : Fun2 := fun args bs rs =>
  match args, bs, rs with
  | [.s1 (.agg [.val (.int .i64 a1), .sl 0]), .s1 (.one (.val (.int .i64 a2)))], [], [⟨117, (.int .u64), a3, .ro⟩] => some ⟨Bool, S.l01Here a1 a2 a3, R138⟩
  | _, _, _ => none
theorem ev138 (a1 a2 : Int) (a3 : List Int) : evF Try.prog G138 loopNil (0, 0) [] Try.f138 c138 [.s1 (.agg [ai a1, .sl 0]), vi a2] [] [⟨117, (.int .u64), a3, .ro⟩] K138 = S.l01Here a1 a2 a3 := by kernel_rfl
theorem good138 : Vm.Good Try.prog 138 E138 := by
  refine evF_good (G := G138) (c := c138) envNil_good Try.func138 (by kernel_rfl) (by kernel_rfl) (0, 0) (fun args bs rs out t h h2 => ?_)
  unfold E138 at h
  split at h
  · injection h with h
    subst h
    exact ⟨rfl, [], loopNil, K138, (by intro x hx; simp [show loopsOf c138 = [] from by kernel_rfl] at hx), (fun r t h => by unfold K138 at h; split at h; (injection h with h; subst h; rfl); cases h), (ev138 _ _ _).trans h2⟩
  · cases h
/-! ### S.l15Fits -/
noncomputable def G104 : Env := (envCons 115 [] E115 (envCons 138 [] E138 envNil))
noncomputable def c104 : Code := bodyOf Try.f104
noncomputable def c104_4 : Code := (loopsOf c104).getD 0 .skip
noncomputable def S.l15Fits_l0 : Nat → (Bool → Option Bool) → (Option Bool) → Int → Int → (List (Int × Int × Int × Int × Int × Int × List Int × Bool)) → List Int → Option Bool
  | 0, _, _, _, _, _, _ => none
  | m + 1, e4_0, e4_1, a6, a7, a8, a9 =>
    (bif (decide (a6 < (a8.length : Int))) then
    (bif decide ((0 : Int) ≤ a6 ∧ a6 < (a8.length : Int)) then
    (Option.bind (S.PaneOk ((nthI a8 a6 ((0 : Int), ((0 : Int), ((0 : Int), ((0 : Int), ((0 : Int), ((0 : Int), ([], false)))))))).1) ((nthI a8 a6 ((0 : Int), ((0 : Int), ((0 : Int), ((0 : Int), ((0 : Int), ((0 : Int), ([], false)))))))).2.1) ((nthI a8 a6 ((0 : Int), ((0 : Int), ((0 : Int), ((0 : Int), ((0 : Int), ((0 : Int), ([], false)))))))).2.2.1) ((nthI a8 a6 ((0 : Int), ((0 : Int), ((0 : Int), ((0 : Int), ((0 : Int), ((0 : Int), ([], false)))))))).2.2.2.1) ((nthI a8 a6 ((0 : Int), ((0 : Int), ((0 : Int), ((0 : Int), ((0 : Int), ((0 : Int), ([], false)))))))).2.2.2.2.1) ((nthI a8 a6 ((0 : Int), ((0 : Int), ((0 : Int), ((0 : Int), ((0 : Int), ((0 : Int), ([], false)))))))).2.2.2.2.2.1) ((nthI a8 a6 ((0 : Int), ((0 : Int), ((0 : Int), ((0 : Int), ((0 : Int), ((0 : Int), ([], false)))))))).2.2.2.2.2.2.2) ((nthI a8 a6 ((0 : Int), ((0 : Int), ((0 : Int), ((0 : Int), ((0 : Int), ((0 : Int), ([], false)))))))).2.2.2.2.2.2.1)) fun r12 =>
    (bif (!r12) then
    (e4_0 false)
    else
    (bif decide ((0 : Int) ≤ a6 ∧ a6 < (a8.length : Int)) then
    (Option.bind (S.l01Here a7 ((nthI a8 a6 ((0 : Int), ((0 : Int), ((0 : Int), ((0 : Int), ((0 : Int), ((0 : Int), ([], false)))))))).2.2.2.2.1) a9) fun r13 =>
    (bif (!r13) then
    (e4_0 false)
    else
    (bif decide ((0 : Int) ≤ a6 ∧ a6 < (a8.length : Int)) then
    (let v14 : Bool := (decide (1000 < (nthI a8 a6 ((0 : Int), ((0 : Int), ((0 : Int), ((0 : Int), ((0 : Int), ((0 : Int), ([], false)))))))).2.2.2.2.2.1))
    (bif v14 then
    (e4_0 false)
    else
    (S.l15Fits_l0 m e4_0 e4_1 (IntKind.wrap .i64 (a6 + 1)) a7 a8 a9)))
    else
    none)))
    else
    none)))
    else
    none)
    else
    e4_1)
noncomputable def S.l15Fits (a1 : Int) (a2 : List Int) (a3 : List (Int × Int × Int × Int × Int × Int × List Int × Bool)) : Option Bool :=
(bif (decide (100 < (a3.length : Int))) then
(some false)
else
(S.l15Fits_l0 fu (fun y16 =>
(some y16)) (some true) 0 a1 a3 a2))
noncomputable def H104_4 : LoopH := ⟨⟨((.one (.unk)) :: (.one (.sl 0)) :: (.one (.ptr 0 0)) :: (hu 2 (hh :: (hu 33 [])))), [(51, [.hole, .sl 1])], [(68, (.pair (.int .i64) (.pair (.int .i64) (.pair (.int .i64) (.pair (.int .i64) (.pair (.int .i64) (.pair (.int .i64) (.pair (.sl 3 (.int .i64)) .bool))))))), .ro), (117, (.int .u64), .ro)]⟩, [0, 3, 4, 6, 7, 8, 9, 10, 11, 12, 13, 14, 15, 16, 17, 18, 19, 20, 21, 22, 23, 24, 25, 26, 27, 28, 29, 30, 31, 32, 33, 34, 35, 36, 37, 38], [], [0, 1, 2, 3, 5, 6, 7, 8, 9, 10, 11, 12, 13, 14, 15, 16, 17, 18, 19, 20, 21, 22, 23, 24, 25, 26, 27, 28, 29, 30, 31, 32, 33, 34, 35, 36, 37, 38]⟩
noncomputable def E104_4 (m : Nat) (ps : List Prm) (k : Kont Bool) : Option Bool :=
  match ps with
  | [.v (.int .i64 a6), .v (.int .i64 a7), .row (.pair (.int .i64) (.pair (.int .i64) (.pair (.int .i64) (.pair (.int .i64) (.pair (.int .i64) (.pair (.int .i64) (.pair (.sl 3 (.int .i64)) .bool))))))) a8, .row (.int .u64) a9] => S.l15Fits_l0 m (fun z18 => k .ret (⟨(vu 4 ((vb z18) :: (vu 34 []))), [], []⟩ : St)) (k (.exit 0) (⟨(vu 39 []), [], []⟩ : St)) a6 a7 a8 a9
  | _ => none
noncomputable def S104_4 (a6 a7 : Int) (a8 : List (Int × Int × Int × Int × Int × Int × List Int × Bool)) (a9 : List Int) : St := (⟨((.s1 (.one (.unk))) :: (vl 0) :: (vp 0 0) :: (vu 2 ((vi a6) :: (vu 33 [])))), [(51, [ai a7, .sl 1])], [⟨68, (.pair (.int .i64) (.pair (.int .i64) (.pair (.int .i64) (.pair (.int .i64) (.pair (.int .i64) (.pair (.int .i64) (.pair (.sl 3 (.int .i64)) .bool))))))), a8, .ro⟩, ⟨117, (.int .u64), a9, .ro⟩]⟩ : St)
theorem ev104_4 (m : Nat) (k : Kont Bool) (a6 a7 : Int) (a8 : List (Int × Int × Int × Int × Int × Int × List Int × Bool)) (a9 : List Int) : evC Try.prog G104 loopNil c104_4 (S104_4 a6 a7 a8 a9) (turn Try.prog (0, 0) H104_4 (E104_4 m) k) = E104_4 (m + 1) [.v (.int .i64 a6), .v (.int .i64 a7), .row (.pair (.int .i64) (.pair (.int .i64) (.pair (.int .i64) (.pair (.int .i64) (.pair (.int .i64) (.pair (.int .i64) (.pair (.sl 3 (.int .i64)) .bool))))))) a8, .row (.int .u64) a9] k := by kernel_rfl
theorem ok104_4 (m : Nat) : LoopOk Try.prog (0, 0) c104_4 (enter Try.prog (0, 0) H104_4 (E104_4 m)) := by
  refine loop_ok (G := G104) (L := loopNil) (envCons_good good115 (envCons_good good138 envNil_good)) (by intro x hx; simp [show loopsOf c104_4 = [] from by kernel_rfl] at hx) (fun ps k => by unfold E104_4; split <;> rfl) (fun m ps k r h => ?_) m
  have h0 := h
  unfold E104_4 at h
  split at h
  · exact ⟨S104_4 _ _ _ _, by kernel_rfl, (ev104_4 m k _ _ _ _).trans h0⟩
  · cases h
noncomputable def L104 : LEnv Bool := (loopCons 4 (enter Try.prog (0, 0) H104_4 (E104_4 fu)) loopNil)
theorem lq104 : loopsOf c104 = [c104_4] := by kernel_rfl
theorem fr104_4 : firstReg c104_4 = some 4 := by kernel_rfl
theorem le104_4 : L104 4 = enter Try.prog (0, 0) H104_4 (E104_4 fu) := by kernel_rfl
theorem lm104 : ∀ x ∈ [c104_4], ∀ id, firstReg x = some id → LoopOk Try.prog (0, 0) x (L104 id) := (loops_cons fr104_4 le104_4 (ok104_4 fu) loops_nil)
theorem lp104 : ∀ x ∈ loopsOf c104, ∀ id, firstReg x = some id → LoopOk Try.prog (0, 0) x (L104 id) := loops_eq lq104 lm104
noncomputable def R104 (x : Bool) : Res := ⟨[.one (ab x)], [], []⟩
noncomputable def K104 (r : Res) : Option Bool :=
  match r with
  | ⟨[.one (.val (.bool v1))], [], []⟩ => some (v1)
  | _ => none
noncomputable def E104 : Fun2 := fun args bs rs =>
  match args, bs, rs with
  | [.s1 (.agg [.val (.int .i64 a1), .sl 0]), .s1 (.one (.sl 1))], [], [⟨117, (.int .u64), a2, .ro⟩, ⟨68, (.pair (.int .i64) (.pair (.int .i64) (.pair (.int .i64) (.pair (.int .i64) (.pair (.int .i64) (.pair (.int .i64) (.pair (.sl 3 (.int .i64)) .bool))))))), a3, .ro⟩] => some ⟨Bool, S.l15Fits a1 a2 a3, R104⟩
  | _, _, _ => none
theorem ev104 (a1 : Int) (a2 : List Int) (a3 : List (Int × Int × Int × Int × Int × Int × List Int × Bool)) : evF Try.prog G104 L104 (0, 0) [] Try.f104 c104 [.s1 (.agg [ai a1, .sl 0]), vl 1] [] [⟨117, (.int .u64), a2, .ro⟩, ⟨68, (.pair (.int .i64) (.pair (.int .i64) (.pair (.int .i64) (.pair (.int .i64) (.pair (.int .i64) (.pair (.int .i64) (.pair (.sl 3 (.int .i64)) .bool))))))), a3, .ro⟩] K104 = S.l15Fits a1 a2 a3 := by kernel_rfl
theorem good104 : Vm.Good Try.prog 104 E104 := by
  refine evF_good (G := G104) (c := c104) (envCons_good good115 (envCons_good good138 envNil_good)) Try.func104 (by kernel_rfl) (by kernel_rfl) (0, 0) (fun args bs rs out t h h2 => ?_)
  unfold E104 at h
  split at h
  · injection h with h
    subst h
    exact ⟨rfl, [], L104, K104, lp104, (fun r t h => by unfold K104 at h; split at h; (injection h with h; subst h; rfl); cases h), (ev104 _ _ _).trans h2⟩
  · cases h
/-! ### S.BothOf -/
noncomputable def G31 : Env := (envCons 103 [] E103 (envCons 104 [] E104 (envCons 105 [] E105 envNil)))
noncomputable def c31 : Code := bodyOf Try.f31
noncomputable def c31_5 : Code := (loopsOf c31).getD 0 .skip
noncomputable def c31_8 : Code := (loopsOf c31_5).getD 0 .skip
noncomputable def S.BothOf_l1 : Nat → (Int → Int → (List (Int × Int × Int × Int × Int × Int × List Int × Bool)) → (List (Int × Int × Int × Int × Int × Int × List Int × Bool)) → (List (Int × Int × Int × Int × Int × List Int × List Int)) → List Int → Option (Bool × (List (Int × Int × Int × Int × Int × List Int × List Int)))) → Int → Int → Int → (List (Int × Int × Int × Int × Int × Int × List Int × Bool)) → (List (Int × Int × Int × Int × Int × Int × List Int × Bool)) → (List (Int × Int × Int × Int × Int × List Int × List Int)) → List Int → Option (Bool × (List (Int × Int × Int × Int × Int × List Int × List Int)))
  | 0, _, _, _, _, _, _, _, _ => none
  | m + 1, e8_0, a16, a17, a18, a19, a20, a21, a22 =>
    (bif (decide (a17 < (a20.length : Int))) then
    (bif decide ((0 : Int) ≤ a16 ∧ a16 < (a19.length : Int)) then
    (bif decide ((0 : Int) ≤ a17 ∧ a17 < (a20.length : Int)) then
    (dup (let v25 : Bool := ((nthI a19 a16 ((0 : Int), ((0 : Int), ((0 : Int), ((0 : Int), ((0 : Int), ((0 : Int), ([], false)))))))).2.1 == (nthI a20 a17 ((0 : Int), ((0 : Int), ((0 : Int), ((0 : Int), ((0 : Int), ((0 : Int), ([], false)))))))).2.1)
    (bif v25 then
    (let v26 : Bool := ((nthI a19 a16 ((0 : Int), ((0 : Int), ((0 : Int), ((0 : Int), ((0 : Int), ((0 : Int), ([], false)))))))).2.2.1 == (nthI a20 a17 ((0 : Int), ((0 : Int), ((0 : Int), ((0 : Int), ((0 : Int), ((0 : Int), ([], false)))))))).2.2.1)
    (bif v26 then
    (let v27 : Bool := ((nthI a19 a16 ((0 : Int), ((0 : Int), ((0 : Int), ((0 : Int), ((0 : Int), ((0 : Int), ([], false)))))))).2.2.2.1 == (nthI a20 a17 ((0 : Int), ((0 : Int), ((0 : Int), ((0 : Int), ((0 : Int), ((0 : Int), ([], false)))))))).2.2.2.1)
    (bif v27 then
    (let v28 : Int := (IntKind.wrap .i64 ((nthI a19 a16 ((0 : Int), ((0 : Int), ((0 : Int), ((0 : Int), ((0 : Int), ((0 : Int), ([], false)))))))).2.2.2.2.2.1 * (nthI a20 a17 ((0 : Int), ((0 : Int), ((0 : Int), ((0 : Int), ((0 : Int), ((0 : Int), ([], false)))))))).2.2.2.2.2.1))
    (same (Option.bind (S.l01Bound a18 ((nthI a19 a16 ((0 : Int), ((0 : Int), ((0 : Int), ((0 : Int), ((0 : Int), ((0 : Int), ([], false)))))))).2.2.2.2.1) ((nthI a20 a17 ((0 : Int), ((0 : Int), ((0 : Int), ((0 : Int), ((0 : Int), ((0 : Int), ([], false)))))))).2.2.2.2.1) true a22) fun r29 =>
    (same (dup (bif decide ((([] : List (Int)).length + ((nthI a19 a16 ((0 : Int), ((0 : Int), ((0 : Int), ((0 : Int), ((0 : Int), ((0 : Int), ([], false)))))))).2.2.2.2.2.2.1).length) * 8 ≤ 140737488355328) then
    (let v30 : List Int := (([] : List (Int)) ++ ((nthI a19 a16 ((0 : Int), ((0 : Int), ((0 : Int), ((0 : Int), ((0 : Int), ((0 : Int), ([], false)))))))).2.2.2.2.2.2.1))
    (bif decide ((([] : List (Int)).length + ((nthI a20 a17 ((0 : Int), ((0 : Int), ((0 : Int), ((0 : Int), ((0 : Int), ((0 : Int), ([], false)))))))).2.2.2.2.2.2.1).length) * 8 ≤ 140737488355328) then
    (let v31 : List Int := (([] : List (Int)) ++ ((nthI a20 a17 ((0 : Int), ((0 : Int), ((0 : Int), ((0 : Int), ((0 : Int), ((0 : Int), ([], false)))))))).2.2.2.2.2.2.1))
    (let v32 : List (Int × Int × Int × Int × Int × List Int × List Int) := [((nthI a19 a16 ((0 : Int), ((0 : Int), ((0 : Int), ((0 : Int), ((0 : Int), ((0 : Int), ([], false)))))))).2.1, ((nthI a19 a16 ((0 : Int), ((0 : Int), ((0 : Int), ((0 : Int), ((0 : Int), ((0 : Int), ([], false)))))))).2.2.1, ((nthI a19 a16 ((0 : Int), ((0 : Int), ((0 : Int), ((0 : Int), ((0 : Int), ((0 : Int), ([], false)))))))).2.2.2.1, (r29, (v28, (v30, v31))))))]
    (bif decide ((a21.length + v32.length) * 88 ≤ 140737488355328) then
    (S.BothOf_l1 m e8_0 a16 (IntKind.wrap .i64 (a17 + 1)) a18 a19 a20 (a21 ++ v32) a22)
    else
    none)))
    else
    none))
    else
    none))
    (bif decide ((([] : List (Int)).length + ((nthI a19 a16 ((0 : Int), ((0 : Int), ((0 : Int), ((0 : Int), ((0 : Int), ((0 : Int), ([], false)))))))).2.2.2.2.2.2.1).length) * 8 ≤ 140737488355328) then
    (let v30 : List Int := (([] : List (Int)) ++ ((nthI a19 a16 ((0 : Int), ((0 : Int), ((0 : Int), ((0 : Int), ((0 : Int), ((0 : Int), ([], false)))))))).2.2.2.2.2.2.1))
    (bif decide ((([] : List (Int)).length + ((nthI a20 a17 ((0 : Int), ((0 : Int), ((0 : Int), ((0 : Int), ((0 : Int), ((0 : Int), ([], false)))))))).2.2.2.2.2.2.1).length) * 8 ≤ 140737488355328) then
    (let v31 : List Int := (([] : List (Int)) ++ ((nthI a20 a17 ((0 : Int), ((0 : Int), ((0 : Int), ((0 : Int), ((0 : Int), ((0 : Int), ([], false)))))))).2.2.2.2.2.2.1))
    (let v32 : List (Int × Int × Int × Int × Int × List Int × List Int) := [((nthI a19 a16 ((0 : Int), ((0 : Int), ((0 : Int), ((0 : Int), ((0 : Int), ((0 : Int), ([], false)))))))).2.1, ((nthI a19 a16 ((0 : Int), ((0 : Int), ((0 : Int), ((0 : Int), ((0 : Int), ((0 : Int), ([], false)))))))).2.2.1, ((nthI a19 a16 ((0 : Int), ((0 : Int), ((0 : Int), ((0 : Int), ((0 : Int), ((0 : Int), ([], false)))))))).2.2.2.1, (r29, (v28, (v30, v31))))))]
    (bif decide ((a21.length + v32.length) * 88 ≤ 140737488355328) then
    (S.BothOf_l1 m e8_0 a16 (IntKind.wrap .i64 (a17 + 1)) a18 a19 a20 (a21 ++ v32) a22)
    else
    none)))
    else
    none))
    else
    none)))
    (same (same (Option.bind (S.l01Bound a18 ((nthI a19 a16 ((0 : Int), ((0 : Int), ((0 : Int), ((0 : Int), ((0 : Int), ((0 : Int), ([], false)))))))).2.2.2.2.1) ((nthI a20 a17 ((0 : Int), ((0 : Int), ((0 : Int), ((0 : Int), ((0 : Int), ((0 : Int), ([], false)))))))).2.2.2.2.1) true a22) fun r29 =>
    (dup (bif decide ((([] : List (Int)).length + ((nthI a19 a16 ((0 : Int), ((0 : Int), ((0 : Int), ((0 : Int), ((0 : Int), ((0 : Int), ([], false)))))))).2.2.2.2.2.2.1).length) * 8 ≤ 140737488355328) then
    (let v30 : List Int := (([] : List (Int)) ++ ((nthI a19 a16 ((0 : Int), ((0 : Int), ((0 : Int), ((0 : Int), ((0 : Int), ((0 : Int), ([], false)))))))).2.2.2.2.2.2.1))
    (bif decide ((([] : List (Int)).length + ((nthI a20 a17 ((0 : Int), ((0 : Int), ((0 : Int), ((0 : Int), ((0 : Int), ((0 : Int), ([], false)))))))).2.2.2.2.2.2.1).length) * 8 ≤ 140737488355328) then
    (let v31 : List Int := (([] : List (Int)) ++ ((nthI a20 a17 ((0 : Int), ((0 : Int), ((0 : Int), ((0 : Int), ((0 : Int), ((0 : Int), ([], false)))))))).2.2.2.2.2.2.1))
    (let v32 : List (Int × Int × Int × Int × Int × List Int × List Int) := [((nthI a19 a16 ((0 : Int), ((0 : Int), ((0 : Int), ((0 : Int), ((0 : Int), ((0 : Int), ([], false)))))))).2.1, ((nthI a19 a16 ((0 : Int), ((0 : Int), ((0 : Int), ((0 : Int), ((0 : Int), ((0 : Int), ([], false)))))))).2.2.1, ((nthI a19 a16 ((0 : Int), ((0 : Int), ((0 : Int), ((0 : Int), ((0 : Int), ((0 : Int), ([], false)))))))).2.2.2.1, (r29, (v28, (v30, v31))))))]
    (bif decide ((a21.length + v32.length) * 88 ≤ 140737488355328) then
    (S.BothOf_l1 m e8_0 a16 (IntKind.wrap .i64 (a17 + 1)) a18 a19 a20 (a21 ++ v32) a22)
    else
    none)))
    else
    none))
    else
    none)))
    (Option.bind (S.l01Bound a18 ((nthI a19 a16 ((0 : Int), ((0 : Int), ((0 : Int), ((0 : Int), ((0 : Int), ((0 : Int), ([], false)))))))).2.2.2.2.1) ((nthI a20 a17 ((0 : Int), ((0 : Int), ((0 : Int), ((0 : Int), ((0 : Int), ((0 : Int), ([], false)))))))).2.2.2.2.1) true a22) fun r29 =>
    (bif decide ((([] : List (Int)).length + ((nthI a19 a16 ((0 : Int), ((0 : Int), ((0 : Int), ((0 : Int), ((0 : Int), ((0 : Int), ([], false)))))))).2.2.2.2.2.2.1).length) * 8 ≤ 140737488355328) then
    (let v30 : List Int := (([] : List (Int)) ++ ((nthI a19 a16 ((0 : Int), ((0 : Int), ((0 : Int), ((0 : Int), ((0 : Int), ((0 : Int), ([], false)))))))).2.2.2.2.2.2.1))
    (bif decide ((([] : List (Int)).length + ((nthI a20 a17 ((0 : Int), ((0 : Int), ((0 : Int), ((0 : Int), ((0 : Int), ((0 : Int), ([], false)))))))).2.2.2.2.2.2.1).length) * 8 ≤ 140737488355328) then
    (let v31 : List Int := (([] : List (Int)) ++ ((nthI a20 a17 ((0 : Int), ((0 : Int), ((0 : Int), ((0 : Int), ((0 : Int), ((0 : Int), ([], false)))))))).2.2.2.2.2.2.1))
    (let v32 : List (Int × Int × Int × Int × Int × List Int × List Int) := [((nthI a19 a16 ((0 : Int), ((0 : Int), ((0 : Int), ((0 : Int), ((0 : Int), ((0 : Int), ([], false)))))))).2.1, ((nthI a19 a16 ((0 : Int), ((0 : Int), ((0 : Int), ((0 : Int), ((0 : Int), ((0 : Int), ([], false)))))))).2.2.1, ((nthI a19 a16 ((0 : Int), ((0 : Int), ((0 : Int), ((0 : Int), ((0 : Int), ((0 : Int), ([], false)))))))).2.2.2.1, (r29, (v28, (v30, v31))))))]
    (bif decide ((a21.length + v32.length) * 88 ≤ 140737488355328) then
    (S.BothOf_l1 m e8_0 a16 (IntKind.wrap .i64 (a17 + 1)) a18 a19 a20 (a21 ++ v32) a22)
    else
    none)))
    else
    none))
    else
    none)))
    (dup (Option.bind (S.l01Bound a18 ((nthI a19 a16 ((0 : Int), ((0 : Int), ((0 : Int), ((0 : Int), ((0 : Int), ((0 : Int), ([], false)))))))).2.2.2.2.1) ((nthI a20 a17 ((0 : Int), ((0 : Int), ((0 : Int), ((0 : Int), ((0 : Int), ((0 : Int), ([], false)))))))).2.2.2.2.1) true a22) fun r29 =>
    (bif decide ((([] : List (Int)).length + ((nthI a19 a16 ((0 : Int), ((0 : Int), ((0 : Int), ((0 : Int), ((0 : Int), ((0 : Int), ([], false)))))))).2.2.2.2.2.2.1).length) * 8 ≤ 140737488355328) then
    (let v30 : List Int := (([] : List (Int)) ++ ((nthI a19 a16 ((0 : Int), ((0 : Int), ((0 : Int), ((0 : Int), ((0 : Int), ((0 : Int), ([], false)))))))).2.2.2.2.2.2.1))
    (bif decide ((([] : List (Int)).length + ((nthI a20 a17 ((0 : Int), ((0 : Int), ((0 : Int), ((0 : Int), ((0 : Int), ((0 : Int), ([], false)))))))).2.2.2.2.2.2.1).length) * 8 ≤ 140737488355328) then
    (let v31 : List Int := (([] : List (Int)) ++ ((nthI a20 a17 ((0 : Int), ((0 : Int), ((0 : Int), ((0 : Int), ((0 : Int), ((0 : Int), ([], false)))))))).2.2.2.2.2.2.1))
    (let v32 : List (Int × Int × Int × Int × Int × List Int × List Int) := [((nthI a19 a16 ((0 : Int), ((0 : Int), ((0 : Int), ((0 : Int), ((0 : Int), ((0 : Int), ([], false)))))))).2.1, ((nthI a19 a16 ((0 : Int), ((0 : Int), ((0 : Int), ((0 : Int), ((0 : Int), ((0 : Int), ([], false)))))))).2.2.1, ((nthI a19 a16 ((0 : Int), ((0 : Int), ((0 : Int), ((0 : Int), ((0 : Int), ((0 : Int), ([], false)))))))).2.2.2.1, (r29, (v28, (v30, v31))))))]
    (bif decide ((a21.length + v32.length) * 88 ≤ 140737488355328) then
    (S.BothOf_l1 m e8_0 a16 (IntKind.wrap .i64 (a17 + 1)) a18 a19 a20 (a21 ++ v32) a22)
    else
    none)))
    else
    none))
    else
    none))))))
    else
    (S.BothOf_l1 m e8_0 a16 (IntKind.wrap .i64 (a17 + 1)) a18 a19 a20 a21 a22)))
    else
    (S.BothOf_l1 m e8_0 a16 (IntKind.wrap .i64 (a17 + 1)) a18 a19 a20 a21 a22)))
    else
    (S.BothOf_l1 m e8_0 a16 (IntKind.wrap .i64 (a17 + 1)) a18 a19 a20 a21 a22))))
    else
    none)
    else
    none)
    else
    (e8_0 a16 a18 a19 a20 a21 a22))
noncomputable def S.BothOf_l0 : Nat → ((List (Int × Int × Int × Int × Int × List Int × List Int)) → Option (Bool × (List (Int × Int × Int × Int × Int × List Int × List Int)))) → Int → Int → (List (Int × Int × Int × Int × Int × Int × List Int × Bool)) → (List (Int × Int × Int × Int × Int × Int × List Int × Bool)) → (List (Int × Int × Int × Int × Int × List Int × List Int)) → List Int → Option (Bool × (List (Int × Int × Int × Int × Int × List Int × List Int)))
  | 0, _, _, _, _, _, _, _ => none
  | m + 1, e5_0, a8, a9, a10, a11, a12, a13 =>
    (bif (decide (a8 < (a10.length : Int))) then
    (S.BothOf_l1 fu (fun y37 y38 y39 y40 y41 y42 =>
    (S.BothOf_l0 m e5_0 (IntKind.wrap .i64 (y37 + 1)) y38 y39 y40 y41 y42)) a8 0 a9 a10 a11 a12 a13)
    else
    (e5_0 a12))
noncomputable def S.BothOf (a1 : Int) (a2 : List Int) (a3 a4 : List (Int × Int × Int × Int × Int × Int × List Int × Bool)) : Option (Bool × (List (Int × Int × Int × Int × Int × List Int × List Int))) :=
(Option.bind (S.LatOk a1 a2) fun r5 =>
(bif (!r5) then
(some (false, []))
else
(Option.bind (S.l15Fits a1 a2 a3) fun r6 =>
(bif (!r6) then
(some (false, []))
else
(Option.bind (S.l15Fits a1 a2 a4) fun r7 =>
(bif (!r7) then
(some (false, []))
else
(S.BothOf_l0 fu (fun y44 =>
(some (true, y44))) 0 a1 a3 a4 [] a2)))))))
noncomputable def H31_8 : LoopH := ⟨⟨((.one (.unk)) :: (.one (.sl 0)) :: (.one (.sl 1)) :: (.one (.ptr 0 0)) :: (hu 4 ((.one (.sl 2)) :: hh :: hh :: (hu 87 [])))), [(51, [.hole, .sl 3])], [(68, (.pair (.int .i64) (.pair (.int .i64) (.pair (.int .i64) (.pair (.int .i64) (.pair (.int .i64) (.pair (.int .i64) (.pair (.sl 3 (.int .i64)) .bool))))))), .ro), (68, (.pair (.int .i64) (.pair (.int .i64) (.pair (.int .i64) (.pair (.int .i64) (.pair (.int .i64) (.pair (.int .i64) (.pair (.sl 3 (.int .i64)) .bool))))))), .ro), (164, (.pair (.int .i64) (.pair (.int .i64) (.pair (.int .i64) (.pair (.int .i64) (.pair (.int .i64) (.pair (.sl 3 (.int .i64)) (.sl 3 (.int .i64)))))))), .own), (117, (.int .u64), .ro)]⟩, [0, 4, 5, 6, 7, 11, 12, 13, 14, 15, 16, 17, 18, 19, 20, 21, 22, 23, 24, 25, 26, 27, 28, 29, 30, 31, 32, 33, 34, 35, 36, 37, 38, 39, 40, 41, 42, 43, 44, 45, 46, 47, 48, 49, 50, 51, 52, 53, 54, 55, 56, 57, 58, 59, 60, 61, 62, 63, 64, 65, 66, 67, 68, 69, 70, 71, 72, 73, 74, 75, 76, 77, 78, 79, 80, 81, 82, 83, 84, 85, 86, 87, 88, 89, 90, 91, 92, 93, 94, 95, 96, 97], [], [0, 4, 5, 10, 11, 12, 13, 14, 15, 16, 17, 18, 19, 20, 21, 22, 23, 24, 25, 26, 27, 28, 29, 30, 31, 32, 33, 34, 35, 36, 37, 38, 39, 40, 41, 42, 43, 44, 45, 46, 47, 48, 49, 50, 51, 52, 53, 54, 55, 56, 57, 58, 59, 60, 61, 62, 63, 64, 65, 66, 67, 68, 69, 70, 71, 72, 73, 74, 75, 76, 77, 78, 79, 80, 81, 82, 83, 84, 85, 86, 87, 88, 89, 90, 91, 92, 93, 94, 95, 96, 97]⟩
noncomputable def E31_8 (m : Nat) (ps : List Prm) (k : Kont (Bool × (List (Int × Int × Int × Int × Int × List Int × List Int)))) : Option (Bool × (List (Int × Int × Int × Int × Int × List Int × List Int))) :=
  match ps with
  | [.v (.int .i64 a16), .v (.int .i64 a17), .v (.int .i64 a18), .row (.pair (.int .i64) (.pair (.int .i64) (.pair (.int .i64) (.pair (.int .i64) (.pair (.int .i64) (.pair (.int .i64) (.pair (.sl 3 (.int .i64)) .bool))))))) a19, .row (.pair (.int .i64) (.pair (.int .i64) (.pair (.int .i64) (.pair (.int .i64) (.pair (.int .i64) (.pair (.int .i64) (.pair (.sl 3 (.int .i64)) .bool))))))) a20, .row (.pair (.int .i64) (.pair (.int .i64) (.pair (.int .i64) (.pair (.int .i64) (.pair (.int .i64) (.pair (.sl 3 (.int .i64)) (.sl 3 (.int .i64)))))))) a21, .row (.int .u64) a22] => S.BothOf_l1 m (fun z52 z53 z54 z55 z56 z57 => k (.exit 2) (⟨((.s1 (.one (.unk))) :: (vl 0) :: (vl 1) :: (vp 0 0) :: (vu 4 ((vl 2) :: (vi z52) :: (vu 88 [])))), [(51, [ai z53, .sl 3])], [⟨68, (.pair (.int .i64) (.pair (.int .i64) (.pair (.int .i64) (.pair (.int .i64) (.pair (.int .i64) (.pair (.int .i64) (.pair (.sl 3 (.int .i64)) .bool))))))), z54, .ro⟩, ⟨68, (.pair (.int .i64) (.pair (.int .i64) (.pair (.int .i64) (.pair (.int .i64) (.pair (.int .i64) (.pair (.int .i64) (.pair (.sl 3 (.int .i64)) .bool))))))), z55, .ro⟩, ⟨164, (.pair (.int .i64) (.pair (.int .i64) (.pair (.int .i64) (.pair (.int .i64) (.pair (.int .i64) (.pair (.sl 3 (.int .i64)) (.sl 3 (.int .i64)))))))), z56, .own⟩, ⟨117, (.int .u64), z57, .ro⟩]⟩ : St)) a16 a17 a18 a19 a20 a21 a22
  | _ => none
noncomputable def S31_8 (a16 a17 a18 : Int) (a19 a20 : List (Int × Int × Int × Int × Int × Int × List Int × Bool)) (a21 : List (Int × Int × Int × Int × Int × List Int × List Int)) (a22 : List Int) : St := (⟨((.s1 (.one (.unk))) :: (vl 0) :: (vl 1) :: (vp 0 0) :: (vu 4 ((vl 2) :: (vi a16) :: (vi a17) :: (vu 87 [])))), [(51, [ai a18, .sl 3])], [⟨68, (.pair (.int .i64) (.pair (.int .i64) (.pair (.int .i64) (.pair (.int .i64) (.pair (.int .i64) (.pair (.int .i64) (.pair (.sl 3 (.int .i64)) .bool))))))), a19, .ro⟩, ⟨68, (.pair (.int .i64) (.pair (.int .i64) (.pair (.int .i64) (.pair (.int .i64) (.pair (.int .i64) (.pair (.int .i64) (.pair (.sl 3 (.int .i64)) .bool))))))), a20, .ro⟩, ⟨164, (.pair (.int .i64) (.pair (.int .i64) (.pair (.int .i64) (.pair (.int .i64) (.pair (.int .i64) (.pair (.sl 3 (.int .i64)) (.sl 3 (.int .i64)))))))), a21, .own⟩, ⟨117, (.int .u64), a22, .ro⟩]⟩ : St)
theorem ev31_8 (m : Nat) (k : Kont (Bool × (List (Int × Int × Int × Int × Int × List Int × List Int)))) (a16 a17 a18 : Int) (a19 a20 : List (Int × Int × Int × Int × Int × Int × List Int × Bool)) (a21 : List (Int × Int × Int × Int × Int × List Int × List Int)) (a22 : List Int) : evC Try.prog G31 loopNil c31_8 (S31_8 a16 a17 a18 a19 a20 a21 a22) (turn Try.prog (0, 0) H31_8 (E31_8 m) k) = E31_8 (m + 1) [.v (.int .i64 a16), .v (.int .i64 a17), .v (.int .i64 a18), .row (.pair (.int .i64) (.pair (.int .i64) (.pair (.int .i64) (.pair (.int .i64) (.pair (.int .i64) (.pair (.int .i64) (.pair (.sl 3 (.int .i64)) .bool))))))) a19, .row (.pair (.int .i64) (.pair (.int .i64) (.pair (.int .i64) (.pair (.int .i64) (.pair (.int .i64) (.pair (.int .i64) (.pair (.sl 3 (.int .i64)) .bool))))))) a20, .row (.pair (.int .i64) (.pair (.int .i64) (.pair (.int .i64) (.pair (.int .i64) (.pair (.int .i64) (.pair (.sl 3 (.int .i64)) (.sl 3 (.int .i64)))))))) a21, .row (.int .u64) a22] k := by kernel_rfl
theorem ok31_8 (m : Nat) : LoopOk Try.prog (0, 0) c31_8 (enter Try.prog (0, 0) H31_8 (E31_8 m)) := by
  refine loop_ok (G := G31) (L := loopNil) (envCons_good good103 (envCons_good good104 (envCons_good good105 envNil_good))) (by intro x hx; simp [show loopsOf c31_8 = [] from by kernel_rfl] at hx) (fun ps k => by unfold E31_8; split <;> rfl) (fun m ps k r h => ?_) m
  have h0 := h
  unfold E31_8 at h
  split at h
  · exact ⟨S31_8 _ _ _ _ _ _ _, by kernel_rfl, (ev31_8 m k _ _ _ _ _ _ _).trans h0⟩
  · cases h
noncomputable def L31_5 : LEnv (Bool × (List (Int × Int × Int × Int × Int × List Int × List Int))) := (loopCons 8 (enter Try.prog (0, 0) H31_8 (E31_8 fu)) loopNil)
theorem lq31_5 : loopsOf c31_5 = [c31_8] := by kernel_rfl
theorem fr31_8 : firstReg c31_8 = some 8 := by kernel_rfl
theorem le31_8 : L31_5 8 = enter Try.prog (0, 0) H31_8 (E31_8 fu) := by kernel_rfl
theorem lm31_5 : ∀ x ∈ [c31_8], ∀ id, firstReg x = some id → LoopOk Try.prog (0, 0) x (L31_5 id) := (loops_cons fr31_8 le31_8 (ok31_8 fu) loops_nil)
theorem lp31_5 : ∀ x ∈ loopsOf c31_5, ∀ id, firstReg x = some id → LoopOk Try.prog (0, 0) x (L31_5 id) := loops_eq lq31_5 lm31_5
noncomputable def H31_5 : LoopH := ⟨⟨((.one (.unk)) :: (.one (.sl 0)) :: (.one (.sl 1)) :: (.one (.ptr 0 0)) :: (hu 4 ((.one (.sl 2)) :: hh :: (hu 88 [])))), [(51, [.hole, .sl 3])], [(68, (.pair (.int .i64) (.pair (.int .i64) (.pair (.int .i64) (.pair (.int .i64) (.pair (.int .i64) (.pair (.int .i64) (.pair (.sl 3 (.int .i64)) .bool))))))), .ro), (68, (.pair (.int .i64) (.pair (.int .i64) (.pair (.int .i64) (.pair (.int .i64) (.pair (.int .i64) (.pair (.int .i64) (.pair (.sl 3 (.int .i64)) .bool))))))), .ro), (164, (.pair (.int .i64) (.pair (.int .i64) (.pair (.int .i64) (.pair (.int .i64) (.pair (.int .i64) (.pair (.sl 3 (.int .i64)) (.sl 3 (.int .i64)))))))), .own), (117, (.int .u64), .ro)]⟩, [0, 4, 5, 6, 7, 10, 11, 12, 13, 14, 15, 16, 17, 18, 19, 20, 21, 22, 23, 24, 25, 26, 27, 28, 29, 30, 31, 32, 33, 34, 35, 36, 37, 38, 39, 40, 41, 42, 43, 44, 45, 46, 47, 48, 49, 50, 51, 52, 53, 54, 55, 56, 57, 58, 59, 60, 61, 62, 63, 64, 65, 66, 67, 68, 69, 70, 71, 72, 73, 74, 75, 76, 77, 78, 79, 80, 81, 82, 83, 84, 85, 86, 87, 88, 89, 90, 91, 92, 93, 94, 95, 96, 97], [], [0, 1, 2, 3, 4, 5, 9, 10, 11, 12, 13, 14, 15, 16, 17, 18, 19, 20, 21, 22, 23, 24, 25, 26, 27, 28, 29, 30, 31, 32, 33, 34, 35, 36, 37, 38, 39, 40, 41, 42, 43, 44, 45, 46, 47, 48, 49, 50, 51, 52, 53, 54, 55, 56, 57, 58, 59, 60, 61, 62, 63, 64, 65, 66, 67, 68, 69, 70, 71, 72, 73, 74, 75, 76, 77, 78, 79, 80, 81, 82, 83, 84, 85, 86, 87, 88, 89, 90, 91, 92, 93, 94, 95, 96, 97]⟩
noncomputable def E31_5 (m : Nat) (ps : List Prm) (k : Kont (Bool × (List (Int × Int × Int × Int × Int × List Int × List Int)))) : Option (Bool × (List (Int × Int × Int × Int × Int × List Int × List Int))) :=
  match ps with
  | [.v (.int .i64 a8), .v (.int .i64 a9), .row (.pair (.int .i64) (.pair (.int .i64) (.pair (.int .i64) (.pair (.int .i64) (.pair (.int .i64) (.pair (.int .i64) (.pair (.sl 3 (.int .i64)) .bool))))))) a10, .row (.pair (.int .i64) (.pair (.int .i64) (.pair (.int .i64) (.pair (.int .i64) (.pair (.int .i64) (.pair (.int .i64) (.pair (.sl 3 (.int .i64)) .bool))))))) a11, .row (.pair (.int .i64) (.pair (.int .i64) (.pair (.int .i64) (.pair (.int .i64) (.pair (.int .i64) (.pair (.sl 3 (.int .i64)) (.sl 3 (.int .i64)))))))) a12, .row (.int .u64) a13] => S.BothOf_l0 m (fun z58 => k (.exit 0) (⟨(vu 8 ((vl 0) :: (vu 89 []))), [], [⟨164, (.pair (.int .i64) (.pair (.int .i64) (.pair (.int .i64) (.pair (.int .i64) (.pair (.int .i64) (.pair (.sl 3 (.int .i64)) (.sl 3 (.int .i64)))))))), z58, .own⟩]⟩ : St)) a8 a9 a10 a11 a12 a13
  | _ => none
noncomputable def S31_5 (a8 a9 : Int) (a10 a11 : List (Int × Int × Int × Int × Int × Int × List Int × Bool)) (a12 : List (Int × Int × Int × Int × Int × List Int × List Int)) (a13 : List Int) : St := (⟨((.s1 (.one (.unk))) :: (vl 0) :: (vl 1) :: (vp 0 0) :: (vu 4 ((vl 2) :: (vi a8) :: (vu 88 [])))), [(51, [ai a9, .sl 3])], [⟨68, (.pair (.int .i64) (.pair (.int .i64) (.pair (.int .i64) (.pair (.int .i64) (.pair (.int .i64) (.pair (.int .i64) (.pair (.sl 3 (.int .i64)) .bool))))))), a10, .ro⟩, ⟨68, (.pair (.int .i64) (.pair (.int .i64) (.pair (.int .i64) (.pair (.int .i64) (.pair (.int .i64) (.pair (.int .i64) (.pair (.sl 3 (.int .i64)) .bool))))))), a11, .ro⟩, ⟨164, (.pair (.int .i64) (.pair (.int .i64) (.pair (.int .i64) (.pair (.int .i64) (.pair (.int .i64) (.pair (.sl 3 (.int .i64)) (.sl 3 (.int .i64)))))))), a12, .own⟩, ⟨117, (.int .u64), a13, .ro⟩]⟩ : St)
theorem ev31_5 (m : Nat) (k : Kont (Bool × (List (Int × Int × Int × Int × Int × List Int × List Int)))) (a8 a9 : Int) (a10 a11 : List (Int × Int × Int × Int × Int × Int × List Int × Bool)) (a12 : List (Int × Int × Int × Int × Int × List Int × List Int)) (a13 : List Int) : evC Try.prog G31 L31_5 c31_5 (S31_5 a8 a9 a10 a11 a12 a13) (turn Try.prog (0, 0) H31_5 (E31_5 m) k) = E31_5 (m + 1) [.v (.int .i64 a8), .v (.int .i64 a9), .row (.pair (.int .i64) (.pair (.int .i64) (.pair (.int .i64) (.pair (.int .i64) (.pair (.int .i64) (.pair (.int .i64) (.pair (.sl 3 (.int .i64)) .bool))))))) a10, .row (.pair (.int .i64) (.pair (.int .i64) (.pair (.int .i64) (.pair (.int .i64) (.pair (.int .i64) (.pair (.int .i64) (.pair (.sl 3 (.int .i64)) .bool))))))) a11, .row (.pair (.int .i64) (.pair (.int .i64) (.pair (.int .i64) (.pair (.int .i64) (.pair (.int .i64) (.pair (.sl 3 (.int .i64)) (.sl 3 (.int .i64)))))))) a12, .row (.int .u64) a13] k := by kernel_rfl
theorem ok31_5 (m : Nat) : LoopOk Try.prog (0, 0) c31_5 (enter Try.prog (0, 0) H31_5 (E31_5 m)) := by
  refine loop_ok (G := G31) (L := L31_5) (envCons_good good103 (envCons_good good104 (envCons_good good105 envNil_good))) lp31_5 (fun ps k => by unfold E31_5; split <;> rfl) (fun m ps k r h => ?_) m
  have h0 := h
  unfold E31_5 at h
  split at h
  · exact ⟨S31_5 _ _ _ _ _ _, by kernel_rfl, (ev31_5 m k _ _ _ _ _ _).trans h0⟩
  · cases h
noncomputable def L31 : LEnv (Bool × (List (Int × Int × Int × Int × Int × List Int × List Int))) := (loopCons 5 (enter Try.prog (0, 0) H31_5 (E31_5 fu)) loopNil)
theorem lq31 : loopsOf c31 = [c31_5] := by kernel_rfl
theorem fr31_5 : firstReg c31_5 = some 5 := by kernel_rfl
theorem le31_5 : L31 5 = enter Try.prog (0, 0) H31_5 (E31_5 fu) := by kernel_rfl
theorem lm31 : ∀ x ∈ [c31_5], ∀ id, firstReg x = some id → LoopOk Try.prog (0, 0) x (L31 id) := (loops_cons fr31_5 le31_5 (ok31_5 fu) loops_nil)
theorem lp31 : ∀ x ∈ loopsOf c31, ∀ id, firstReg x = some id → LoopOk Try.prog (0, 0) x (L31 id) := loops_eq lq31 lm31
noncomputable def R31 (x : Bool × (List (Int × Int × Int × Int × Int × List Int × List Int))) : Res := ⟨[.one (.sl 0), .one (ab x.1)], [], [⟨164, (.pair (.int .i64) (.pair (.int .i64) (.pair (.int .i64) (.pair (.int .i64) (.pair (.int .i64) (.pair (.sl 3 (.int .i64)) (.sl 3 (.int .i64)))))))), x.2, .own⟩]⟩
noncomputable def K31 (r : Res) : Option (Bool × (List (Int × Int × Int × Int × Int × List Int × List Int))) :=
  match r with
  | ⟨[.one (.sl 0), .one (.val (.bool v1))], [], [⟨164, (.pair (.int .i64) (.pair (.int .i64) (.pair (.int .i64) (.pair (.int .i64) (.pair (.int .i64) (.pair (.sl 3 (.int .i64)) (.sl 3 (.int .i64)))))))), v2, .own⟩]⟩ => some (v1, v2)
  | _ => none
noncomputable def E31 : Fun2 := fun args bs rs =>
  match args, bs, rs with
  | [.s1 (.agg [.val (.int .i64 a1), .sl 0]), .s1 (.one (.sl 1)), .s1 (.one (.sl 2))], [], [⟨117, (.int .u64), a2, .ro⟩, ⟨68, (.pair (.int .i64) (.pair (.int .i64) (.pair (.int .i64) (.pair (.int .i64) (.pair (.int .i64) (.pair (.int .i64) (.pair (.sl 3 (.int .i64)) .bool))))))), a3, .ro⟩, ⟨68, (.pair (.int .i64) (.pair (.int .i64) (.pair (.int .i64) (.pair (.int .i64) (.pair (.int .i64) (.pair (.int .i64) (.pair (.sl 3 (.int .i64)) .bool))))))), a4, .ro⟩] => some ⟨Bool × (List (Int × Int × Int × Int × Int × List Int × List Int)), S.BothOf a1 a2 a3 a4, R31⟩
  | _, _, _ => none
theorem ev31 (a1 : Int) (a2 : List Int) (a3 a4 : List (Int × Int × Int × Int × Int × Int × List Int × Bool)) : evF Try.prog G31 L31 (0, 0) [] Try.f31 c31 [.s1 (.agg [ai a1, .sl 0]), vl 1, vl 2] [] [⟨117, (.int .u64), a2, .ro⟩, ⟨68, (.pair (.int .i64) (.pair (.int .i64) (.pair (.int .i64) (.pair (.int .i64) (.pair (.int .i64) (.pair (.int .i64) (.pair (.sl 3 (.int .i64)) .bool))))))), a3, .ro⟩, ⟨68, (.pair (.int .i64) (.pair (.int .i64) (.pair (.int .i64) (.pair (.int .i64) (.pair (.int .i64) (.pair (.int .i64) (.pair (.sl 3 (.int .i64)) .bool))))))), a4, .ro⟩] K31 = S.BothOf a1 a2 a3 a4 := by kernel_rfl
theorem good31 : Vm.Good Try.prog 31 E31 := by
  refine evF_good (G := G31) (c := c31) (envCons_good good103 (envCons_good good104 (envCons_good good105 envNil_good))) Try.func31 (by kernel_rfl) (by kernel_rfl) (0, 0) (fun args bs rs out t h h2 => ?_)
  unfold E31 at h
  split at h
  · injection h with h
    subst h
    exact ⟨rfl, [], L31, K31, lp31, (fun r t h => by unfold K31 at h; split at h; (injection h with h; subst h; rfl); cases h), (ev31 _ _ _ _).trans h2⟩
  · cases h
/-! ### I.in -/
noncomputable def G178 : Env := envNil
noncomputable def c178 : Code := bodyOf Try.f178
noncomputable def I.in (a1 a2 a3 : Int) : Option Bool :=
(bif (decide (a2 ≤ a1)) then
(some (decide (a1 ≤ a3)))
else
(some false))
noncomputable def R178 (x : Bool) : Res := ⟨[.one (ab x)], [], []⟩
noncomputable def K178 (r : Res) : Option Bool :=
  match r with
  | ⟨[.one (.val (.bool v1))], [], []⟩ => some (v1)
  | _ => none
noncomputable def E178 : Fun2 := fun args bs rs =>
  match args, bs, rs with
  | [.s1 (.one (.val (.int .i64 a1))), .s1 (.one (.val (.int .i64 a2))), .s1 (.one (.val (.int .i64 a3)))], [], [] => some ⟨Bool, I.in a1 a2 a3, R178⟩
  | _, _, _ => none
theorem ev178 (a1 a2 a3 : Int) : evF Try.prog G178 loopNil (0, 0) [] Try.f178 c178 [vi a1, vi a2, vi a3] [] [] K178 = I.in a1 a2 a3 := by kernel_rfl
theorem good178 : Vm.Good Try.prog 178 E178 := by
  refine evF_good (G := G178) (c := c178) envNil_good Try.func178 (by kernel_rfl) (by kernel_rfl) (0, 0) (fun args bs rs out t h h2 => ?_)
  unfold E178 at h
  split at h
  · injection h with h
    subst h
    exact ⟨rfl, [], loopNil, K178, (by intro x hx; simp [show loopsOf c178 = [] from by kernel_rfl] at hx), (fun r t h => by unfold K178 at h; split at h; (injection h with h; subst h; rfl); cases h), (ev178 _ _ _).trans h2⟩
  · cases h
/-! ### I.Lat_le -/
noncomputable def G146 : Env := envNil
noncomputable def c146 : Code := bodyOf Try.f146
noncomputable def I.Lat_le (a1 a2 a3 : Int) (a4 : List Int) : Option Bool :=
(bif decide ((0 : Int) ≤ a2 ∧ a2 < (a4.length : Int)) then
(bif decide ((0 : Int) ≤ a3) then
(let v5 : Int := (Int.fdiv (nthI a4 a2 (0 : Int)) (2 ^ min (Int.toNat a3) (IntKind.bits .u64)))
(some ((Go.bits .and .u64 v5 1) == 1)))
else
none)
else
none)
noncomputable def R146 (x : Bool) : Res := ⟨[.one (ab x)], [], []⟩
noncomputable def K146 (r : Res) : Option Bool :=
  match r with
  | ⟨[.one (.val (.bool v1))], [], []⟩ => some (v1)
  | _ => none
noncomputable def E146 : Fun2 := fun args bs rs =>
  match args, bs, rs with
  | [.s1 (.agg [.val (.int .i64 a1), .sl 0]), .s1 (.one (.val (.int .i64 a2))), .s1 (.one (.val (.int .i64 a3)))], [], [⟨117, (.int .u64), a4, .ro⟩] => some ⟨Bool, I.Lat_le a1 a2 a3 a4, R146⟩
  | _, _, _ => none
theorem ev146 (a1 a2 a3 : Int) (a4 : List Int) : evF Try.prog G146 loopNil (0, 0) [] Try.f146 c146 [.s1 (.agg [ai a1, .sl 0]), vi a2, vi a3] [] [⟨117, (.int .u64), a4, .ro⟩] K146 = I.Lat_le a1 a2 a3 a4 := by kernel_rfl
theorem good146 : Vm.Good Try.prog 146 E146 := by
  refine evF_good (G := G146) (c := c146) envNil_good Try.func146 (by kernel_rfl) (by kernel_rfl) (0, 0) (fun args bs rs out t h h2 => ?_)
  unfold E146 at h
  split at h
  · injection h with h
    subst h
    exact ⟨rfl, [], loopNil, K146, (by intro x hx; simp [show loopsOf c146 = [] from by kernel_rfl] at hx), (fun r t h => by unfold K146 at h; split at h; (injection h with h; subst h; rfl); cases h), (ev146 _ _ _ _).trans h2⟩
  · cases h
/-! ### I.Lat_isOrder -/
noncomputable def G184 : Env := (envCons 146 [] E146 envNil)
noncomputable def c184 : Code := bodyOf Try.f184
noncomputable def c184_2 : Code := (loopsOf c184).getD 0 .skip
noncomputable def c184_7 : Code := (loopsOf c184_2).getD 0 .skip
noncomputable def c184_12 : Code := (loopsOf c184_7).getD 0 .skip
noncomputable def I.Lat_isOrder_l2 : Nat → (Bool → Int → Int → Int → Int → Int → Int → List Int → Option Bool) → (Int → Int → Int → Int → Int → Int → List Int → Option Bool) → Int → Int → Int → Int → Int → Int → Int → Int → Int → List Int → Option Bool
  | 0, _, _, _, _, _, _, _, _, _, _, _, _ => none
  | m + 1, e12_0, e12_1, a19, a20, a21, a22, a23, a24, a25, a26, a27, a28 =>
    (bif (decide (a26 < a25)) then
    (Option.bind (I.Lat_le a27 a19 a20 a28) fun r30 =>
    (bif r30 then
    (Option.bind (I.Lat_le a27 a20 a26 a28) fun r31 =>
    (bif r31 then
    (Option.bind (I.Lat_le a27 a19 a26 a28) fun r32 =>
    (bif (!r32) then
    (e12_0 false a19 a21 a22 a23 a24 a27 a28)
    else
    (I.Lat_isOrder_l2 m e12_0 e12_1 a19 a20 a21 a22 a23 a24 a25 (IntKind.wrap .i64 (a26 + 1)) a27 a28)))
    else
    (I.Lat_isOrder_l2 m e12_0 e12_1 a19 a20 a21 a22 a23 a24 a25 (IntKind.wrap .i64 (a26 + 1)) a27 a28)))
    else
    (I.Lat_isOrder_l2 m e12_0 e12_1 a19 a20 a21 a22 a23 a24 a25 (IntKind.wrap .i64 (a26 + 1)) a27 a28)))
    else
    (e12_1 a19 a21 a22 a23 a24 a27 a28))
noncomputable def I.Lat_isOrder_l1 : Nat → (Bool → Int → Int → Int → List Int → Option Bool) → (Int → Int → Int → List Int → Option Bool) → Int → Int → Int → Int → Int → Int → List Int → Option Bool
  | 0, _, _, _, _, _, _, _, _, _ => none
  | m + 1, e7_0, e7_1, a9, a10, a11, a12, a13, a14, a15 =>
    (bif (decide (a13 < a12)) then
    (bif (a9 != a13) then
    (Option.bind (I.Lat_le a14 a9 a13 a15) fun r17 =>
    (bif r17 then
    (Option.bind (I.Lat_le a14 a13 a9 a15) fun r18 =>
    (bif r18 then
    (e7_0 false a10 a11 a14 a15)
    else
    (I.Lat_isOrder_l2 fu (fun y36 y37 y38 y39 y40 y41 y42 y43 =>
    (e7_0 y36 y38 y39 y42 y43)) (fun y44 y45 y46 y47 y48 y49 y50 =>
    (I.Lat_isOrder_l1 m e7_0 e7_1 y44 y45 y46 y47 (IntKind.wrap .i64 (y48 + 1)) y49 y50)) a9 a13 a10 a11 a12 a13 a14 0 a14 a15)))
    else
    (I.Lat_isOrder_l2 fu (fun y52 y53 y54 y55 y56 y57 y58 y59 =>
    (e7_0 y52 y54 y55 y58 y59)) (fun y60 y61 y62 y63 y64 y65 y66 =>
    (I.Lat_isOrder_l1 m e7_0 e7_1 y60 y61 y62 y63 (IntKind.wrap .i64 (y64 + 1)) y65 y66)) a9 a13 a10 a11 a12 a13 a14 0 a14 a15)))
    else
    (I.Lat_isOrder_l2 fu (fun y68 y69 y70 y71 y72 y73 y74 y75 =>
    (e7_0 y68 y70 y71 y74 y75)) (fun y76 y77 y78 y79 y80 y81 y82 =>
    (I.Lat_isOrder_l1 m e7_0 e7_1 y76 y77 y78 y79 (IntKind.wrap .i64 (y80 + 1)) y81 y82)) a9 a13 a10 a11 a12 a13 a14 0 a14 a15))
    else
    (e7_1 a10 a11 a14 a15))
noncomputable def I.Lat_isOrder_l0 : Nat → (Bool → Option Bool) → (Option Bool) → Int → Int → Int → List Int → Option Bool
  | 0, _, _, _, _, _, _ => none
  | m + 1, e2_0, e2_1, a3, a4, a5, a6 =>
    (bif (decide (a4 < a3)) then
    (Option.bind (I.Lat_le a5 a4 a4 a6) fun r8 =>
    (bif (!r8) then
    (e2_0 false)
    else
    (I.Lat_isOrder_l1 fu (fun y84 y85 y86 y87 y88 =>
    (e2_0 y84)) (fun y89 y90 y91 y92 =>
    (I.Lat_isOrder_l0 m e2_0 e2_1 y89 (IntKind.wrap .i64 (y90 + 1)) y91 y92)) a4 a3 a4 a5 0 a5 a6)))
    else
    e2_1)
noncomputable def I.Lat_isOrder (a1 : Int) (a2 : List Int) : Option Bool :=
(I.Lat_isOrder_l0 fu (fun y94 =>
(some y94)) (some true) a1 0 a1 a2)
noncomputable def H184_12 : LoopH := ⟨⟨((.one (.unk)) :: (.one (.ptr 0 0)) :: (.one (.unk)) :: hh :: hh :: (hu 2 (hh :: hh :: (hu 8 (hh :: hh :: (hu 18 (hh :: hh :: (hu 22 [])))))))), [(51, [.hole, .sl 0])], [(117, (.int .u64), .ro)]⟩, [0, 2, 5, 6, 9, 10, 11, 12, 13, 14, 15, 16, 19, 20, 21, 22, 23, 24, 25, 26, 27, 28, 29, 30, 31, 32, 33, 34, 35, 36, 39, 40, 41, 42, 43, 44, 45, 46, 47, 48, 49, 50, 51, 52, 53, 54, 55, 56, 57, 58, 59, 60], [], [0, 4, 5, 6, 9, 10, 11, 12, 13, 14, 15, 16, 19, 20, 21, 22, 23, 24, 25, 26, 27, 28, 29, 30, 31, 32, 33, 34, 35, 36, 37, 38, 39, 40, 41, 42, 43, 44, 45, 46, 47, 48, 49, 50, 51, 52, 53, 54, 55, 56, 57, 58, 59, 60]⟩
noncomputable def E184_12 (m : Nat) (ps : List Prm) (k : Kont Bool) : Option Bool :=
  match ps with
  | [.v (.int .i64 a19), .v (.int .i64 a20), .v (.int .i64 a21), .v (.int .i64 a22), .v (.int .i64 a23), .v (.int .i64 a24), .v (.int .i64 a25), .v (.int .i64 a26), .v (.int .i64 a27), .row (.int .u64) a28] => I.Lat_isOrder_l2 m (fun z120 z121 z122 z123 z124 z125 z126 z127 => k .ret (⟨((.s1 (.one (.unk))) :: (vp 0 0) :: (vb z120) :: (vi z121) :: (vu 3 ((vi z122) :: (vi z123) :: (vu 8 ((vi z124) :: (vi z125) :: (vu 42 [])))))), [(51, [ai z126, .sl 0])], [⟨117, (.int .u64), z127, .ro⟩]⟩ : St)) (fun z128 z129 z130 z131 z132 z133 z134 => k (.exit 4) (⟨((.s1 (.one (.unk))) :: (vp 0 0) :: (.s1 (.one (.unk))) :: (vi z128) :: (vu 3 ((vi z129) :: (vi z130) :: (vu 8 ((vi z131) :: (vi z132) :: (vu 42 [])))))), [(51, [ai z133, .sl 0])], [⟨117, (.int .u64), z134, .ro⟩]⟩ : St)) a19 a20 a21 a22 a23 a24 a25 a26 a27 a28
  | _ => none
noncomputable def S184_12 (a19 a20 a21 a22 a23 a24 a25 a26 a27 : Int) (a28 : List Int) : St := (⟨((.s1 (.one (.unk))) :: (vp 0 0) :: (.s1 (.one (.unk))) :: (vi a19) :: (vi a20) :: (vu 2 ((vi a21) :: (vi a22) :: (vu 8 ((vi a23) :: (vi a24) :: (vu 18 ((vi a25) :: (vi a26) :: (vu 22 [])))))))), [(51, [ai a27, .sl 0])], [⟨117, (.int .u64), a28, .ro⟩]⟩ : St)
theorem ev184_12 (m : Nat) (k : Kont Bool) (a19 a20 a21 a22 a23 a24 a25 a26 a27 : Int) (a28 : List Int) : evC Try.prog G184 loopNil c184_12 (S184_12 a19 a20 a21 a22 a23 a24 a25 a26 a27 a28) (turn Try.prog (0, 0) H184_12 (E184_12 m) k) = E184_12 (m + 1) [.v (.int .i64 a19), .v (.int .i64 a20), .v (.int .i64 a21), .v (.int .i64 a22), .v (.int .i64 a23), .v (.int .i64 a24), .v (.int .i64 a25), .v (.int .i64 a26), .v (.int .i64 a27), .row (.int .u64) a28] k := by kernel_rfl
theorem ok184_12 (m : Nat) : LoopOk Try.prog (0, 0) c184_12 (enter Try.prog (0, 0) H184_12 (E184_12 m)) := by
  refine loop_ok (G := G184) (L := loopNil) (envCons_good good146 envNil_good) (by intro x hx; simp [show loopsOf c184_12 = [] from by kernel_rfl] at hx) (fun ps k => by unfold E184_12; split <;> rfl) (fun m ps k r h => ?_) m
  have h0 := h
  unfold E184_12 at h
  split at h
  · exact ⟨S184_12 _ _ _ _ _ _ _ _ _ _, by kernel_rfl, (ev184_12 m k _ _ _ _ _ _ _ _ _ _).trans h0⟩
  · cases h
noncomputable def L184_7 : LEnv Bool := (loopCons 12 (enter Try.prog (0, 0) H184_12 (E184_12 fu)) loopNil)
theorem lq184_7 : loopsOf c184_7 = [c184_12] := by kernel_rfl
theorem fr184_12 : firstReg c184_12 = some 12 := by kernel_rfl
theorem le184_12 : L184_7 12 = enter Try.prog (0, 0) H184_12 (E184_12 fu) := by kernel_rfl
theorem lm184_7 : ∀ x ∈ [c184_12], ∀ id, firstReg x = some id → LoopOk Try.prog (0, 0) x (L184_7 id) := (loops_cons fr184_12 le184_12 (ok184_12 fu) loops_nil)
theorem lp184_7 : ∀ x ∈ loopsOf c184_7, ∀ id, firstReg x = some id → LoopOk Try.prog (0, 0) x (L184_7 id) := loops_eq lq184_7 lm184_7
noncomputable def H184_7 : LoopH := ⟨⟨((.one (.unk)) :: (.one (.ptr 0 0)) :: (.one (.unk)) :: hh :: (hu 3 (hh :: hh :: (hu 8 (hh :: hh :: (hu 42 [])))))), [(51, [.hole, .sl 0])], [(117, (.int .u64), .ro)]⟩, [0, 2, 4, 5, 6, 9, 10, 11, 12, 13, 14, 15, 16, 19, 20, 21, 22, 23, 24, 25, 26, 27, 28, 29, 30, 31, 32, 33, 34, 35, 36, 37, 38, 39, 40, 41, 42, 43, 44, 45, 46, 47, 48, 49, 50, 51, 52, 53, 54, 55, 56, 57, 58, 59, 60], [], [0, 3, 4, 5, 6, 9, 10, 11, 12, 13, 14, 15, 16, 17, 18, 19, 20, 21, 22, 23, 24, 25, 26, 27, 28, 29, 30, 31, 32, 33, 34, 35, 36, 37, 38, 39, 40, 41, 42, 43, 44, 45, 46, 47, 48, 49, 50, 51, 52, 53, 54, 55, 56, 57, 58, 59, 60]⟩
noncomputable def E184_7 (m : Nat) (ps : List Prm) (k : Kont Bool) : Option Bool :=
  match ps with
  | [.v (.int .i64 a9), .v (.int .i64 a10), .v (.int .i64 a11), .v (.int .i64 a12), .v (.int .i64 a13), .v (.int .i64 a14), .row (.int .u64) a15] => I.Lat_isOrder_l1 m (fun z135 z136 z137 z138 z139 => k .ret (⟨((.s1 (.one (.unk))) :: (vp 0 0) :: (vb z135) :: (vu 4 ((vi z136) :: (vi z137) :: (vu 52 [])))), [(51, [ai z138, .sl 0])], [⟨117, (.int .u64), z139, .ro⟩]⟩ : St)) (fun z140 z141 z142 z143 => k (.exit 2) (⟨((.s1 (.one (.unk))) :: (vp 0 0) :: (vu 5 ((vi z140) :: (vi z141) :: (vu 52 [])))), [(51, [ai z142, .sl 0])], [⟨117, (.int .u64), z143, .ro⟩]⟩ : St)) a9 a10 a11 a12 a13 a14 a15
  | _ => none
noncomputable def S184_7 (a9 a10 a11 a12 a13 a14 : Int) (a15 : List Int) : St := (⟨((.s1 (.one (.unk))) :: (vp 0 0) :: (.s1 (.one (.unk))) :: (vi a9) :: (vu 3 ((vi a10) :: (vi a11) :: (vu 8 ((vi a12) :: (vi a13) :: (vu 42 [])))))), [(51, [ai a14, .sl 0])], [⟨117, (.int .u64), a15, .ro⟩]⟩ : St)
theorem ev184_7 (m : Nat) (k : Kont Bool) (a9 a10 a11 a12 a13 a14 : Int) (a15 : List Int) : evC Try.prog G184 L184_7 c184_7 (S184_7 a9 a10 a11 a12 a13 a14 a15) (turn Try.prog (0, 0) H184_7 (E184_7 m) k) = E184_7 (m + 1) [.v (.int .i64 a9), .v (.int .i64 a10), .v (.int .i64 a11), .v (.int .i64 a12), .v (.int .i64 a13), .v (.int .i64 a14), .row (.int .u64) a15] k := by kernel_rfl
theorem ok184_7 (m : Nat) : LoopOk Try.prog (0, 0) c184_7 (enter Try.prog (0, 0) H184_7 (E184_7 m)) := by
  refine loop_ok (G := G184) (L := L184_7) (envCons_good good146 envNil_good) lp184_7 (fun ps k => by unfold E184_7; split <;> rfl) (fun m ps k r h => ?_) m
  have h0 := h
  unfold E184_7 at h
  split at h
  · exact ⟨S184_7 _ _ _ _ _ _ _, by kernel_rfl, (ev184_7 m k _ _ _ _ _ _ _).trans h0⟩
  · cases h
noncomputable def L184_2 : LEnv Bool := (loopCons 7 (enter Try.prog (0, 0) H184_7 (E184_7 fu)) loopNil)
theorem lq184_2 : loopsOf c184_2 = [c184_7] := by kernel_rfl
theorem fr184_7 : firstReg c184_7 = some 7 := by kernel_rfl
theorem le184_7 : L184_2 7 = enter Try.prog (0, 0) H184_7 (E184_7 fu) := by kernel_rfl
theorem lm184_2 : ∀ x ∈ [c184_7], ∀ id, firstReg x = some id → LoopOk Try.prog (0, 0) x (L184_2 id) := (loops_cons fr184_7 le184_7 (ok184_7 fu) loops_nil)
theorem lp184_2 : ∀ x ∈ loopsOf c184_2, ∀ id, firstReg x = some id → LoopOk Try.prog (0, 0) x (L184_2 id) := loops_eq lq184_2 lm184_2
noncomputable def H184_2 : LoopH := ⟨⟨((.one (.unk)) :: (.one (.ptr 0 0)) :: (hu 5 (hh :: hh :: (hu 52 [])))), [(51, [.hole, .sl 0])], [(117, (.int .u64), .ro)]⟩, [0, 2, 3, 4, 5, 6, 9, 10, 11, 12, 13, 14, 15, 16, 17, 18, 19, 20, 21, 22, 23, 24, 25, 26, 27, 28, 29, 30, 31, 32, 33, 34, 35, 36, 37, 38, 39, 40, 41, 42, 43, 44, 45, 46, 47, 48, 49, 50, 51, 52, 53, 54, 55, 56, 57, 58, 59, 60], [], [0, 1, 3, 4, 5, 6, 7, 8, 9, 10, 11, 12, 13, 14, 15, 16, 17, 18, 19, 20, 21, 22, 23, 24, 25, 26, 27, 28, 29, 30, 31, 32, 33, 34, 35, 36, 37, 38, 39, 40, 41, 42, 43, 44, 45, 46, 47, 48, 49, 50, 51, 52, 53, 54, 55, 56, 57, 58, 59, 60]⟩
noncomputable def E184_2 (m : Nat) (ps : List Prm) (k : Kont Bool) : Option Bool :=
  match ps with
  | [.v (.int .i64 a3), .v (.int .i64 a4), .v (.int .i64 a5), .row (.int .u64) a6] => I.Lat_isOrder_l0 m (fun z144 => k .ret (⟨(vu 2 ((vb z144) :: (vu 58 []))), [], []⟩ : St)) (k (.exit 0) (⟨(vu 61 []), [], []⟩ : St)) a3 a4 a5 a6
  | _ => none
noncomputable def S184_2 (a3 a4 a5 : Int) (a6 : List Int) : St := (⟨((.s1 (.one (.unk))) :: (vp 0 0) :: (vu 5 ((vi a3) :: (vi a4) :: (vu 52 [])))), [(51, [ai a5, .sl 0])], [⟨117, (.int .u64), a6, .ro⟩]⟩ : St)
theorem ev184_2 (m : Nat) (k : Kont Bool) (a3 a4 a5 : Int) (a6 : List Int) : evC Try.prog G184 L184_2 c184_2 (S184_2 a3 a4 a5 a6) (turn Try.prog (0, 0) H184_2 (E184_2 m) k) = E184_2 (m + 1) [.v (.int .i64 a3), .v (.int .i64 a4), .v (.int .i64 a5), .row (.int .u64) a6] k := by kernel_rfl
theorem ok184_2 (m : Nat) : LoopOk Try.prog (0, 0) c184_2 (enter Try.prog (0, 0) H184_2 (E184_2 m)) := by
  refine loop_ok (G := G184) (L := L184_2) (envCons_good good146 envNil_good) lp184_2 (fun ps k => by unfold E184_2; split <;> rfl) (fun m ps k r h => ?_) m
  have h0 := h
  unfold E184_2 at h
  split at h
  · exact ⟨S184_2 _ _ _ _, by kernel_rfl, (ev184_2 m k _ _ _ _).trans h0⟩
  · cases h
noncomputable def L184 : LEnv Bool := (loopCons 2 (enter Try.prog (0, 0) H184_2 (E184_2 fu)) loopNil)
theorem lq184 : loopsOf c184 = [c184_2] := by kernel_rfl
theorem fr184_2 : firstReg c184_2 = some 2 := by kernel_rfl
theorem le184_2 : L184 2 = enter Try.prog (0, 0) H184_2 (E184_2 fu) := by kernel_rfl
theorem lm184 : ∀ x ∈ [c184_2], ∀ id, firstReg x = some id → LoopOk Try.prog (0, 0) x (L184 id) := (loops_cons fr184_2 le184_2 (ok184_2 fu) loops_nil)
theorem lp184 : ∀ x ∈ loopsOf c184, ∀ id, firstReg x = some id → LoopOk Try.prog (0, 0) x (L184 id) := loops_eq lq184 lm184
noncomputable def R184 (x : Bool) : Res := ⟨[.one (ab x)], [], []⟩
noncomputable def K184 (r : Res) : Option Bool :=
  match r with
  | ⟨[.one (.val (.bool v1))], [], []⟩ => some (v1)
  | _ => none
noncomputable def E184 : Fun2 := fun args bs rs =>
  match args, bs, rs with
  | [.s1 (.agg [.val (.int .i64 a1), .sl 0])], [], [⟨117, (.int .u64), a2, .ro⟩] => some ⟨Bool, I.Lat_isOrder a1 a2, R184⟩
  | _, _, _ => none
theorem ev184 (a1 : Int) (a2 : List Int) : evF Try.prog G184 L184 (0, 0) [] Try.f184 c184 [.s1 (.agg [ai a1, .sl 0])] [] [⟨117, (.int .u64), a2, .ro⟩] K184 = I.Lat_isOrder a1 a2 := by kernel_rfl
theorem good184 : Vm.Good Try.prog 184 E184 := by
  refine evF_good (G := G184) (c := c184) (envCons_good good146 envNil_good) Try.func184 (by kernel_rfl) (by kernel_rfl) (0, 0) (fun args bs rs out t h h2 => ?_)
  unfold E184 at h
  split at h
  · injection h with h
    subst h
    exact ⟨rfl, [], L184, K184, lp184, (fun r t h => by unfold K184 at h; split at h; (injection h with h; subst h; rfl); cases h), (ev184 _ _).trans h2⟩
  · cases h
/-! ### I.Lat_bound_1 -/
noncomputable def G233 : Env := (envCons 146 [] E146 envNil)
noncomputable def c233 : Code := bodyOf Try.f233
noncomputable def I.Lat_bound_1 (a1 a2 : Int) (a3 : Bool) (a4 : Int) (a5 : List Int) : Option (Bool × Bool × Int × List Int) :=
(bif a3 then
(Option.bind (I.Lat_le a4 a1 a2 a5) fun r6 =>
(some (r6, a3, a4, a5)))
else
(Option.bind (I.Lat_le a4 a2 a1 a5) fun r7 =>
(some (r7, a3, a4, a5))))
noncomputable def R233 (x : Bool × Bool × Int × List Int) : Res := ⟨[.one (ab x.1)], [(4, [ab x.2.1]), (51, [ai x.2.2.1, .sl 0])], [⟨117, (.int .u64), x.2.2.2, .rop⟩]⟩
noncomputable def K233 (r : Res) : Option (Bool × Bool × Int × List Int) :=
  match r with
  | ⟨[.one (.val (.bool v1))], [(4, [.val (.bool v2)]), (51, [.val (.int .i64 v3), .sl 0])], [⟨117, (.int .u64), v4, .rop⟩]⟩ => some (v1, v2, v3, v4)
  | _ => none
noncomputable def E233 : Fun2 := fun args bs rs =>
  match args, bs, rs with
  | [.s1 (.one (.val (.int .i64 a1))), .s1 (.one (.val (.int .i64 a2))), .s1 (.one (.ptr 0 0)), .s1 (.one (.ptr 1 0))], [(4, [.val (.bool a3)]), (51, [.val (.int .i64 a4), .sl 0])], [⟨117, (.int .u64), a5, .rop⟩] => some ⟨Bool × Bool × Int × List Int, I.Lat_bound_1 a1 a2 a3 a4 a5, R233⟩
  | _, _, _ => none
theorem ev233 (a1 a2 : Int) (a3 : Bool) (a4 : Int) (a5 : List Int) : evF Try.prog G233 loopNil (2, 1) [] Try.f233 c233 [vi a1, vi a2, vp 0 0, vp 1 0] [(4, [ab a3]), (51, [ai a4, .sl 0])] [⟨117, (.int .u64), a5, .rop⟩] K233 = I.Lat_bound_1 a1 a2 a3 a4 a5 := by kernel_rfl
theorem good233 : Vm.Good Try.prog 233 E233 := by
  refine evF_good (G := G233) (c := c233) (envCons_good good146 envNil_good) Try.func233 (by kernel_rfl) (by kernel_rfl) (2, 1) (fun args bs rs out t h h2 => ?_)
  unfold E233 at h
  split at h
  · injection h with h
    subst h
    exact ⟨rfl, [], loopNil, K233, (by intro x hx; simp [show loopsOf c233 = [] from by kernel_rfl] at hx), (fun r t h => by unfold K233 at h; split at h; (injection h with h; subst h; rfl); cases h), (ev233 _ _ _ _ _).trans h2⟩
  · cases h
/-! ### I.Lat_bound -/
noncomputable def G185 : Env := (envCons 233 [] E233 envNil)
noncomputable def c185 : Code := bodyOf Try.f185
noncomputable def c185_3 : Code := (loopsOf c185).getD 0 .skip
noncomputable def c185_8 : Code := (loopsOf c185_3).getD 0 .skip
noncomputable def I.Lat_bound_l1 : Nat → (Int → Int → Int → Bool → Int → Int → Int → Bool → List Int → Option Int) → Int → Int → Int → Bool → Int → Int → Int → Int → Int → Bool → List Int → Option Int
  | 0, _, _, _, _, _, _, _, _, _, _, _, _ => none
  | m + 1, e8_0, a18, a19, a20, a21, a22, a23, a24, a25, a26, a27, a28 =>
    (bif (decide (a25 < a24)) then
    (Option.bind (I.Lat_bound_1 a18 a25 a27 a26 a28) fun r30 =>
    (bif r30.1 then
    (Option.bind (I.Lat_bound_1 a19 a25 r30.2.1 r30.2.2.1 a28) fun r31 =>
    (bif r31.1 then
    (Option.bind (I.Lat_bound_1 a20 a25 r31.2.1 r31.2.2.1 a28) fun r32 =>
    (bif (!r32.1) then
    (I.Lat_bound_l1 m e8_0 a18 a19 a20 false a22 a23 a24 (IntKind.wrap .i64 (a25 + 1)) r32.2.2.1 r32.2.1 a28)
    else
    (I.Lat_bound_l1 m e8_0 a18 a19 a20 a21 a22 a23 a24 (IntKind.wrap .i64 (a25 + 1)) r32.2.2.1 r32.2.1 a28)))
    else
    (I.Lat_bound_l1 m e8_0 a18 a19 a20 a21 a22 a23 a24 (IntKind.wrap .i64 (a25 + 1)) r31.2.2.1 r31.2.1 a28)))
    else
    (I.Lat_bound_l1 m e8_0 a18 a19 a20 a21 a22 a23 a24 (IntKind.wrap .i64 (a25 + 1)) r30.2.2.1 r30.2.1 a28)))
    else
    (e8_0 a18 a19 a20 a21 a22 a23 a26 a27 a28))
noncomputable def I.Lat_bound_l0 : Nat → (Int → Option Int) → (Option Int) → Int → Int → Int → Int → Int → Bool → List Int → Option Int
  | 0, _, _, _, _, _, _, _, _, _ => none
  | m + 1, e3_0, e3_1, a6, a7, a8, a9, a10, a11, a12 =>
    (bif (decide (a9 < a8)) then
    (Option.bind (I.Lat_bound_1 a6 a9 a11 a10 a12) fun r14 =>
    (bif (!r14.1) then
    (I.Lat_bound_l0 m e3_0 e3_1 a6 a7 a8 (IntKind.wrap .i64 (a9 + 1)) r14.2.2.1 r14.2.1 a12)
    else
    (Option.bind (I.Lat_bound_1 a7 a9 r14.2.1 r14.2.2.1 a12) fun r16 =>
    (bif (!r16.1) then
    (I.Lat_bound_l0 m e3_0 e3_1 a6 a7 a8 (IntKind.wrap .i64 (a9 + 1)) r16.2.2.1 r16.2.1 a12)
    else
    (I.Lat_bound_l1 fu (fun y37 y38 y39 y40 y41 y42 y43 y44 y45 =>
    (bif y40 then
    (e3_0 y39)
    else
    (I.Lat_bound_l0 m e3_0 e3_1 y37 y38 y41 (IntKind.wrap .i64 (y42 + 1)) y43 y44 y45))) a6 a7 a9 true a8 a9 r16.2.2.1 0 r16.2.2.1 r16.2.1 a12)))))
    else
    e3_1)
noncomputable def I.Lat_bound (a1 a2 a3 : Int) (a4 : Bool) (a5 : List Int) : Option Int :=
(I.Lat_bound_l0 fu (fun y47 =>
(some y47)) (some (-1)) a2 a3 a1 0 a1 a4 a5)
noncomputable def H185_8 : LoopH := ⟨⟨((.one (.unk)) :: hh :: hh :: (.one (.unk)) :: (.one (.ptr 0 0)) :: (hu 4 ((.one (.fn 233 [(1, 0), (0, 0)])) :: hh :: hh :: (hu 3 (hh :: hh :: (hu 15 (hh :: hh :: (hu 23 [])))))))), [(51, [.hole, .sl 0]), (4, [.hole])], [(117, (.int .u64), .ro)]⟩, [0, 3, 5, 6, 7, 8, 12, 13, 14, 17, 18, 19, 20, 21, 22, 23, 24, 25, 26, 27, 28, 29, 30, 31, 34, 35, 36, 37, 38, 39, 40, 41, 42, 43, 44, 45, 46, 47, 48, 49, 50, 51, 52, 53, 54, 55, 56], [], [0, 3, 5, 6, 7, 12, 13, 14, 17, 18, 19, 20, 21, 22, 23, 24, 25, 26, 27, 28, 29, 30, 31, 32, 33, 34, 35, 36, 37, 38, 39, 40, 41, 42, 43, 44, 45, 46, 47, 48, 49, 50, 51, 52, 53, 54, 55, 56]⟩
noncomputable def E185_8 (m : Nat) (ps : List Prm) (k : Kont Int) : Option Int :=
  match ps with
  | [.v (.int .i64 a18), .v (.int .i64 a19), .v (.int .i64 a20), .v (.bool a21), .v (.int .i64 a22), .v (.int .i64 a23), .v (.int .i64 a24), .v (.int .i64 a25), .v (.int .i64 a26), .v (.bool a27), .row (.int .u64) a28] => I.Lat_bound_l1 m (fun z58 z59 z60 z61 z62 z63 z64 z65 z66 => k (.exit 2) (⟨((.s1 (.one (.unk))) :: (vi z58) :: (vi z59) :: (.s1 (.one (.unk))) :: (vp 0 0) :: (vu 4 ((.s1 (.one (.fn 233 [(1, 0), (0, 0)]))) :: (vi z60) :: (vb z61) :: (vu 3 ((vi z62) :: (vi z63) :: (vu 40 [])))))), [(51, [ai z64, .sl 0]), (4, [ab z65])], [⟨117, (.int .u64), z66, .ro⟩]⟩ : St)) a18 a19 a20 a21 a22 a23 a24 a25 a26 a27 a28
  | _ => none
noncomputable def S185_8 (a18 a19 a20 : Int) (a21 : Bool) (a22 a23 a24 a25 a26 : Int) (a27 : Bool) (a28 : List Int) : St := (⟨((.s1 (.one (.unk))) :: (vi a18) :: (vi a19) :: (.s1 (.one (.unk))) :: (vp 0 0) :: (vu 4 ((.s1 (.one (.fn 233 [(1, 0), (0, 0)]))) :: (vi a20) :: (vb a21) :: (vu 3 ((vi a22) :: (vi a23) :: (vu 15 ((vi a24) :: (vi a25) :: (vu 23 [])))))))), [(51, [ai a26, .sl 0]), (4, [ab a27])], [⟨117, (.int .u64), a28, .ro⟩]⟩ : St)
theorem ev185_8 (m : Nat) (k : Kont Int) (a18 a19 a20 : Int) (a21 : Bool) (a22 a23 a24 a25 a26 : Int) (a27 : Bool) (a28 : List Int) : evC Try.prog G185 loopNil c185_8 (S185_8 a18 a19 a20 a21 a22 a23 a24 a25 a26 a27 a28) (turn Try.prog (0, 0) H185_8 (E185_8 m) k) = E185_8 (m + 1) [.v (.int .i64 a18), .v (.int .i64 a19), .v (.int .i64 a20), .v (.bool a21), .v (.int .i64 a22), .v (.int .i64 a23), .v (.int .i64 a24), .v (.int .i64 a25), .v (.int .i64 a26), .v (.bool a27), .row (.int .u64) a28] k := by kernel_rfl
theorem ok185_8 (m : Nat) : LoopOk Try.prog (0, 0) c185_8 (enter Try.prog (0, 0) H185_8 (E185_8 m)) := by
  refine loop_ok (G := G185) (L := loopNil) (envCons_good good233 envNil_good) (by intro x hx; simp [show loopsOf c185_8 = [] from by kernel_rfl] at hx) (fun ps k => by unfold E185_8; split <;> rfl) (fun m ps k r h => ?_) m
  have h0 := h
  unfold E185_8 at h
  split at h
  · exact ⟨S185_8 _ _ _ _ _ _ _ _ _ _ _, by kernel_rfl, (ev185_8 m k _ _ _ _ _ _ _ _ _ _ _).trans h0⟩
  · cases h
noncomputable def L185_3 : LEnv Int := (loopCons 8 (enter Try.prog (0, 0) H185_8 (E185_8 fu)) loopNil)
theorem lq185_3 : loopsOf c185_3 = [c185_8] := by kernel_rfl
theorem fr185_8 : firstReg c185_8 = some 8 := by kernel_rfl
theorem le185_8 : L185_3 8 = enter Try.prog (0, 0) H185_8 (E185_8 fu) := by kernel_rfl
theorem lm185_3 : ∀ x ∈ [c185_8], ∀ id, firstReg x = some id → LoopOk Try.prog (0, 0) x (L185_3 id) := (loops_cons fr185_8 le185_8 (ok185_8 fu) loops_nil)
theorem lp185_3 : ∀ x ∈ loopsOf c185_3, ∀ id, firstReg x = some id → LoopOk Try.prog (0, 0) x (L185_3 id) := loops_eq lq185_3 lm185_3
noncomputable def H185_3 : LoopH := ⟨⟨((.one (.unk)) :: hh :: hh :: (.one (.unk)) :: (.one (.ptr 0 0)) :: (hu 4 ((.one (.fn 233 [(1, 0), (0, 0)])) :: (hu 5 (hh :: hh :: (hu 40 [])))))), [(51, [.hole, .sl 0]), (4, [.hole])], [(117, (.int .u64), .ro)]⟩, [0, 3, 5, 6, 7, 8, 10, 11, 12, 13, 14, 17, 18, 19, 20, 21, 22, 23, 24, 25, 26, 27, 28, 29, 30, 31, 32, 33, 34, 35, 36, 37, 38, 39, 40, 41, 42, 43, 44, 45, 46, 47, 48, 49, 50, 51, 52, 53, 54, 55, 56], [], [0, 1, 2, 3, 4, 5, 6, 7, 9, 10, 11, 12, 13, 14, 15, 16, 17, 18, 19, 20, 21, 22, 23, 24, 25, 26, 27, 28, 29, 30, 31, 32, 33, 34, 35, 36, 37, 38, 39, 40, 41, 42, 43, 44, 45, 46, 47, 48, 49, 50, 51, 52, 53, 54, 55, 56]⟩
noncomputable def E185_3 (m : Nat) (ps : List Prm) (k : Kont Int) : Option Int :=
  match ps with
  | [.v (.int .i64 a6), .v (.int .i64 a7), .v (.int .i64 a8), .v (.int .i64 a9), .v (.int .i64 a10), .v (.bool a11), .row (.int .u64) a12] => I.Lat_bound_l0 m (fun z67 => k .ret (⟨(vu 8 ((vi z67) :: (vu 48 []))), [], []⟩ : St)) (k (.exit 0) (⟨(vu 57 []), [], []⟩ : St)) a6 a7 a8 a9 a10 a11 a12
  | _ => none
noncomputable def S185_3 (a6 a7 a8 a9 a10 : Int) (a11 : Bool) (a12 : List Int) : St := (⟨((.s1 (.one (.unk))) :: (vi a6) :: (vi a7) :: (.s1 (.one (.unk))) :: (vp 0 0) :: (vu 4 ((.s1 (.one (.fn 233 [(1, 0), (0, 0)]))) :: (vu 5 ((vi a8) :: (vi a9) :: (vu 40 [])))))), [(51, [ai a10, .sl 0]), (4, [ab a11])], [⟨117, (.int .u64), a12, .ro⟩]⟩ : St)
theorem ev185_3 (m : Nat) (k : Kont Int) (a6 a7 a8 a9 a10 : Int) (a11 : Bool) (a12 : List Int) : evC Try.prog G185 L185_3 c185_3 (S185_3 a6 a7 a8 a9 a10 a11 a12) (turn Try.prog (0, 0) H185_3 (E185_3 m) k) = E185_3 (m + 1) [.v (.int .i64 a6), .v (.int .i64 a7), .v (.int .i64 a8), .v (.int .i64 a9), .v (.int .i64 a10), .v (.bool a11), .row (.int .u64) a12] k := by kernel_rfl
theorem ok185_3 (m : Nat) : LoopOk Try.prog (0, 0) c185_3 (enter Try.prog (0, 0) H185_3 (E185_3 m)) := by
  refine loop_ok (G := G185) (L := L185_3) (envCons_good good233 envNil_good) lp185_3 (fun ps k => by unfold E185_3; split <;> rfl) (fun m ps k r h => ?_) m
  have h0 := h
  unfold E185_3 at h
  split at h
  · exact ⟨S185_3 _ _ _ _ _ _ _, by kernel_rfl, (ev185_3 m k _ _ _ _ _ _ _).trans h0⟩
  · cases h
noncomputable def L185 : LEnv Int := (loopCons 3 (enter Try.prog (0, 0) H185_3 (E185_3 fu)) loopNil)
theorem lq185 : loopsOf c185 = [c185_3] := by kernel_rfl
theorem fr185_3 : firstReg c185_3 = some 3 := by kernel_rfl
theorem le185_3 : L185 3 = enter Try.prog (0, 0) H185_3 (E185_3 fu) := by kernel_rfl
theorem lm185 : ∀ x ∈ [c185_3], ∀ id, firstReg x = some id → LoopOk Try.prog (0, 0) x (L185 id) := (loops_cons fr185_3 le185_3 (ok185_3 fu) loops_nil)
theorem lp185 : ∀ x ∈ loopsOf c185, ∀ id, firstReg x = some id → LoopOk Try.prog (0, 0) x (L185 id) := loops_eq lq185 lm185
noncomputable def R185 (x : Int) : Res := ⟨[.one (ai x)], [], []⟩
noncomputable def K185 (r : Res) : Option Int :=
  match r with
  | ⟨[.one (.val (.int .i64 v1))], [], []⟩ => some (v1)
  | _ => none
noncomputable def E185 : Fun2 := fun args bs rs =>
  match args, bs, rs with
  | [.s1 (.agg [.val (.int .i64 a1), .sl 0]), .s1 (.one (.val (.int .i64 a2))), .s1 (.one (.val (.int .i64 a3))), .s1 (.one (.val (.bool a4)))], [], [⟨117, (.int .u64), a5, .ro⟩] => some ⟨Int, I.Lat_bound a1 a2 a3 a4 a5, R185⟩
  | _, _, _ => none
theorem ev185 (a1 a2 a3 : Int) (a4 : Bool) (a5 : List Int) : evF Try.prog G185 L185 (0, 0) [] Try.f185 c185 [.s1 (.agg [ai a1, .sl 0]), vi a2, vi a3, vb a4] [] [⟨117, (.int .u64), a5, .ro⟩] K185 = I.Lat_bound a1 a2 a3 a4 a5 := by kernel_rfl
theorem good185 : Vm.Good Try.prog 185 E185 := by
  refine evF_good (G := G185) (c := c185) (envCons_good good233 envNil_good) Try.func185 (by kernel_rfl) (by kernel_rfl) (0, 0) (fun args bs rs out t h h2 => ?_)
  unfold E185 at h
  split at h
  · injection h with h
    subst h
    exact ⟨rfl, [], L185, K185, lp185, (fun r t h => by unfold K185 at h; split at h; (injection h with h; subst h; rfl); cases h), (ev185 _ _ _ _ _).trans h2⟩
  · cases h
/-! ### I.isLat -/
noncomputable def G107 : Env := (envCons 178 [] E178 (envCons 184 [] E184 (envCons 185 [] E185 envNil)))
noncomputable def c107 : Code := bodyOf Try.f107
noncomputable def c107_4 : Code := (loopsOf c107).getD 0 .skip
noncomputable def c107_12 : Code := (loopsOf c107).getD 1 .skip
noncomputable def c107_15 : Code := (loopsOf c107_12).getD 0 .skip
noncomputable def I.isLat_l0 : Nat → (Bool → Int → List Int → Option Bool) → (Int → List Int → Option Bool) → Int → Int → Int → List Int → Option Bool
  | 0, _, _, _, _, _, _ => none
  | m + 1, e4_0, e4_1, a6, a7, a8, a9 =>
    (bif (decide (a7 < a6)) then
    (bif decide ((0 : Int) ≤ a7 ∧ a7 < (a9.length : Int)) then
    (bif decide ((0 : Int) ≤ a8) then
    (bif ((Int.fdiv (nthI a9 a7 (0 : Int)) (2 ^ min (Int.toNat a8) (IntKind.bits .u64))) != 0) then
    (e4_0 false a8 a9)
    else
    (I.isLat_l0 m e4_0 e4_1 a6 (IntKind.wrap .i64 (a7 + 1)) a8 a9))
    else
    none)
    else
    none)
    else
    (e4_1 a8 a9))
noncomputable def I.isLat_l2 : Nat → (Bool → Int → Int → Int → List Int → Option Bool) → (Int → Int → Int → List Int → Option Bool) → Int → Int → Int → Int → Int → Int → List Int → Option Bool
  | 0, _, _, _, _, _, _, _, _, _ => none
  | m + 1, e15_0, e15_1, a25, a26, a27, a28, a29, a30, a31 =>
    (bif (decide (a29 < a28)) then
    (Option.bind (I.Lat_bound a30 a25 a29 true a31) fun r33 =>
    (bif (decide (r33 < 0)) then
    (e15_0 false a26 a27 a30 a31)
    else
    (Option.bind (I.Lat_bound a30 a25 a29 false a31) fun r35 =>
    (bif (decide (r35 < 0)) then
    (e15_0 false a26 a27 a30 a31)
    else
    (I.isLat_l2 m e15_0 e15_1 a25 a26 a27 a28 (IntKind.wrap .i64 (a29 + 1)) a30 a31)))))
    else
    (e15_1 a26 a27 a30 a31))
noncomputable def I.isLat_l1 : Nat → (Bool → Option Bool) → (Option Bool) → Int → Int → Int → List Int → Option Bool
  | 0, _, _, _, _, _, _ => none
  | m + 1, e12_0, e12_1, a20, a21, a22, a23 =>
    (bif (decide (a21 < a20)) then
    (I.isLat_l2 fu (fun y38 y39 y40 y41 y42 =>
    (e12_0 y38)) (fun y43 y44 y45 y46 =>
    (I.isLat_l1 m e12_0 e12_1 y43 (IntKind.wrap .i64 (y44 + 1)) y45 y46)) a21 a20 a21 a22 0 a22 a23)
    else
    e12_1)
noncomputable def I.isLat (a1 : Int) (a2 : List Int) : Option Bool :=
(Option.bind (I.in a1 1 16) fun r3 =>
(bif (!r3) then
(some false)
else
(bif ((a2.length : Int) != a1) then
(some false)
else
(I.isLat_l0 fu (fun y14 y15 y16 =>
(some y14)) (fun y17 y18 =>
(Option.bind (I.Lat_isOrder y17 y18) fun r19 =>
(bif (!r19) then
(some false)
else
(I.isLat_l1 fu (fun y48 =>
(some y48)) (some true) y17 0 y17 y18)))) (a2.length : Int) 0 a1 a2))))
noncomputable def H107_4 : LoopH := ⟨⟨((.one (.unk)) :: (.one (.ptr 0 0)) :: (hu 18 ((.one (.sl 0)) :: hh :: hh :: (hu 36 [])))), [(51, [.hole, .sl 0])], [(117, (.int .u64), .ro)]⟩, [0, 2, 3, 4, 5, 6, 7, 8, 9, 10, 11, 12, 13, 14, 15, 16, 17, 18, 19, 23, 24, 25, 26, 27, 28, 29, 30, 31, 32, 33, 34, 35, 36, 37, 38, 39, 40, 41, 42, 43, 44, 45, 46, 47, 48, 49, 50, 51, 52, 53, 54, 55, 56, 57, 58], [], [0, 3, 4, 5, 6, 7, 8, 9, 10, 11, 12, 13, 14, 15, 16, 17, 18, 19, 20, 21, 22, 23, 24, 25, 26, 27, 28, 29, 30, 31, 32, 33, 34, 35, 36, 37, 38, 39, 40, 41, 42, 43, 44, 45, 46, 47, 48, 49, 50, 51, 52, 53, 54, 55, 56, 57, 58]⟩
noncomputable def E107_4 (m : Nat) (ps : List Prm) (k : Kont Bool) : Option Bool :=
  match ps with
  | [.v (.int .i64 a6), .v (.int .i64 a7), .v (.int .i64 a8), .row (.int .u64) a9] => I.isLat_l0 m (fun z64 z65 z66 => k .ret (⟨((.s1 (.one (.unk))) :: (vp 0 0) :: (vb z64) :: (vu 56 [])), [(51, [ai z65, .sl 0])], [⟨117, (.int .u64), z66, .ro⟩]⟩ : St)) (fun z67 z68 => k (.exit 0) (⟨((.s1 (.one (.unk))) :: (vp 0 0) :: (vu 57 [])), [(51, [ai z67, .sl 0])], [⟨117, (.int .u64), z68, .ro⟩]⟩ : St)) a6 a7 a8 a9
  | _ => none
noncomputable def S107_4 (a6 a7 a8 : Int) (a9 : List Int) : St := (⟨((.s1 (.one (.unk))) :: (vp 0 0) :: (vu 18 ((vl 0) :: (vi a6) :: (vi a7) :: (vu 36 [])))), [(51, [ai a8, .sl 0])], [⟨117, (.int .u64), a9, .ro⟩]⟩ : St)
theorem ev107_4 (m : Nat) (k : Kont Bool) (a6 a7 a8 : Int) (a9 : List Int) : evC Try.prog G107 loopNil c107_4 (S107_4 a6 a7 a8 a9) (turn Try.prog (0, 0) H107_4 (E107_4 m) k) = E107_4 (m + 1) [.v (.int .i64 a6), .v (.int .i64 a7), .v (.int .i64 a8), .row (.int .u64) a9] k := by kernel_rfl
theorem ok107_4 (m : Nat) : LoopOk Try.prog (0, 0) c107_4 (enter Try.prog (0, 0) H107_4 (E107_4 m)) := by
  refine loop_ok (G := G107) (L := loopNil) (envCons_good good178 (envCons_good good184 (envCons_good good185 envNil_good))) (by intro x hx; simp [show loopsOf c107_4 = [] from by kernel_rfl] at hx) (fun ps k => by unfold E107_4; split <;> rfl) (fun m ps k r h => ?_) m
  have h0 := h
  unfold E107_4 at h
  split at h
  · exact ⟨S107_4 _ _ _ _, by kernel_rfl, (ev107_4 m k _ _ _ _).trans h0⟩
  · cases h
noncomputable def H107_15 : LoopH := ⟨⟨((.one (.unk)) :: (.one (.ptr 0 0)) :: (hu 3 (hh :: (hu 30 (hh :: hh :: (hu 3 (hh :: hh :: (hu 16 [])))))))), [(51, [.hole, .sl 0])], [(117, (.int .u64), .ro)]⟩, [0, 2, 3, 4, 6, 7, 8, 9, 10, 11, 12, 13, 14, 15, 16, 17, 18, 19, 20, 21, 22, 23, 24, 25, 26, 27, 28, 29, 30, 31, 32, 33, 34, 35, 38, 39, 40, 43, 44, 45, 46, 47, 48, 49, 50, 51, 52, 53, 54, 55, 56, 57, 58], [], [0, 3, 4, 5, 6, 7, 8, 9, 10, 11, 12, 13, 14, 15, 16, 17, 18, 19, 20, 21, 22, 23, 24, 25, 26, 27, 28, 29, 30, 31, 32, 33, 34, 35, 38, 39, 40, 41, 42, 43, 44, 45, 46, 47, 48, 49, 50, 51, 52, 53, 54, 55, 56, 57, 58]⟩
noncomputable def E107_15 (m : Nat) (ps : List Prm) (k : Kont Bool) : Option Bool :=
  match ps with
  | [.v (.int .i64 a25), .v (.int .i64 a26), .v (.int .i64 a27), .v (.int .i64 a28), .v (.int .i64 a29), .v (.int .i64 a30), .row (.int .u64) a31] => I.isLat_l2 m (fun z69 z70 z71 z72 z73 => k .ret (⟨((.s1 (.one (.unk))) :: (vp 0 0) :: (vb z69) :: (vu 33 ((vi z70) :: (vi z71) :: (vu 21 [])))), [(51, [ai z72, .sl 0])], [⟨117, (.int .u64), z73, .ro⟩]⟩ : St)) (fun z74 z75 z76 z77 => k (.exit 4) (⟨((.s1 (.one (.unk))) :: (vp 0 0) :: (vu 34 ((vi z74) :: (vi z75) :: (vu 21 [])))), [(51, [ai z76, .sl 0])], [⟨117, (.int .u64), z77, .ro⟩]⟩ : St)) a25 a26 a27 a28 a29 a30 a31
  | _ => none
noncomputable def S107_15 (a25 a26 a27 a28 a29 a30 : Int) (a31 : List Int) : St := (⟨((.s1 (.one (.unk))) :: (vp 0 0) :: (vu 3 ((vi a25) :: (vu 30 ((vi a26) :: (vi a27) :: (vu 3 ((vi a28) :: (vi a29) :: (vu 16 [])))))))), [(51, [ai a30, .sl 0])], [⟨117, (.int .u64), a31, .ro⟩]⟩ : St)
theorem ev107_15 (m : Nat) (k : Kont Bool) (a25 a26 a27 a28 a29 a30 : Int) (a31 : List Int) : evC Try.prog G107 loopNil c107_15 (S107_15 a25 a26 a27 a28 a29 a30 a31) (turn Try.prog (0, 0) H107_15 (E107_15 m) k) = E107_15 (m + 1) [.v (.int .i64 a25), .v (.int .i64 a26), .v (.int .i64 a27), .v (.int .i64 a28), .v (.int .i64 a29), .v (.int .i64 a30), .row (.int .u64) a31] k := by kernel_rfl
theorem ok107_15 (m : Nat) : LoopOk Try.prog (0, 0) c107_15 (enter Try.prog (0, 0) H107_15 (E107_15 m)) := by
  refine loop_ok (G := G107) (L := loopNil) (envCons_good good178 (envCons_good good184 (envCons_good good185 envNil_good))) (by intro x hx; simp [show loopsOf c107_15 = [] from by kernel_rfl] at hx) (fun ps k => by unfold E107_15; split <;> rfl) (fun m ps k r h => ?_) m
  have h0 := h
  unfold E107_15 at h
  split at h
  · exact ⟨S107_15 _ _ _ _ _ _ _, by kernel_rfl, (ev107_15 m k _ _ _ _ _ _ _).trans h0⟩
  · cases h
noncomputable def L107_12 : LEnv Bool := (loopCons 15 (enter Try.prog (0, 0) H107_15 (E107_15 fu)) loopNil)
theorem lq107_12 : loopsOf c107_12 = [c107_15] := by kernel_rfl
theorem fr107_15 : firstReg c107_15 = some 15 := by kernel_rfl
theorem le107_15 : L107_12 15 = enter Try.prog (0, 0) H107_15 (E107_15 fu) := by kernel_rfl
theorem lm107_12 : ∀ x ∈ [c107_15], ∀ id, firstReg x = some id → LoopOk Try.prog (0, 0) x (L107_12 id) := (loops_cons fr107_15 le107_15 (ok107_15 fu) loops_nil)
theorem lp107_12 : ∀ x ∈ loopsOf c107_12, ∀ id, firstReg x = some id → LoopOk Try.prog (0, 0) x (L107_12 id) := loops_eq lq107_12 lm107_12
noncomputable def H107_12 : LoopH := ⟨⟨((.one (.unk)) :: (.one (.ptr 0 0)) :: (hu 34 (hh :: hh :: (hu 21 [])))), [(51, [.hole, .sl 0])], [(117, (.int .u64), .ro)]⟩, [0, 2, 3, 4, 5, 6, 7, 8, 9, 10, 11, 12, 13, 14, 15, 16, 17, 18, 19, 20, 21, 22, 23, 24, 25, 26, 27, 28, 29, 30, 31, 32, 33, 34, 35, 38, 39, 40, 41, 42, 43, 44, 45, 46, 47, 48, 49, 50, 51, 52, 53, 54, 55, 56, 57, 58], [], [0, 1, 3, 4, 5, 6, 7, 8, 9, 10, 11, 12, 13, 14, 15, 16, 17, 18, 19, 20, 21, 22, 23, 24, 25, 26, 27, 28, 29, 30, 31, 32, 33, 34, 35, 36, 37, 38, 39, 40, 41, 42, 43, 44, 45, 46, 47, 48, 49, 50, 51, 52, 53, 54, 55, 56, 57, 58]⟩
noncomputable def E107_12 (m : Nat) (ps : List Prm) (k : Kont Bool) : Option Bool :=
  match ps with
  | [.v (.int .i64 a20), .v (.int .i64 a21), .v (.int .i64 a22), .row (.int .u64) a23] => I.isLat_l1 m (fun z78 => k .ret (⟨(vu 2 ((vb z78) :: (vu 56 []))), [], []⟩ : St)) (k (.exit 2) (⟨(vu 59 []), [], []⟩ : St)) a20 a21 a22 a23
  | _ => none
noncomputable def S107_12 (a20 a21 a22 : Int) (a23 : List Int) : St := (⟨((.s1 (.one (.unk))) :: (vp 0 0) :: (vu 34 ((vi a20) :: (vi a21) :: (vu 21 [])))), [(51, [ai a22, .sl 0])], [⟨117, (.int .u64), a23, .ro⟩]⟩ : St)
theorem ev107_12 (m : Nat) (k : Kont Bool) (a20 a21 a22 : Int) (a23 : List Int) : evC Try.prog G107 L107_12 c107_12 (S107_12 a20 a21 a22 a23) (turn Try.prog (0, 0) H107_12 (E107_12 m) k) = E107_12 (m + 1) [.v (.int .i64 a20), .v (.int .i64 a21), .v (.int .i64 a22), .row (.int .u64) a23] k := by kernel_rfl
theorem ok107_12 (m : Nat) : LoopOk Try.prog (0, 0) c107_12 (enter Try.prog (0, 0) H107_12 (E107_12 m)) := by
  refine loop_ok (G := G107) (L := L107_12) (envCons_good good178 (envCons_good good184 (envCons_good good185 envNil_good))) lp107_12 (fun ps k => by unfold E107_12; split <;> rfl) (fun m ps k r h => ?_) m
  have h0 := h
  unfold E107_12 at h
  split at h
  · exact ⟨S107_12 _ _ _ _, by kernel_rfl, (ev107_12 m k _ _ _ _).trans h0⟩
  · cases h
noncomputable def L107 : LEnv Bool := (loopCons 4 (enter Try.prog (0, 0) H107_4 (E107_4 fu)) (loopCons 12 (enter Try.prog (0, 0) H107_12 (E107_12 fu)) loopNil))
theorem lq107 : loopsOf c107 = [c107_4, c107_12] := by kernel_rfl
theorem fr107_4 : firstReg c107_4 = some 4 := by kernel_rfl
theorem le107_4 : L107 4 = enter Try.prog (0, 0) H107_4 (E107_4 fu) := by kernel_rfl
theorem fr107_12 : firstReg c107_12 = some 12 := by kernel_rfl
theorem le107_12 : L107 12 = enter Try.prog (0, 0) H107_12 (E107_12 fu) := by kernel_rfl
theorem lm107 : ∀ x ∈ [c107_4, c107_12], ∀ id, firstReg x = some id → LoopOk Try.prog (0, 0) x (L107 id) := (loops_cons fr107_4 le107_4 (ok107_4 fu) (loops_cons fr107_12 le107_12 (ok107_12 fu) loops_nil))
theorem lp107 : ∀ x ∈ loopsOf c107, ∀ id, firstReg x = some id → LoopOk Try.prog (0, 0) x (L107 id) := loops_eq lq107 lm107
noncomputable def R107 (x : Bool) : Res := ⟨[.one (ab x)], [], []⟩
noncomputable def K107 (r : Res) : Option Bool :=
  match r with
  | ⟨[.one (.val (.bool v1))], [], []⟩ => some (v1)
  | _ => none
noncomputable def E107 : Fun2 := fun args bs rs =>
  match args, bs, rs with
  | [.s1 (.agg [.val (.int .i64 a1), .sl 0])], [], [⟨117, (.int .u64), a2, .ro⟩] => some ⟨Bool, I.isLat a1 a2, R107⟩
  | _, _, _ => none
theorem ev107 (a1 : Int) (a2 : List Int) : evF Try.prog G107 L107 (0, 0) [] Try.f107 c107 [.s1 (.agg [ai a1, .sl 0])] [] [⟨117, (.int .u64), a2, .ro⟩] K107 = I.isLat a1 a2 := by kernel_rfl
theorem good107 : Vm.Good Try.prog 107 E107 := by
  refine evF_good (G := G107) (c := c107) (envCons_good good178 (envCons_good good184 (envCons_good good185 envNil_good))) Try.func107 (by kernel_rfl) (by kernel_rfl) (0, 0) (fun args bs rs out t h h2 => ?_)
  unfold E107 at h
  split at h
  · injection h with h
    subst h
    exact ⟨rfl, [], L107, K107, lp107, (fun r t h => by unfold K107 at h; split at h; (injection h with h; subst h; rfl); cases h), (ev107 _ _).trans h2⟩
  · cases h
/-! ### I.isId -/
noncomputable def G198 : Env := (envCons 178 [] E178 envNil)
noncomputable def c198 : Code := bodyOf Try.f198
noncomputable def I.isId (a1 : Int) : Option Bool :=
(Option.bind (I.in a1 0 3) fun r2 =>
(some r2))
noncomputable def R198 (x : Bool) : Res := ⟨[.one (ab x)], [], []⟩
noncomputable def K198 (r : Res) : Option Bool :=
  match r with
  | ⟨[.one (.val (.bool v1))], [], []⟩ => some (v1)
  | _ => none
noncomputable def E198 : Fun2 := fun args bs rs =>
  match args, bs, rs with
  | [.s1 (.one (.val (.int .i64 a1)))], [], [] => some ⟨Bool, I.isId a1, R198⟩
  | _, _, _ => none
theorem ev198 (a1 : Int) : evF Try.prog G198 loopNil (0, 0) [] Try.f198 c198 [vi a1] [] [] K198 = I.isId a1 := by kernel_rfl
theorem good198 : Vm.Good Try.prog 198 E198 := by
  refine evF_good (G := G198) (c := c198) (envCons_good good178 envNil_good) Try.func198 (by kernel_rfl) (by kernel_rfl) (0, 0) (fun args bs rs out t h h2 => ?_)
  unfold E198 at h
  split at h
  · injection h with h
    subst h
    exact ⟨rfl, [], loopNil, K198, (by intro x hx; simp [show loopsOf c198 = [] from by kernel_rfl] at hx), (fun r t h => by unfold K198 at h; split at h; (injection h with h; subst h; rfl); cases h), (ev198 _).trans h2⟩
  · cases h
/-! ### I.isKey -/
noncomputable def G199 : Env := (envCons 178 [] E178 envNil)
noncomputable def c199 : Code := bodyOf Try.f199
noncomputable def I.isKey (a1 : Int) : Option Bool :=
(Option.bind (I.in a1 0 15) fun r2 =>
(some r2))
noncomputable def R199 (x : Bool) : Res := ⟨[.one (ab x)], [], []⟩
noncomputable def K199 (r : Res) : Option Bool :=
  match r with
  | ⟨[.one (.val (.bool v1))], [], []⟩ => some (v1)
  | _ => none
noncomputable def E199 : Fun2 := fun args bs rs =>
  match args, bs, rs with
  | [.s1 (.one (.val (.int .i64 a1)))], [], [] => some ⟨Bool, I.isKey a1, R199⟩
  | _, _, _ => none
theorem ev199 (a1 : Int) : evF Try.prog G199 loopNil (0, 0) [] Try.f199 c199 [vi a1] [] [] K199 = I.isKey a1 := by kernel_rfl
theorem good199 : Vm.Good Try.prog 199 E199 := by
  refine evF_good (G := G199) (c := c199) (envCons_good good178 envNil_good) Try.func199 (by kernel_rfl) (by kernel_rfl) (0, 0) (fun args bs rs out t h h2 => ?_)
  unfold E199 at h
  split at h
  · injection h with h
    subst h
    exact ⟨rfl, [], loopNil, K199, (by intro x hx; simp [show loopsOf c199 = [] from by kernel_rfl] at hx), (fun r t h => by unfold K199 at h; split at h; (injection h with h; subst h; rfl); cases h), (ev199 _).trans h2⟩
  · cases h
/-! ### I.isWin -/
noncomputable def G200 : Env := envNil
noncomputable def c200 : Code := bodyOf Try.f200
noncomputable def I.isWin (a1 a2 : Int) : Option Bool :=
(bif (decide (0 ≤ a1)) then
(bif (decide (a1 < a2)) then
(some (decide (a2 ≤ 1100)))
else
(some false))
else
(some false))
noncomputable def R200 (x : Bool) : Res := ⟨[.one (ab x)], [], []⟩
noncomputable def K200 (r : Res) : Option Bool :=
  match r with
  | ⟨[.one (.val (.bool v1))], [], []⟩ => some (v1)
  | _ => none
noncomputable def E200 : Fun2 := fun args bs rs =>
  match args, bs, rs with
  | [.s1 (.agg [.val (.int .i64 a1), .val (.int .i64 a2)])], [], [] => some ⟨Bool, I.isWin a1 a2, R200⟩
  | _, _, _ => none
theorem ev200 (a1 a2 : Int) : evF Try.prog G200 loopNil (0, 0) [] Try.f200 c200 [.s1 (.agg [ai a1, ai a2])] [] [] K200 = I.isWin a1 a2 := by kernel_rfl
theorem good200 : Vm.Good Try.prog 200 E200 := by
  refine evF_good (G := G200) (c := c200) envNil_good Try.func200 (by kernel_rfl) (by kernel_rfl) (0, 0) (fun args bs rs out t h h2 => ?_)
  unfold E200 at h
  split at h
  · injection h with h
    subst h
    exact ⟨rfl, [], loopNil, K200, (by intro x hx; simp [show loopsOf c200 = [] from by kernel_rfl] at hx), (fun r t h => by unfold K200 at h; split at h; (injection h with h; subst h; rfl); cases h), (ev200 _ _).trans h2⟩
  · cases h
/-! ### I.isPane -/
noncomputable def G131 : Env := (envCons 198 [] E198 (envCons 199 [] E199 (envCons 200 [] E200 (envCons 178 [] E178 envNil))))
noncomputable def c131 : Code := bodyOf Try.f131
noncomputable def I.isPane (a1 a2 a3 a4 a5 a6 : Int) (a7 : Bool) (a8 : List Int) : Option Bool :=
(Option.bind (I.isId a1) fun r9 =>
(bif r9 then
(Option.bind (I.isKey a2) fun r10 =>
(bif r10 then
(Option.bind (I.isWin a3 a4) fun r11 =>
(bif r11 then
(Option.bind (I.in a5 0 15) fun r12 =>
(bif r12 then
(Option.bind (I.in a6 1 1000000) fun r13 =>
(bif r13 then
(bif (decide ((a8.length : Int) ≤ 4)) then
(some (((a8.length : Int) == 0) == a7))
else
(some false))
else
(some false)))
else
(some false)))
else
(some false)))
else
(some false)))
else
(some false)))
noncomputable def R131 (x : Bool) : Res := ⟨[.one (ab x)], [], []⟩
noncomputable def K131 (r : Res) : Option Bool :=
  match r with
  | ⟨[.one (.val (.bool v1))], [], []⟩ => some (v1)
  | _ => none
noncomputable def E131 : Fun2 := fun args bs rs =>
  match args, bs, rs with
  | [.s1 (.agg [.val (.int .i64 a1), .val (.int .i64 a2), .val (.int .i64 a3), .val (.int .i64 a4), .val (.int .i64 a5), .val (.int .i64 a6), .sl 0, .val (.bool a7)])], [], [⟨3, (.int .i64), a8, .ro⟩] => some ⟨Bool, I.isPane a1 a2 a3 a4 a5 a6 a7 a8, R131⟩
  | _, _, _ => none
theorem ev131 (a1 a2 a3 a4 a5 a6 : Int) (a7 : Bool) (a8 : List Int) : evF Try.prog G131 loopNil (0, 0) [] Try.f131 c131 [.s1 (.agg [ai a1, ai a2, ai a3, ai a4, ai a5, ai a6, .sl 0, ab a7])] [] [⟨3, (.int .i64), a8, .ro⟩] K131 = I.isPane a1 a2 a3 a4 a5 a6 a7 a8 := by kernel_rfl
theorem good131 : Vm.Good Try.prog 131 E131 := by
  refine evF_good (G := G131) (c := c131) (envCons_good good198 (envCons_good good199 (envCons_good good200 (envCons_good good178 envNil_good)))) Try.func131 (by kernel_rfl) (by kernel_rfl) (0, 0) (fun args bs rs out t h h2 => ?_)
  unfold E131 at h
  split at h
  · injection h with h
    subst h
    exact ⟨rfl, [], loopNil, K131, (by intro x hx; simp [show loopsOf c131 = [] from by kernel_rfl] at hx), (fun r t h => by unfold K131 at h; split at h; (injection h with h; subst h; rfl); cases h), (ev131 _ _ _ _ _ _ _ _).trans h2⟩
  · cases h
/-! ### I.Lat_has -/
noncomputable def G145 : Env := (envCons 178 [] E178 envNil)
noncomputable def c145 : Code := bodyOf Try.f145
noncomputable def I.Lat_has (a1 a2 : Int) (a3 : List Int) : Option Bool :=
(Option.bind (I.in a2 0 (IntKind.wrap .i64 (a1 - 1))) fun r5 =>
(some r5))
noncomputable def R145 (x : Bool) : Res := ⟨[.one (ab x)], [], []⟩
noncomputable def K145 (r : Res) : Option Bool :=
  match r with
  | ⟨[.one (.val (.bool v1))], [], []⟩ => some (v1)
  | _ => none
noncomputable def E145 : Fun2 := fun args bs rs =>
  match args, bs, rs with
  | [.s1 (.agg [.val (.int .i64 a1), .sl 0]), .s1 (.one (.val (.int .i64 a2)))], [], [⟨117, (.int .u64), a3, .ro⟩] => some ⟨Bool, I.Lat_has a1 a2 a3, R145⟩
  | _, _, _ => none
theorem ev145 (a1 a2 : Int) (a3 : List Int) : evF Try.prog G145 loopNil (0, 0) [] Try.f145 c145 [.s1 (.agg [ai a1, .sl 0]), vi a2] [] [⟨117, (.int .u64), a3, .ro⟩] K145 = I.Lat_has a1 a2 a3 := by kernel_rfl
theorem good145 : Vm.Good Try.prog 145 E145 := by
  refine evF_good (G := G145) (c := c145) (envCons_good good178 envNil_good) Try.func145 (by kernel_rfl) (by kernel_rfl) (0, 0) (fun args bs rs out t h h2 => ?_)
  unfold E145 at h
  split at h
  · injection h with h
    subst h
    exact ⟨rfl, [], loopNil, K145, (by intro x hx; simp [show loopsOf c145 = [] from by kernel_rfl] at hx), (fun r t h => by unfold K145 at h; split at h; (injection h with h; subst h; rfl); cases h), (ev145 _ _ _).trans h2⟩
  · cases h
/-! ### I.areBoth_1 -/
noncomputable def G187 : Env := (envCons 131 [] E131 (envCons 145 [] E145 envNil))
noncomputable def c187 : Code := bodyOf Try.f187
noncomputable def I.areBoth_1 (a1 a2 a3 a4 a5 a6 : Int) (a7 : Bool) (a8 : Int) (a9 a10 : List Int) : Option (Bool × Int × List Int) :=
(Option.bind (I.isPane a1 a2 a3 a4 a5 a6 a7 a10) fun r11 =>
(bif (!r11) then
(some (true, a8, a9))
else
(Option.bind (I.Lat_has a8 a5 a9) fun r12 =>
(bif (!r12) then
(some (true, a8, a9))
else
(some ((decide (1000 < a6)), a8, a9))))))
noncomputable def R187 (x : Bool × Int × List Int) : Res := ⟨[.one (ab x.1)], [(51, [ai x.2.1, .sl 0])], [⟨117, (.int .u64), x.2.2, .rop⟩]⟩
noncomputable def K187 (r : Res) : Option (Bool × Int × List Int) :=
  match r with
  | ⟨[.one (.val (.bool v1))], [(51, [.val (.int .i64 v2), .sl 0])], [⟨117, (.int .u64), v3, .rop⟩]⟩ => some (v1, v2, v3)
  | _ => none
noncomputable def E187 : Fun2 := fun args bs rs =>
  match args, bs, rs with
  | [.s1 (.agg [.val (.int .i64 a1), .val (.int .i64 a2), .val (.int .i64 a3), .val (.int .i64 a4), .val (.int .i64 a5), .val (.int .i64 a6), .sl 1, .val (.bool a7)]), .s1 (.one (.ptr 0 0))], [(51, [.val (.int .i64 a8), .sl 0])], [⟨117, (.int .u64), a9, .rop⟩, ⟨3, (.int .i64), a10, .ro⟩] => some ⟨Bool × Int × List Int, I.areBoth_1 a1 a2 a3 a4 a5 a6 a7 a8 a9 a10, R187⟩
  | _, _, _ => none
theorem ev187 (a1 a2 a3 a4 a5 a6 : Int) (a7 : Bool) (a8 : Int) (a9 a10 : List Int) : evF Try.prog G187 loopNil (1, 1) [] Try.f187 c187 [.s1 (.agg [ai a1, ai a2, ai a3, ai a4, ai a5, ai a6, .sl 1, ab a7]), vp 0 0] [(51, [ai a8, .sl 0])] [⟨117, (.int .u64), a9, .rop⟩, ⟨3, (.int .i64), a10, .ro⟩] K187 = I.areBoth_1 a1 a2 a3 a4 a5 a6 a7 a8 a9 a10 := by kernel_rfl
theorem good187 : Vm.Good Try.prog 187 E187 := by
  refine evF_good (G := G187) (c := c187) (envCons_good good131 (envCons_good good145 envNil_good)) Try.func187 (by kernel_rfl) (by kernel_rfl) (1, 1) (fun args bs rs out t h h2 => ?_)
  unfold E187 at h
  split at h
  · injection h with h
    subst h
    exact ⟨rfl, [], loopNil, K187, (by intro x hx; simp [show loopsOf c187 = [] from by kernel_rfl] at hx), (fun r t h => by unfold K187 at h; split at h; (injection h with h; subst h; rfl); cases h), (ev187 _ _ _ _ _ _ _ _ _ _).trans h2⟩
  · cases h
/-! ### G.slices.IndexFunc_Pane -/
noncomputable def G234 : Env := (envCons 187 [] E187 envNil)
noncomputable def c234 : Code := bodyOf Try.f234
noncomputable def c234_2 : Code := (loopsOf c234).getD 0 .skip
noncomputable def G.slices.IndexFunc_Pane_l0 : Nat → (Int → Int → List Int → Option (Int × Int × List Int)) → (Int → List Int → Option (Int × Int × List Int)) → Int → Int → Int → List Int → (List (Int × Int × Int × Int × Int × Int × List Int × Bool)) → Option (Int × Int × List Int)
  | 0, _, _, _, _, _, _, _ => none
  | m + 1, e2_0, e2_1, a5, a6, a7, a8, a9 =>
    (bif (decide (a6 < a5)) then
    (bif decide ((0 : Int) ≤ a6 ∧ a6 < (a9.length : Int)) then
    (Option.bind (I.areBoth_1 ((nthI a9 a6 ((0 : Int), ((0 : Int), ((0 : Int), ((0 : Int), ((0 : Int), ((0 : Int), ([], false)))))))).1) ((nthI a9 a6 ((0 : Int), ((0 : Int), ((0 : Int), ((0 : Int), ((0 : Int), ((0 : Int), ([], false)))))))).2.1) ((nthI a9 a6 ((0 : Int), ((0 : Int), ((0 : Int), ((0 : Int), ((0 : Int), ((0 : Int), ([], false)))))))).2.2.1) ((nthI a9 a6 ((0 : Int), ((0 : Int), ((0 : Int), ((0 : Int), ((0 : Int), ((0 : Int), ([], false)))))))).2.2.2.1) ((nthI a9 a6 ((0 : Int), ((0 : Int), ((0 : Int), ((0 : Int), ((0 : Int), ((0 : Int), ([], false)))))))).2.2.2.2.1) ((nthI a9 a6 ((0 : Int), ((0 : Int), ((0 : Int), ((0 : Int), ((0 : Int), ((0 : Int), ([], false)))))))).2.2.2.2.2.1) ((nthI a9 a6 ((0 : Int), ((0 : Int), ((0 : Int), ((0 : Int), ((0 : Int), ((0 : Int), ([], false)))))))).2.2.2.2.2.2.2) a7 a8 ((nthI a9 a6 ((0 : Int), ((0 : Int), ((0 : Int), ((0 : Int), ((0 : Int), ((0 : Int), ([], false)))))))).2.2.2.2.2.2.1)) fun r11 =>
    (bif r11.1 then
    (e2_0 a6 r11.2.1 a8)
    else
    (G.slices.IndexFunc_Pane_l0 m e2_0 e2_1 a5 (IntKind.wrap .i64 (a6 + 1)) r11.2.1 a8 a9)))
    else
    none)
    else
    (e2_1 a7 a8))
noncomputable def G.slices.IndexFunc_Pane (a1 : Int) (a2 : List Int) (a3 : List (Int × Int × Int × Int × Int × Int × List Int × Bool)) : Option (Int × Int × List Int) :=
(G.slices.IndexFunc_Pane_l0 fu (fun y13 y14 y15 =>
(some (y13, y14, y15))) (fun y16 y17 =>
(some ((-1), y16, y17))) (a3.length : Int) 0 a1 a2 a3)
noncomputable def H234_2 : LoopH := ⟨⟨((.one (.sl 1)) :: (.one (.fn 187 [(0, 0)])) :: (hu 5 (hh :: hh :: (hu 10 [])))), [(51, [.hole, .sl 0])], [(117, (.int .u64), .rop), (68, (.pair (.int .i64) (.pair (.int .i64) (.pair (.int .i64) (.pair (.int .i64) (.pair (.int .i64) (.pair (.int .i64) (.pair (.sl 3 (.int .i64)) .bool))))))), .ro)]⟩, [2, 3, 4, 5, 6, 9, 10, 11, 12, 13, 14, 15, 16, 17, 18], [], [0, 1, 2, 3, 5, 6, 7, 8, 9, 10, 11, 12, 13, 14, 15, 16, 17, 18]⟩
noncomputable def E234_2 (m : Nat) (ps : List Prm) (k : Kont (Int × Int × List Int)) : Option (Int × Int × List Int) :=
  match ps with
  | [.v (.int .i64 a5), .v (.int .i64 a6), .v (.int .i64 a7), .row (.int .u64) a8, .row (.pair (.int .i64) (.pair (.int .i64) (.pair (.int .i64) (.pair (.int .i64) (.pair (.int .i64) (.pair (.int .i64) (.pair (.sl 3 (.int .i64)) .bool))))))) a9] => G.slices.IndexFunc_Pane_l0 m (fun z23 z24 z25 => k .ret (⟨(vu 4 ((vi z23) :: (vu 14 []))), [(51, [ai z24, .sl 0])], [⟨117, (.int .u64), z25, .rop⟩]⟩ : St)) (fun z26 z27 => k (.exit 0) (⟨(vu 19 []), [(51, [ai z26, .sl 0])], [⟨117, (.int .u64), z27, .rop⟩]⟩ : St)) a5 a6 a7 a8 a9
  | _ => none
noncomputable def S234_2 (a5 a6 a7 : Int) (a8 : List Int) (a9 : List (Int × Int × Int × Int × Int × Int × List Int × Bool)) : St := (⟨((vl 1) :: (.s1 (.one (.fn 187 [(0, 0)]))) :: (vu 5 ((vi a5) :: (vi a6) :: (vu 10 [])))), [(51, [ai a7, .sl 0])], [⟨117, (.int .u64), a8, .rop⟩, ⟨68, (.pair (.int .i64) (.pair (.int .i64) (.pair (.int .i64) (.pair (.int .i64) (.pair (.int .i64) (.pair (.int .i64) (.pair (.sl 3 (.int .i64)) .bool))))))), a9, .ro⟩]⟩ : St)
theorem ev234_2 (m : Nat) (k : Kont (Int × Int × List Int)) (a5 a6 a7 : Int) (a8 : List Int) (a9 : List (Int × Int × Int × Int × Int × Int × List Int × Bool)) : evC Try.prog G234 loopNil c234_2 (S234_2 a5 a6 a7 a8 a9) (turn Try.prog (1, 1) H234_2 (E234_2 m) k) = E234_2 (m + 1) [.v (.int .i64 a5), .v (.int .i64 a6), .v (.int .i64 a7), .row (.int .u64) a8, .row (.pair (.int .i64) (.pair (.int .i64) (.pair (.int .i64) (.pair (.int .i64) (.pair (.int .i64) (.pair (.int .i64) (.pair (.sl 3 (.int .i64)) .bool))))))) a9] k := by kernel_rfl
theorem ok234_2 (m : Nat) : LoopOk Try.prog (1, 1) c234_2 (enter Try.prog (1, 1) H234_2 (E234_2 m)) := by
  refine loop_ok (G := G234) (L := loopNil) (envCons_good good187 envNil_good) (by intro x hx; simp [show loopsOf c234_2 = [] from by kernel_rfl] at hx) (fun ps k => by unfold E234_2; split <;> rfl) (fun m ps k r h => ?_) m
  have h0 := h
  unfold E234_2 at h
  split at h
  · exact ⟨S234_2 _ _ _ _ _, by kernel_rfl, (ev234_2 m k _ _ _ _ _).trans h0⟩
  · cases h
noncomputable def L234 : LEnv (Int × Int × List Int) := (loopCons 2 (enter Try.prog (1, 1) H234_2 (E234_2 fu)) loopNil)
theorem lq234 : loopsOf c234 = [c234_2] := by kernel_rfl
theorem fr234_2 : firstReg c234_2 = some 2 := by kernel_rfl
theorem le234_2 : L234 2 = enter Try.prog (1, 1) H234_2 (E234_2 fu) := by kernel_rfl
theorem lm234 : ∀ x ∈ [c234_2], ∀ id, firstReg x = some id → LoopOk Try.prog (1, 1) x (L234 id) := (loops_cons fr234_2 le234_2 (ok234_2 fu) loops_nil)
theorem lp234 : ∀ x ∈ loopsOf c234, ∀ id, firstReg x = some id → LoopOk Try.prog (1, 1) x (L234 id) := loops_eq lq234 lm234
noncomputable def R234 (x : Int × Int × List Int) : Res := ⟨[.one (ai x.1)], [(51, [ai x.2.1, .sl 0])], [⟨117, (.int .u64), x.2.2, .rop⟩]⟩
noncomputable def K234 (r : Res) : Option (Int × Int × List Int) :=
  match r with
  | ⟨[.one (.val (.int .i64 v1))], [(51, [.val (.int .i64 v2), .sl 0])], [⟨117, (.int .u64), v3, .rop⟩]⟩ => some (v1, v2, v3)
  | _ => none
noncomputable def E234 : Fun2 := fun args bs rs =>
  match args, bs, rs with
  | [.s1 (.one (.sl 1)), .s1 (.one (.fn 187 [(0, 0)]))], [(51, [.val (.int .i64 a1), .sl 0])], [⟨117, (.int .u64), a2, .rop⟩, ⟨68, (.pair (.int .i64) (.pair (.int .i64) (.pair (.int .i64) (.pair (.int .i64) (.pair (.int .i64) (.pair (.int .i64) (.pair (.sl 3 (.int .i64)) .bool))))))), a3, .ro⟩] => some ⟨Int × Int × List Int, G.slices.IndexFunc_Pane a1 a2 a3, R234⟩
  | _, _, _ => none
theorem ev234 (a1 : Int) (a2 : List Int) (a3 : List (Int × Int × Int × Int × Int × Int × List Int × Bool)) : evF Try.prog G234 L234 (1, 1) [] Try.f234 c234 [vl 1, .s1 (.one (.fn 187 [(0, 0)]))] [(51, [ai a1, .sl 0])] [⟨117, (.int .u64), a2, .rop⟩, ⟨68, (.pair (.int .i64) (.pair (.int .i64) (.pair (.int .i64) (.pair (.int .i64) (.pair (.int .i64) (.pair (.int .i64) (.pair (.sl 3 (.int .i64)) .bool))))))), a3, .ro⟩] K234 = G.slices.IndexFunc_Pane a1 a2 a3 := by kernel_rfl
theorem good234 : Vm.Good Try.prog 234 E234 := by
  refine evF_good (G := G234) (c := c234) (envCons_good good187 envNil_good) Try.func234 (by kernel_rfl) (by kernel_rfl) (1, 1) (fun args bs rs out t h h2 => ?_)
  unfold E234 at h
  split at h
  · injection h with h
    subst h
    exact ⟨rfl, [], L234, K234, lp234, (fun r t h => by unfold K234 at h; split at h; (injection h with h; subst h; rfl); cases h), (ev234 _ _ _).trans h2⟩
  · cases h
/-! ### G.slices.ContainsFunc_Pane -/
noncomputable def G186 : Env := (envCons 234 [] E234 envNil)
noncomputable def c186 : Code := bodyOf Try.f186
noncomputable def G.slices.ContainsFunc_Pane (a1 : Int) (a2 : List Int) (a3 : List (Int × Int × Int × Int × Int × Int × List Int × Bool)) : Option (Bool × Int × List Int) :=
(Option.bind (G.slices.IndexFunc_Pane a1 a2 a3) fun r4 =>
(some ((decide (0 ≤ r4.1)), r4.2.1, a2)))
noncomputable def R186 (x : Bool × Int × List Int) : Res := ⟨[.one (ab x.1)], [(51, [ai x.2.1, .sl 0])], [⟨117, (.int .u64), x.2.2, .rop⟩]⟩
noncomputable def K186 (r : Res) : Option (Bool × Int × List Int) :=
  match r with
  | ⟨[.one (.val (.bool v1))], [(51, [.val (.int .i64 v2), .sl 0])], [⟨117, (.int .u64), v3, .rop⟩]⟩ => some (v1, v2, v3)
  | _ => none
noncomputable def E186 : Fun2 := fun args bs rs =>
  match args, bs, rs with
  | [.s1 (.one (.sl 1)), .s1 (.one (.fn 187 [(0, 0)]))], [(51, [.val (.int .i64 a1), .sl 0])], [⟨117, (.int .u64), a2, .rop⟩, ⟨68, (.pair (.int .i64) (.pair (.int .i64) (.pair (.int .i64) (.pair (.int .i64) (.pair (.int .i64) (.pair (.int .i64) (.pair (.sl 3 (.int .i64)) .bool))))))), a3, .ro⟩] => some ⟨Bool × Int × List Int, G.slices.ContainsFunc_Pane a1 a2 a3, R186⟩
  | _, _, _ => none
theorem ev186 (a1 : Int) (a2 : List Int) (a3 : List (Int × Int × Int × Int × Int × Int × List Int × Bool)) : evF Try.prog G186 loopNil (1, 1) [] Try.f186 c186 [vl 1, .s1 (.one (.fn 187 [(0, 0)]))] [(51, [ai a1, .sl 0])] [⟨117, (.int .u64), a2, .rop⟩, ⟨68, (.pair (.int .i64) (.pair (.int .i64) (.pair (.int .i64) (.pair (.int .i64) (.pair (.int .i64) (.pair (.int .i64) (.pair (.sl 3 (.int .i64)) .bool))))))), a3, .ro⟩] K186 = G.slices.ContainsFunc_Pane a1 a2 a3 := by kernel_rfl
theorem good186 : Vm.Good Try.prog 186 E186 := by
  refine evF_good (G := G186) (c := c186) (envCons_good good234 envNil_good) Try.func186 (by kernel_rfl) (by kernel_rfl) (1, 1) (fun args bs rs out t h h2 => ?_)
  unfold E186 at h
  split at h
  · injection h with h
    subst h
    exact ⟨rfl, [], loopNil, K186, (by intro x hx; simp [show loopsOf c186 = [] from by kernel_rfl] at hx), (fun r t h => by unfold K186 at h; split at h; (injection h with h; subst h; rfl); cases h), (ev186 _ _ _).trans h2⟩
  · cases h
/-! ### I.areBoth -/
noncomputable def G108 : Env := (envCons 186 [] E186 envNil)
noncomputable def c108 : Code := bodyOf Try.f108
noncomputable def I.areBoth (a1 : Int) (a2 : List Int) (a3 : List (Int × Int × Int × Int × Int × Int × List Int × Bool)) : Option Bool :=
(bif (decide ((a3.length : Int) ≤ 100)) then
(Option.bind (G.slices.ContainsFunc_Pane a1 a2 a3) fun r6 =>
(some (!r6.1)))
else
(some false))
noncomputable def R108 (x : Bool) : Res := ⟨[.one (ab x)], [], []⟩
noncomputable def K108 (r : Res) : Option Bool :=
  match r with
  | ⟨[.one (.val (.bool v1))], [], []⟩ => some (v1)
  | _ => none
noncomputable def E108 : Fun2 := fun args bs rs =>
  match args, bs, rs with
  | [.s1 (.agg [.val (.int .i64 a1), .sl 0]), .s1 (.one (.sl 1))], [], [⟨117, (.int .u64), a2, .ro⟩, ⟨68, (.pair (.int .i64) (.pair (.int .i64) (.pair (.int .i64) (.pair (.int .i64) (.pair (.int .i64) (.pair (.int .i64) (.pair (.sl 3 (.int .i64)) .bool))))))), a3, .ro⟩] => some ⟨Bool, I.areBoth a1 a2 a3, R108⟩
  | _, _, _ => none
theorem ev108 (a1 : Int) (a2 : List Int) (a3 : List (Int × Int × Int × Int × Int × Int × List Int × Bool)) : evF Try.prog G108 loopNil (0, 0) [] Try.f108 c108 [.s1 (.agg [ai a1, .sl 0]), vl 1] [] [⟨117, (.int .u64), a2, .ro⟩, ⟨68, (.pair (.int .i64) (.pair (.int .i64) (.pair (.int .i64) (.pair (.int .i64) (.pair (.int .i64) (.pair (.int .i64) (.pair (.sl 3 (.int .i64)) .bool))))))), a3, .ro⟩] K108 = I.areBoth a1 a2 a3 := by kernel_rfl
theorem good108 : Vm.Good Try.prog 108 E108 := by
  refine evF_good (G := G108) (c := c108) (envCons_good good186 envNil_good) Try.func108 (by kernel_rfl) (by kernel_rfl) (0, 0) (fun args bs rs out t h h2 => ?_)
  unfold E108 at h
  split at h
  · injection h with h
    subst h
    exact ⟨rfl, [], loopNil, K108, (by intro x hx; simp [show loopsOf c108 = [] from by kernel_rfl] at hx), (fun r t h => by unfold K108 at h; split at h; (injection h with h; subst h; rfl); cases h), (ev108 _ _ _).trans h2⟩
  · cases h
/-! ### I.Lat_join -/
noncomputable def G109 : Env := (envCons 185 [] E185 envNil)
noncomputable def c109 : Code := bodyOf Try.f109
noncomputable def I.Lat_join (a1 a2 a3 : Int) (a4 : List Int) : Option Int :=
(Option.bind (I.Lat_bound a1 a2 a3 true a4) fun r5 =>
(some r5))
noncomputable def R109 (x : Int) : Res := ⟨[.one (ai x)], [], []⟩
noncomputable def K109 (r : Res) : Option Int :=
  match r with
  | ⟨[.one (.val (.int .i64 v1))], [], []⟩ => some (v1)
  | _ => none
noncomputable def E109 : Fun2 := fun args bs rs =>
  match args, bs, rs with
  | [.s1 (.agg [.val (.int .i64 a1), .sl 0]), .s1 (.one (.val (.int .i64 a2))), .s1 (.one (.val (.int .i64 a3)))], [], [⟨117, (.int .u64), a4, .ro⟩] => some ⟨Int, I.Lat_join a1 a2 a3 a4, R109⟩
  | _, _, _ => none
theorem ev109 (a1 a2 a3 : Int) (a4 : List Int) : evF Try.prog G109 loopNil (0, 0) [] Try.f109 c109 [.s1 (.agg [ai a1, .sl 0]), vi a2, vi a3] [] [⟨117, (.int .u64), a4, .ro⟩] K109 = I.Lat_join a1 a2 a3 a4 := by kernel_rfl
theorem good109 : Vm.Good Try.prog 109 E109 := by
  refine evF_good (G := G109) (c := c109) (envCons_good good185 envNil_good) Try.func109 (by kernel_rfl) (by kernel_rfl) (0, 0) (fun args bs rs out t h h2 => ?_)
  unfold E109 at h
  split at h
  · injection h with h
    subst h
    exact ⟨rfl, [], loopNil, K109, (by intro x hx; simp [show loopsOf c109 = [] from by kernel_rfl] at hx), (fun r t h => by unfold K109 at h; split at h; (injection h with h; subst h; rfl); cases h), (ev109 _ _ _ _).trans h2⟩
  · cases h
/-! ### G.slices.Clone_int -/
noncomputable def G110 : Env := envNil
noncomputable def c110 : Code := bodyOf Try.f110
noncomputable def G.slices.Clone_int (a1 : List Int) : Option (List Int) :=
(bif decide (a1.length = 0) then
(same (some [])
(bif decide ((([] : List (Int)).length + a1.length) * 8 ≤ 140737488355328) then
(some (([] : List (Int)) ++ a1))
else
none))
else
(bif decide ((([] : List (Int)).length + a1.length) * 8 ≤ 140737488355328) then
(some (([] : List (Int)) ++ a1))
else
none))
noncomputable def R110 (x : List Int) : Res := ⟨[.one (.sl 0)], [], [⟨3, (.int .i64), x, .own⟩]⟩
noncomputable def K110 (r : Res) : Option (List Int) :=
  match r with
  | ⟨[.one (.sl 0)], [], [⟨3, (.int .i64), v1, .own⟩]⟩ => some (v1)
  | _ => none
noncomputable def E110 : Fun2 := fun args bs rs =>
  match args, bs, rs with
  | [.s1 (.one (.sl 0))], [], [⟨3, (.int .i64), a1, .ro⟩] => some ⟨List Int, G.slices.Clone_int a1, R110⟩
  | _, _, _ => none
theorem ev110 (a1 : List Int) : evF Try.prog G110 loopNil (0, 0) [] Try.f110 c110 [vl 0] [] [⟨3, (.int .i64), a1, .ro⟩] K110 = G.slices.Clone_int a1 := by kernel_rfl
theorem good110 : Vm.Good Try.prog 110 E110 := by
  refine evF_good (G := G110) (c := c110) envNil_good Try.func110 (by kernel_rfl) (by kernel_rfl) (0, 0) (fun args bs rs out t h h2 => ?_)
  unfold E110 at h
  split at h
  · injection h with h
    subst h
    exact ⟨rfl, [], loopNil, K110, (by intro x hx; simp [show loopsOf c110 = [] from by kernel_rfl] at hx), (fun r t h => by unfold K110 at h; split at h; (injection h with h; subst h; rfl); cases h), (ev110 _).trans h2⟩
  · cases h
/-! ### I.BothOf -/
noncomputable def G34 : Env := (envCons 107 [] E107 (envCons 108 [] E108 (envCons 109 [] E109 (envCons 110 [] E110 envNil))))
noncomputable def c34 : Code := bodyOf Try.f34
noncomputable def c34_5 : Code := (loopsOf c34).getD 0 .skip
noncomputable def c34_8 : Code := (loopsOf c34_5).getD 0 .skip
noncomputable def I.BothOf_l1 : Nat → (Int → Int → Int → (List (Int × Int × Int × Int × Int × Int × List Int × Bool)) → (List (Int × Int × Int × Int × Int × List Int × List Int)) → (List (Int × Int × Int × Int × Int × Int × List Int × Bool)) → List Int → Option (Bool × (List (Int × Int × Int × Int × Int × List Int × List Int)))) → Int → Int → Int → Int → Int → Int → Int → Int → Int → Int → Int → Bool → (List (Int × Int × Int × Int × Int × Int × List Int × Bool)) → (List (Int × Int × Int × Int × Int × List Int × List Int)) → (List (Int × Int × Int × Int × Int × Int × List Int × Bool)) → List Int → List Int → Option (Bool × (List (Int × Int × Int × Int × Int × List Int × List Int)))
  | 0, _, _, _, _, _, _, _, _, _, _, _, _, _, _, _, _, _, _ => none
  | m + 1, e8_0, a18, a19, a20, a21, a22, a23, a24, a25, a26, a27, a28, a29, a30, a31, a32, a33, a34 =>
    (bif (decide (a21 < a20)) then
    (bif decide ((0 : Int) ≤ a21 ∧ a21 < (a30.length : Int)) then
    (let v36 : Bool := (a24 == (nthI a30 a21 ((0 : Int), ((0 : Int), ((0 : Int), ((0 : Int), ((0 : Int), ((0 : Int), ([], false)))))))).2.1)
    (bif v36 then
    (let v37 : Bool := (a25 == (nthI a30 a21 ((0 : Int), ((0 : Int), ((0 : Int), ((0 : Int), ((0 : Int), ((0 : Int), ([], false)))))))).2.2.1)
    (bif v37 then
    (let v38 : Bool := (a26 == (nthI a30 a21 ((0 : Int), ((0 : Int), ((0 : Int), ((0 : Int), ((0 : Int), ((0 : Int), ([], false)))))))).2.2.2.1)
    (bif v38 then
    (let v39 : Int := (IntKind.wrap .i64 (a28 * (nthI a30 a21 ((0 : Int), ((0 : Int), ((0 : Int), ((0 : Int), ((0 : Int), ((0 : Int), ([], false)))))))).2.2.2.2.2.1))
    (Option.bind (I.Lat_join a22 a27 ((nthI a30 a21 ((0 : Int), ((0 : Int), ((0 : Int), ((0 : Int), ((0 : Int), ((0 : Int), ([], false)))))))).2.2.2.2.1) a33) fun r40 =>
    (Option.bind (G.slices.Clone_int a34) fun r41 =>
    (Option.bind (G.slices.Clone_int ((nthI a30 a21 ((0 : Int), ((0 : Int), ((0 : Int), ((0 : Int), ((0 : Int), ((0 : Int), ([], false)))))))).2.2.2.2.2.2.1)) fun r42 =>
    (let v43 : List (Int × Int × Int × Int × Int × List Int × List Int) := [(a24, (a25, (a26, (r40, (v39, (r41, r42))))))]
    (bif decide ((a31.length + v43.length) * 88 ≤ 140737488355328) then
    (I.BothOf_l1 m e8_0 a18 a19 a20 (IntKind.wrap .i64 (a21 + 1)) a22 a23 a24 a25 a26 a27 a28 a29 a30 (a31 ++ v43) a32 a33 a34)
    else
    none))))))
    else
    (I.BothOf_l1 m e8_0 a18 a19 a20 (IntKind.wrap .i64 (a21 + 1)) a22 a23 a24 a25 a26 a27 a28 a29 a30 a31 a32 a33 a34)))
    else
    (I.BothOf_l1 m e8_0 a18 a19 a20 (IntKind.wrap .i64 (a21 + 1)) a22 a23 a24 a25 a26 a27 a28 a29 a30 a31 a32 a33 a34)))
    else
    (I.BothOf_l1 m e8_0 a18 a19 a20 (IntKind.wrap .i64 (a21 + 1)) a22 a23 a24 a25 a26 a27 a28 a29 a30 a31 a32 a33 a34)))
    else
    none)
    else
    (e8_0 a18 a19 a22 a30 a31 a32 a33))
noncomputable def I.BothOf_l0 : Nat → ((List (Int × Int × Int × Int × Int × List Int × List Int)) → Option (Bool × (List (Int × Int × Int × Int × Int × List Int × List Int)))) → Int → Int → Int → (List (Int × Int × Int × Int × Int × Int × List Int × Bool)) → (List (Int × Int × Int × Int × Int × List Int × List Int)) → (List (Int × Int × Int × Int × Int × Int × List Int × Bool)) → List Int → Option (Bool × (List (Int × Int × Int × Int × Int × List Int × List Int)))
  | 0, _, _, _, _, _, _, _, _ => none
  | m + 1, e5_0, a9, a10, a11, a12, a13, a14, a15 =>
    (bif (decide (a10 < a9)) then
    (bif decide ((0 : Int) ≤ a10 ∧ a10 < (a14.length : Int)) then
    (I.BothOf_l1 fu (fun y48 y49 y50 y51 y52 y53 y54 =>
    (I.BothOf_l0 m e5_0 y48 (IntKind.wrap .i64 (y49 + 1)) y50 y51 y52 y53 y54)) a9 a10 (a12.length : Int) 0 a11 ((nthI a14 a10 ((0 : Int), ((0 : Int), ((0 : Int), ((0 : Int), ((0 : Int), ((0 : Int), ([], false)))))))).1) ((nthI a14 a10 ((0 : Int), ((0 : Int), ((0 : Int), ((0 : Int), ((0 : Int), ((0 : Int), ([], false)))))))).2.1) ((nthI a14 a10 ((0 : Int), ((0 : Int), ((0 : Int), ((0 : Int), ((0 : Int), ((0 : Int), ([], false)))))))).2.2.1) ((nthI a14 a10 ((0 : Int), ((0 : Int), ((0 : Int), ((0 : Int), ((0 : Int), ((0 : Int), ([], false)))))))).2.2.2.1) ((nthI a14 a10 ((0 : Int), ((0 : Int), ((0 : Int), ((0 : Int), ((0 : Int), ((0 : Int), ([], false)))))))).2.2.2.2.1) ((nthI a14 a10 ((0 : Int), ((0 : Int), ((0 : Int), ((0 : Int), ((0 : Int), ((0 : Int), ([], false)))))))).2.2.2.2.2.1) ((nthI a14 a10 ((0 : Int), ((0 : Int), ((0 : Int), ((0 : Int), ((0 : Int), ((0 : Int), ([], false)))))))).2.2.2.2.2.2.2) a12 a13 a14 a15 ((nthI a14 a10 ((0 : Int), ((0 : Int), ((0 : Int), ((0 : Int), ((0 : Int), ((0 : Int), ([], false)))))))).2.2.2.2.2.2.1))
    else
    none)
    else
    (e5_0 a13))
noncomputable def I.BothOf (a1 : Int) (a2 : List Int) (a3 a4 : List (Int × Int × Int × Int × Int × Int × List Int × Bool)) : Option (Bool × (List (Int × Int × Int × Int × Int × List Int × List Int))) :=
(Option.bind (I.isLat a1 a2) fun r5 =>
(bif (!r5) then
(some (false, []))
else
(Option.bind (I.areBoth a1 a2 a3) fun r6 =>
(bif (!r6) then
(some (false, []))
else
(Option.bind (I.areBoth a1 a2 a4) fun r7 =>
(bif (!r7) then
(some (false, []))
else
(I.BothOf_l0 fu (fun y56 =>
(some (true, y56))) (a3.length : Int) 0 a1 a4 [] a3 a2)))))))
noncomputable def H34_8 : LoopH := ⟨⟨(hu 2 ((.one (.sl 0)) :: (.one (.ptr 0 0)) :: (hu 4 ((.one (.sl 1)) :: (.one (.unk)) :: (.one (.ptr 1 0)) :: (hu 18 ((.one (.sl 2)) :: hh :: hh :: (hu 3 ((.one (.sl 0)) :: hh :: hh :: (hu 52 []))))))))), [(51, [.hole, .sl 3]), (68, [.hole, .hole, .hole, .hole, .hole, .hole, .sl 4, .hole])], [(68, (.pair (.int .i64) (.pair (.int .i64) (.pair (.int .i64) (.pair (.int .i64) (.pair (.int .i64) (.pair (.int .i64) (.pair (.sl 3 (.int .i64)) .bool))))))), .ro), (164, (.pair (.int .i64) (.pair (.int .i64) (.pair (.int .i64) (.pair (.int .i64) (.pair (.int .i64) (.pair (.sl 3 (.int .i64)) (.sl 3 (.int .i64)))))))), .own), (68, (.pair (.int .i64) (.pair (.int .i64) (.pair (.int .i64) (.pair (.int .i64) (.pair (.int .i64) (.pair (.int .i64) (.pair (.sl 3 (.int .i64)) .bool))))))), .ro), (117, (.int .u64), .ro), (3, (.int .i64), .ro)]⟩, [0, 1, 4, 5, 6, 7, 9, 11, 12, 13, 14, 15, 16, 17, 18, 19, 20, 21, 22, 23, 24, 25, 26, 27, 28, 32, 33, 34, 38, 39, 40, 41, 42, 43, 44, 45, 46, 47, 48, 49, 50, 51, 52, 53, 54, 55, 56, 57, 58, 59, 60, 61, 62, 63, 64, 65, 66, 67, 68, 69, 70, 71, 72, 73, 74, 75, 76, 77, 78, 79, 80, 81, 82, 83, 84, 85, 86, 87, 88, 89], [], [0, 1, 4, 5, 9, 10, 11, 12, 13, 14, 15, 16, 17, 18, 19, 20, 21, 22, 23, 24, 25, 26, 27, 28, 32, 33, 34, 35, 36, 37, 38, 39, 40, 41, 42, 43, 44, 45, 46, 47, 48, 49, 50, 51, 52, 53, 54, 55, 56, 57, 58, 59, 60, 61, 62, 63, 64, 65, 66, 67, 68, 69, 70, 71, 72, 73, 74, 75, 76, 77, 78, 79, 80, 81, 82, 83, 84, 85, 86, 87, 88, 89]⟩
noncomputable def E34_8 (m : Nat) (ps : List Prm) (k : Kont (Bool × (List (Int × Int × Int × Int × Int × List Int × List Int)))) : Option (Bool × (List (Int × Int × Int × Int × Int × List Int × List Int))) :=
  match ps with
  | [.v (.int .i64 a18), .v (.int .i64 a19), .v (.int .i64 a20), .v (.int .i64 a21), .v (.int .i64 a22), .v (.int .i64 a23), .v (.int .i64 a24), .v (.int .i64 a25), .v (.int .i64 a26), .v (.int .i64 a27), .v (.int .i64 a28), .v (.bool a29), .row (.pair (.int .i64) (.pair (.int .i64) (.pair (.int .i64) (.pair (.int .i64) (.pair (.int .i64) (.pair (.int .i64) (.pair (.sl 3 (.int .i64)) .bool))))))) a30, .row (.pair (.int .i64) (.pair (.int .i64) (.pair (.int .i64) (.pair (.int .i64) (.pair (.int .i64) (.pair (.sl 3 (.int .i64)) (.sl 3 (.int .i64)))))))) a31, .row (.pair (.int .i64) (.pair (.int .i64) (.pair (.int .i64) (.pair (.int .i64) (.pair (.int .i64) (.pair (.int .i64) (.pair (.sl 3 (.int .i64)) .bool))))))) a32, .row (.int .u64) a33, .row (.int .i64) a34] => I.BothOf_l1 m (fun z65 z66 z67 z68 z69 z70 z71 => k (.exit 2) (⟨(vu 2 ((vl 0) :: (vp 0 0) :: (vu 4 ((vl 1) :: (vu 20 ((vl 2) :: (vi z65) :: (vi z66) :: (vu 58 []))))))), [(51, [ai z67, .sl 3])], [⟨68, (.pair (.int .i64) (.pair (.int .i64) (.pair (.int .i64) (.pair (.int .i64) (.pair (.int .i64) (.pair (.int .i64) (.pair (.sl 3 (.int .i64)) .bool))))))), z68, .ro⟩, ⟨164, (.pair (.int .i64) (.pair (.int .i64) (.pair (.int .i64) (.pair (.int .i64) (.pair (.int .i64) (.pair (.sl 3 (.int .i64)) (.sl 3 (.int .i64)))))))), z69, .own⟩, ⟨68, (.pair (.int .i64) (.pair (.int .i64) (.pair (.int .i64) (.pair (.int .i64) (.pair (.int .i64) (.pair (.int .i64) (.pair (.sl 3 (.int .i64)) .bool))))))), z70, .ro⟩, ⟨117, (.int .u64), z71, .ro⟩]⟩ : St)) a18 a19 a20 a21 a22 a23 a24 a25 a26 a27 a28 a29 a30 a31 a32 a33 a34
  | _ => none
noncomputable def S34_8 (a18 a19 a20 a21 a22 a23 a24 a25 a26 a27 a28 : Int) (a29 : Bool) (a30 : List (Int × Int × Int × Int × Int × Int × List Int × Bool)) (a31 : List (Int × Int × Int × Int × Int × List Int × List Int)) (a32 : List (Int × Int × Int × Int × Int × Int × List Int × Bool)) (a33 a34 : List Int) : St := (⟨(vu 2 ((vl 0) :: (vp 0 0) :: (vu 4 ((vl 1) :: (.s1 (.one (.unk))) :: (vp 1 0) :: (vu 18 ((vl 2) :: (vi a18) :: (vi a19) :: (vu 3 ((vl 0) :: (vi a20) :: (vi a21) :: (vu 52 []))))))))), [(51, [ai a22, .sl 3]), (68, [ai a23, ai a24, ai a25, ai a26, ai a27, ai a28, .sl 4, ab a29])], [⟨68, (.pair (.int .i64) (.pair (.int .i64) (.pair (.int .i64) (.pair (.int .i64) (.pair (.int .i64) (.pair (.int .i64) (.pair (.sl 3 (.int .i64)) .bool))))))), a30, .ro⟩, ⟨164, (.pair (.int .i64) (.pair (.int .i64) (.pair (.int .i64) (.pair (.int .i64) (.pair (.int .i64) (.pair (.sl 3 (.int .i64)) (.sl 3 (.int .i64)))))))), a31, .own⟩, ⟨68, (.pair (.int .i64) (.pair (.int .i64) (.pair (.int .i64) (.pair (.int .i64) (.pair (.int .i64) (.pair (.int .i64) (.pair (.sl 3 (.int .i64)) .bool))))))), a32, .ro⟩, ⟨117, (.int .u64), a33, .ro⟩, ⟨3, (.int .i64), a34, .ro⟩]⟩ : St)
theorem ev34_8 (m : Nat) (k : Kont (Bool × (List (Int × Int × Int × Int × Int × List Int × List Int)))) (a18 a19 a20 a21 a22 a23 a24 a25 a26 a27 a28 : Int) (a29 : Bool) (a30 : List (Int × Int × Int × Int × Int × Int × List Int × Bool)) (a31 : List (Int × Int × Int × Int × Int × List Int × List Int)) (a32 : List (Int × Int × Int × Int × Int × Int × List Int × Bool)) (a33 a34 : List Int) : evC Try.prog G34 loopNil c34_8 (S34_8 a18 a19 a20 a21 a22 a23 a24 a25 a26 a27 a28 a29 a30 a31 a32 a33 a34) (turn Try.prog (0, 0) H34_8 (E34_8 m) k) = E34_8 (m + 1) [.v (.int .i64 a18), .v (.int .i64 a19), .v (.int .i64 a20), .v (.int .i64 a21), .v (.int .i64 a22), .v (.int .i64 a23), .v (.int .i64 a24), .v (.int .i64 a25), .v (.int .i64 a26), .v (.int .i64 a27), .v (.int .i64 a28), .v (.bool a29), .row (.pair (.int .i64) (.pair (.int .i64) (.pair (.int .i64) (.pair (.int .i64) (.pair (.int .i64) (.pair (.int .i64) (.pair (.sl 3 (.int .i64)) .bool))))))) a30, .row (.pair (.int .i64) (.pair (.int .i64) (.pair (.int .i64) (.pair (.int .i64) (.pair (.int .i64) (.pair (.sl 3 (.int .i64)) (.sl 3 (.int .i64)))))))) a31, .row (.pair (.int .i64) (.pair (.int .i64) (.pair (.int .i64) (.pair (.int .i64) (.pair (.int .i64) (.pair (.int .i64) (.pair (.sl 3 (.int .i64)) .bool))))))) a32, .row (.int .u64) a33, .row (.int .i64) a34] k := by kernel_rfl
theorem ok34_8 (m : Nat) : LoopOk Try.prog (0, 0) c34_8 (enter Try.prog (0, 0) H34_8 (E34_8 m)) := by
  refine loop_ok (G := G34) (L := loopNil) (envCons_good good107 (envCons_good good108 (envCons_good good109 (envCons_good good110 envNil_good)))) (by intro x hx; simp [show loopsOf c34_8 = [] from by kernel_rfl] at hx) (fun ps k => by unfold E34_8; split <;> rfl) (fun m ps k r h => ?_) m
  have h0 := h
  unfold E34_8 at h
  split at h
  · exact ⟨S34_8 _ _ _ _ _ _ _ _ _ _ _ _ _ _ _ _ _, by kernel_rfl, (ev34_8 m k _ _ _ _ _ _ _ _ _ _ _ _ _ _ _ _ _).trans h0⟩
  · cases h
noncomputable def L34_5 : LEnv (Bool × (List (Int × Int × Int × Int × Int × List Int × List Int))) := (loopCons 8 (enter Try.prog (0, 0) H34_8 (E34_8 fu)) loopNil)
theorem lq34_5 : loopsOf c34_5 = [c34_8] := by kernel_rfl
theorem fr34_8 : firstReg c34_8 = some 8 := by kernel_rfl
theorem le34_8 : L34_5 8 = enter Try.prog (0, 0) H34_8 (E34_8 fu) := by kernel_rfl
theorem lm34_5 : ∀ x ∈ [c34_8], ∀ id, firstReg x = some id → LoopOk Try.prog (0, 0) x (L34_5 id) := (loops_cons fr34_8 le34_8 (ok34_8 fu) loops_nil)
theorem lp34_5 : ∀ x ∈ loopsOf c34_5, ∀ id, firstReg x = some id → LoopOk Try.prog (0, 0) x (L34_5 id) := loops_eq lq34_5 lm34_5
noncomputable def H34_5 : LoopH := ⟨⟨(hu 2 ((.one (.sl 0)) :: (.one (.ptr 0 0)) :: (hu 4 ((.one (.sl 1)) :: (hu 20 ((.one (.sl 2)) :: hh :: hh :: (hu 58 []))))))), [(51, [.hole, .sl 3])], [(68, (.pair (.int .i64) (.pair (.int .i64) (.pair (.int .i64) (.pair (.int .i64) (.pair (.int .i64) (.pair (.int .i64) (.pair (.sl 3 (.int .i64)) .bool))))))), .ro), (164, (.pair (.int .i64) (.pair (.int .i64) (.pair (.int .i64) (.pair (.int .i64) (.pair (.int .i64) (.pair (.sl 3 (.int .i64)) (.sl 3 (.int .i64)))))))), .own), (68, (.pair (.int .i64) (.pair (.int .i64) (.pair (.int .i64) (.pair (.int .i64) (.pair (.int .i64) (.pair (.int .i64) (.pair (.sl 3 (.int .i64)) .bool))))))), .ro), (117, (.int .u64), .ro)]⟩, [0, 1, 4, 5, 6, 7, 9, 10, 11, 12, 13, 14, 15, 16, 17, 18, 19, 20, 21, 22, 23, 24, 25, 26, 27, 28, 32, 33, 34, 35, 36, 37, 38, 39, 40, 41, 42, 43, 44, 45, 46, 47, 48, 49, 50, 51, 52, 53, 54, 55, 56, 57, 58, 59, 60, 61, 62, 63, 64, 65, 66, 67, 68, 69, 70, 71, 72, 73, 74, 75, 76, 77, 78, 79, 80, 81, 82, 83, 84, 85, 86, 87, 88, 89], [], [0, 1, 2, 3, 4, 5, 9, 10, 11, 12, 13, 14, 15, 16, 17, 18, 19, 20, 21, 22, 23, 24, 25, 26, 27, 28, 29, 30, 31, 32, 33, 34, 35, 36, 37, 38, 39, 40, 41, 42, 43, 44, 45, 46, 47, 48, 49, 50, 51, 52, 53, 54, 55, 56, 57, 58, 59, 60, 61, 62, 63, 64, 65, 66, 67, 68, 69, 70, 71, 72, 73, 74, 75, 76, 77, 78, 79, 80, 81, 82, 83, 84, 85, 86, 87, 88, 89]⟩
noncomputable def E34_5 (m : Nat) (ps : List Prm) (k : Kont (Bool × (List (Int × Int × Int × Int × Int × List Int × List Int)))) : Option (Bool × (List (Int × Int × Int × Int × Int × List Int × List Int))) :=
  match ps with
  | [.v (.int .i64 a9), .v (.int .i64 a10), .v (.int .i64 a11), .row (.pair (.int .i64) (.pair (.int .i64) (.pair (.int .i64) (.pair (.int .i64) (.pair (.int .i64) (.pair (.int .i64) (.pair (.sl 3 (.int .i64)) .bool))))))) a12, .row (.pair (.int .i64) (.pair (.int .i64) (.pair (.int .i64) (.pair (.int .i64) (.pair (.int .i64) (.pair (.sl 3 (.int .i64)) (.sl 3 (.int .i64)))))))) a13, .row (.pair (.int .i64) (.pair (.int .i64) (.pair (.int .i64) (.pair (.int .i64) (.pair (.int .i64) (.pair (.int .i64) (.pair (.sl 3 (.int .i64)) .bool))))))) a14, .row (.int .u64) a15] => I.BothOf_l0 m (fun z72 => k (.exit 0) (⟨(vu 8 ((vl 0) :: (vu 81 []))), [], [⟨164, (.pair (.int .i64) (.pair (.int .i64) (.pair (.int .i64) (.pair (.int .i64) (.pair (.int .i64) (.pair (.sl 3 (.int .i64)) (.sl 3 (.int .i64)))))))), z72, .own⟩]⟩ : St)) a9 a10 a11 a12 a13 a14 a15
  | _ => none
noncomputable def S34_5 (a9 a10 a11 : Int) (a12 : List (Int × Int × Int × Int × Int × Int × List Int × Bool)) (a13 : List (Int × Int × Int × Int × Int × List Int × List Int)) (a14 : List (Int × Int × Int × Int × Int × Int × List Int × Bool)) (a15 : List Int) : St := (⟨(vu 2 ((vl 0) :: (vp 0 0) :: (vu 4 ((vl 1) :: (vu 20 ((vl 2) :: (vi a9) :: (vi a10) :: (vu 58 []))))))), [(51, [ai a11, .sl 3])], [⟨68, (.pair (.int .i64) (.pair (.int .i64) (.pair (.int .i64) (.pair (.int .i64) (.pair (.int .i64) (.pair (.int .i64) (.pair (.sl 3 (.int .i64)) .bool))))))), a12, .ro⟩, ⟨164, (.pair (.int .i64) (.pair (.int .i64) (.pair (.int .i64) (.pair (.int .i64) (.pair (.int .i64) (.pair (.sl 3 (.int .i64)) (.sl 3 (.int .i64)))))))), a13, .own⟩, ⟨68, (.pair (.int .i64) (.pair (.int .i64) (.pair (.int .i64) (.pair (.int .i64) (.pair (.int .i64) (.pair (.int .i64) (.pair (.sl 3 (.int .i64)) .bool))))))), a14, .ro⟩, ⟨117, (.int .u64), a15, .ro⟩]⟩ : St)
theorem ev34_5 (m : Nat) (k : Kont (Bool × (List (Int × Int × Int × Int × Int × List Int × List Int)))) (a9 a10 a11 : Int) (a12 : List (Int × Int × Int × Int × Int × Int × List Int × Bool)) (a13 : List (Int × Int × Int × Int × Int × List Int × List Int)) (a14 : List (Int × Int × Int × Int × Int × Int × List Int × Bool)) (a15 : List Int) : evC Try.prog G34 L34_5 c34_5 (S34_5 a9 a10 a11 a12 a13 a14 a15) (turn Try.prog (0, 0) H34_5 (E34_5 m) k) = E34_5 (m + 1) [.v (.int .i64 a9), .v (.int .i64 a10), .v (.int .i64 a11), .row (.pair (.int .i64) (.pair (.int .i64) (.pair (.int .i64) (.pair (.int .i64) (.pair (.int .i64) (.pair (.int .i64) (.pair (.sl 3 (.int .i64)) .bool))))))) a12, .row (.pair (.int .i64) (.pair (.int .i64) (.pair (.int .i64) (.pair (.int .i64) (.pair (.int .i64) (.pair (.sl 3 (.int .i64)) (.sl 3 (.int .i64)))))))) a13, .row (.pair (.int .i64) (.pair (.int .i64) (.pair (.int .i64) (.pair (.int .i64) (.pair (.int .i64) (.pair (.int .i64) (.pair (.sl 3 (.int .i64)) .bool))))))) a14, .row (.int .u64) a15] k := by kernel_rfl
theorem ok34_5 (m : Nat) : LoopOk Try.prog (0, 0) c34_5 (enter Try.prog (0, 0) H34_5 (E34_5 m)) := by
  refine loop_ok (G := G34) (L := L34_5) (envCons_good good107 (envCons_good good108 (envCons_good good109 (envCons_good good110 envNil_good)))) lp34_5 (fun ps k => by unfold E34_5; split <;> rfl) (fun m ps k r h => ?_) m
  have h0 := h
  unfold E34_5 at h
  split at h
  · exact ⟨S34_5 _ _ _ _ _ _ _, by kernel_rfl, (ev34_5 m k _ _ _ _ _ _ _).trans h0⟩
  · cases h
noncomputable def L34 : LEnv (Bool × (List (Int × Int × Int × Int × Int × List Int × List Int))) := (loopCons 5 (enter Try.prog (0, 0) H34_5 (E34_5 fu)) loopNil)
theorem lq34 : loopsOf c34 = [c34_5] := by kernel_rfl
theorem fr34_5 : firstReg c34_5 = some 5 := by kernel_rfl
theorem le34_5 : L34 5 = enter Try.prog (0, 0) H34_5 (E34_5 fu) := by kernel_rfl
theorem lm34 : ∀ x ∈ [c34_5], ∀ id, firstReg x = some id → LoopOk Try.prog (0, 0) x (L34 id) := (loops_cons fr34_5 le34_5 (ok34_5 fu) loops_nil)
theorem lp34 : ∀ x ∈ loopsOf c34, ∀ id, firstReg x = some id → LoopOk Try.prog (0, 0) x (L34 id) := loops_eq lq34 lm34
noncomputable def R34 (x : Bool × (List (Int × Int × Int × Int × Int × List Int × List Int))) : Res := ⟨[.one (.sl 0), .one (ab x.1)], [], [⟨164, (.pair (.int .i64) (.pair (.int .i64) (.pair (.int .i64) (.pair (.int .i64) (.pair (.int .i64) (.pair (.sl 3 (.int .i64)) (.sl 3 (.int .i64)))))))), x.2, .own⟩]⟩
noncomputable def K34 (r : Res) : Option (Bool × (List (Int × Int × Int × Int × Int × List Int × List Int))) :=
  match r with
  | ⟨[.one (.sl 0), .one (.val (.bool v1))], [], [⟨164, (.pair (.int .i64) (.pair (.int .i64) (.pair (.int .i64) (.pair (.int .i64) (.pair (.int .i64) (.pair (.sl 3 (.int .i64)) (.sl 3 (.int .i64)))))))), v2, .own⟩]⟩ => some (v1, v2)
  | _ => none
noncomputable def E34 : Fun2 := fun args bs rs =>
  match args, bs, rs with
  | [.s1 (.agg [.val (.int .i64 a1), .sl 0]), .s1 (.one (.sl 1)), .s1 (.one (.sl 2))], [], [⟨117, (.int .u64), a2, .ro⟩, ⟨68, (.pair (.int .i64) (.pair (.int .i64) (.pair (.int .i64) (.pair (.int .i64) (.pair (.int .i64) (.pair (.int .i64) (.pair (.sl 3 (.int .i64)) .bool))))))), a3, .ro⟩, ⟨68, (.pair (.int .i64) (.pair (.int .i64) (.pair (.int .i64) (.pair (.int .i64) (.pair (.int .i64) (.pair (.int .i64) (.pair (.sl 3 (.int .i64)) .bool))))))), a4, .ro⟩] => some ⟨Bool × (List (Int × Int × Int × Int × Int × List Int × List Int)), I.BothOf a1 a2 a3 a4, R34⟩
  | _, _, _ => none
theorem ev34 (a1 : Int) (a2 : List Int) (a3 a4 : List (Int × Int × Int × Int × Int × Int × List Int × Bool)) : evF Try.prog G34 L34 (0, 0) [] Try.f34 c34 [.s1 (.agg [ai a1, .sl 0]), vl 1, vl 2] [] [⟨117, (.int .u64), a2, .ro⟩, ⟨68, (.pair (.int .i64) (.pair (.int .i64) (.pair (.int .i64) (.pair (.int .i64) (.pair (.int .i64) (.pair (.int .i64) (.pair (.sl 3 (.int .i64)) .bool))))))), a3, .ro⟩, ⟨68, (.pair (.int .i64) (.pair (.int .i64) (.pair (.int .i64) (.pair (.int .i64) (.pair (.int .i64) (.pair (.int .i64) (.pair (.sl 3 (.int .i64)) .bool))))))), a4, .ro⟩] K34 = I.BothOf a1 a2 a3 a4 := by kernel_rfl
theorem good34 : Vm.Good Try.prog 34 E34 := by
  refine evF_good (G := G34) (c := c34) (envCons_good good107 (envCons_good good108 (envCons_good good109 (envCons_good good110 envNil_good)))) Try.func34 (by kernel_rfl) (by kernel_rfl) (0, 0) (fun args bs rs out t h h2 => ?_)
  unfold E34 at h
  split at h
  · injection h with h
    subst h
    exact ⟨rfl, [], L34, K34, lp34, (fun r t h => by unfold K34 at h; split at h; (injection h with h; subst h; rfl); cases h), (ev34 _ _ _ _).trans h2⟩
  · cases h
/-! ### L.eqIntS -/
noncomputable def G119 : Env := envNil
noncomputable def c119 : Code := bodyOf Try.f119
noncomputable def c119_4 : Code := (loopsOf c119).getD 0 .skip
noncomputable def L.eqIntS_l0 : Nat → (Bool → Option Bool) → (Option Bool) → Int → List Int → List Int → Option Bool
  | 0, _, _, _, _, _ => none
  | m + 1, e4_0, e4_1, a5, a6, a7 =>
    (bif (decide (a5 < (a6.length : Int))) then
    (bif decide ((0 : Int) ≤ a5 ∧ a5 < (a6.length : Int)) then
    (bif decide ((0 : Int) ≤ a5 ∧ a5 < (a7.length : Int)) then
    (bif ((nthI a6 a5 (0 : Int)) != (nthI a7 a5 (0 : Int))) then
    (e4_0 false)
    else
    (L.eqIntS_l0 m e4_0 e4_1 (IntKind.wrap .i64 (a5 + 1)) a6 a7))
    else
    none)
    else
    none)
    else
    e4_1)
noncomputable def L.eqIntS (a1 a2 : List Int) : Option Bool :=
(bif ((a1.length : Int) != (a2.length : Int)) then
(some false)
else
(L.eqIntS_l0 fu (fun y12 =>
(some y12)) (some true) 0 a1 a2))
noncomputable def H119_4 : LoopH := ⟨⟨((.one (.sl 0)) :: (.one (.sl 1)) :: (hu 3 (hh :: (hu 20 [])))), [], [(3, (.int .i64), .ro), (3, (.int .i64), .ro)]⟩, [2, 3, 4, 6, 7, 8, 9, 10, 11, 12, 13, 14, 15, 16, 17, 18, 19, 20, 21, 22, 23, 24, 25], [], [0, 1, 2, 3, 5, 6, 7, 8, 9, 10, 11, 12, 13, 14, 15, 16, 17, 18, 19, 20, 21, 22, 23, 24, 25]⟩
noncomputable def E119_4 (m : Nat) (ps : List Prm) (k : Kont Bool) : Option Bool :=
  match ps with
  | [.v (.int .i64 a5), .row (.int .i64) a6, .row (.int .i64) a7] => L.eqIntS_l0 m (fun z14 => k .ret (⟨(vu 4 ((vb z14) :: (vu 21 []))), [], []⟩ : St)) (k (.exit 0) (⟨(vu 26 []), [], []⟩ : St)) a5 a6 a7
  | _ => none
noncomputable def S119_4 (a5 : Int) (a6 a7 : List Int) : St := (⟨((vl 0) :: (vl 1) :: (vu 3 ((vi a5) :: (vu 20 [])))), [], [⟨3, (.int .i64), a6, .ro⟩, ⟨3, (.int .i64), a7, .ro⟩]⟩ : St)
theorem ev119_4 (m : Nat) (k : Kont Bool) (a5 : Int) (a6 a7 : List Int) : evC Try.prog G119 loopNil c119_4 (S119_4 a5 a6 a7) (turn Try.prog (0, 0) H119_4 (E119_4 m) k) = E119_4 (m + 1) [.v (.int .i64 a5), .row (.int .i64) a6, .row (.int .i64) a7] k := by kernel_rfl
theorem ok119_4 (m : Nat) : LoopOk Try.prog (0, 0) c119_4 (enter Try.prog (0, 0) H119_4 (E119_4 m)) := by
  refine loop_ok (G := G119) (L := loopNil) envNil_good (by intro x hx; simp [show loopsOf c119_4 = [] from by kernel_rfl] at hx) (fun ps k => by unfold E119_4; split <;> rfl) (fun m ps k r h => ?_) m
  have h0 := h
  unfold E119_4 at h
  split at h
  · exact ⟨S119_4 _ _ _, by kernel_rfl, (ev119_4 m k _ _ _).trans h0⟩
  · cases h
noncomputable def L119 : LEnv Bool := (loopCons 4 (enter Try.prog (0, 0) H119_4 (E119_4 fu)) loopNil)
theorem lq119 : loopsOf c119 = [c119_4] := by kernel_rfl
theorem fr119_4 : firstReg c119_4 = some 4 := by kernel_rfl
theorem le119_4 : L119 4 = enter Try.prog (0, 0) H119_4 (E119_4 fu) := by kernel_rfl
theorem lm119 : ∀ x ∈ [c119_4], ∀ id, firstReg x = some id → LoopOk Try.prog (0, 0) x (L119 id) := (loops_cons fr119_4 le119_4 (ok119_4 fu) loops_nil)
theorem lp119 : ∀ x ∈ loopsOf c119, ∀ id, firstReg x = some id → LoopOk Try.prog (0, 0) x (L119 id) := loops_eq lq119 lm119
noncomputable def R119 (x : Bool) : Res := ⟨[.one (ab x)], [], []⟩
noncomputable def K119 (r : Res) : Option Bool :=
  match r with
  | ⟨[.one (.val (.bool v1))], [], []⟩ => some (v1)
  | _ => none
noncomputable def E119 : Fun2 := fun args bs rs =>
  match args, bs, rs with
  | [.s1 (.one (.sl 0)), .s1 (.one (.sl 1))], [], [⟨3, (.int .i64), a1, .ro⟩, ⟨3, (.int .i64), a2, .ro⟩] => some ⟨Bool, L.eqIntS a1 a2, R119⟩
  | _, _, _ => none
theorem ev119 (a1 a2 : List Int) : evF Try.prog G119 L119 (0, 0) [] Try.f119 c119 [vl 0, vl 1] [] [⟨3, (.int .i64), a1, .ro⟩, ⟨3, (.int .i64), a2, .ro⟩] K119 = L.eqIntS a1 a2 := by kernel_rfl
theorem good119 : Vm.Good Try.prog 119 E119 := by
  refine evF_good (G := G119) (c := c119) envNil_good Try.func119 (by kernel_rfl) (by kernel_rfl) (0, 0) (fun args bs rs out t h h2 => ?_)
  unfold E119 at h
  split at h
  · injection h with h
    subst h
    exact ⟨rfl, [], L119, K119, lp119, (fun r t h => by unfold K119 at h; split at h; (injection h with h; subst h; rfl); cases h), (ev119 _ _).trans h2⟩
  · cases h
/-! ### L.eqBoth -/
noncomputable def G111 : Env := (envCons 119 [] E119 envNil)
noncomputable def c111 : Code := bodyOf Try.f111
noncomputable def L.eqBoth (a1 a2 a3 a4 a5 a6 a7 a8 a9 a10 : Int) (a11 a12 a13 a14 : List Int) : Option Bool :=
(bif (a1 != a6) then
(some false)
else
(bif (a2 != a7) then
(some false)
else
(bif (a3 != a8) then
(some false)
else
(bif (a4 != a9) then
(some false)
else
(bif (a5 != a10) then
(some false)
else
(Option.bind (L.eqIntS a11 a13) fun r15 =>
(bif (!r15) then
(some false)
else
(Option.bind (L.eqIntS a12 a14) fun r16 =>
(bif (!r16) then
(some false)
else
(some true))))))))))
noncomputable def R111 (x : Bool) : Res := ⟨[.one (ab x)], [], []⟩
noncomputable def K111 (r : Res) : Option Bool :=
  match r with
  | ⟨[.one (.val (.bool v1))], [], []⟩ => some (v1)
  | _ => none
noncomputable def E111 : Fun2 := fun args bs rs =>
  match args, bs, rs with
  | [.s1 (.agg [.val (.int .i64 a1), .val (.int .i64 a2), .val (.int .i64 a3), .val (.int .i64 a4), .val (.int .i64 a5), .sl 0, .sl 1]), .s1 (.agg [.val (.int .i64 a6), .val (.int .i64 a7), .val (.int .i64 a8), .val (.int .i64 a9), .val (.int .i64 a10), .sl 2, .sl 3])], [], [⟨3, (.int .i64), a11, .ro⟩, ⟨3, (.int .i64), a12, .ro⟩, ⟨3, (.int .i64), a13, .ro⟩, ⟨3, (.int .i64), a14, .ro⟩] => some ⟨Bool, L.eqBoth a1 a2 a3 a4 a5 a6 a7 a8 a9 a10 a11 a12 a13 a14, R111⟩
  | _, _, _ => none
theorem ev111 (a1 a2 a3 a4 a5 a6 a7 a8 a9 a10 : Int) (a11 a12 a13 a14 : List Int) : evF Try.prog G111 loopNil (0, 0) [] Try.f111 c111 [.s1 (.agg [ai a1, ai a2, ai a3, ai a4, ai a5, .sl 0, .sl 1]), .s1 (.agg [ai a6, ai a7, ai a8, ai a9, ai a10, .sl 2, .sl 3])] [] [⟨3, (.int .i64), a11, .ro⟩, ⟨3, (.int .i64), a12, .ro⟩, ⟨3, (.int .i64), a13, .ro⟩, ⟨3, (.int .i64), a14, .ro⟩] K111 = L.eqBoth a1 a2 a3 a4 a5 a6 a7 a8 a9 a10 a11 a12 a13 a14 := by kernel_rfl
theorem good111 : Vm.Good Try.prog 111 E111 := by
  refine evF_good (G := G111) (c := c111) (envCons_good good119 envNil_good) Try.func111 (by kernel_rfl) (by kernel_rfl) (0, 0) (fun args bs rs out t h h2 => ?_)
  unfold E111 at h
  split at h
  · injection h with h
    subst h
    exact ⟨rfl, [], loopNil, K111, (by intro x hx; simp [show loopsOf c111 = [] from by kernel_rfl] at hx), (fun r t h => by unfold K111 at h; split at h; (injection h with h; subst h; rfl); cases h), (ev111 _ _ _ _ _ _ _ _ _ _ _ _ _ _).trans h2⟩
  · cases h
/-! ### L.eqBothS -/
noncomputable def G35 : Env := (envCons 111 [] E111 envNil)
noncomputable def c35 : Code := bodyOf Try.f35
noncomputable def c35_4 : Code := (loopsOf c35).getD 0 .skip
noncomputable def L.eqBothS_l0 : Nat → (Bool → Option Bool) → (Option Bool) → Int → (List (Int × Int × Int × Int × Int × List Int × List Int)) → (List (Int × Int × Int × Int × Int × List Int × List Int)) → Option Bool
  | 0, _, _, _, _, _ => none
  | m + 1, e4_0, e4_1, a5, a6, a7 =>
    (bif (decide (a5 < (a6.length : Int))) then
    (bif decide ((0 : Int) ≤ a5 ∧ a5 < (a6.length : Int)) then
    (bif decide ((0 : Int) ≤ a5 ∧ a5 < (a7.length : Int)) then
    (Option.bind (L.eqBoth ((nthI a6 a5 ((0 : Int), ((0 : Int), ((0 : Int), ((0 : Int), ((0 : Int), ([], []))))))).1) ((nthI a6 a5 ((0 : Int), ((0 : Int), ((0 : Int), ((0 : Int), ((0 : Int), ([], []))))))).2.1) ((nthI a6 a5 ((0 : Int), ((0 : Int), ((0 : Int), ((0 : Int), ((0 : Int), ([], []))))))).2.2.1) ((nthI a6 a5 ((0 : Int), ((0 : Int), ((0 : Int), ((0 : Int), ((0 : Int), ([], []))))))).2.2.2.1) ((nthI a6 a5 ((0 : Int), ((0 : Int), ((0 : Int), ((0 : Int), ((0 : Int), ([], []))))))).2.2.2.2.1) ((nthI a7 a5 ((0 : Int), ((0 : Int), ((0 : Int), ((0 : Int), ((0 : Int), ([], []))))))).1) ((nthI a7 a5 ((0 : Int), ((0 : Int), ((0 : Int), ((0 : Int), ((0 : Int), ([], []))))))).2.1) ((nthI a7 a5 ((0 : Int), ((0 : Int), ((0 : Int), ((0 : Int), ((0 : Int), ([], []))))))).2.2.1) ((nthI a7 a5 ((0 : Int), ((0 : Int), ((0 : Int), ((0 : Int), ((0 : Int), ([], []))))))).2.2.2.1) ((nthI a7 a5 ((0 : Int), ((0 : Int), ((0 : Int), ((0 : Int), ((0 : Int), ([], []))))))).2.2.2.2.1) ((nthI a6 a5 ((0 : Int), ((0 : Int), ((0 : Int), ((0 : Int), ((0 : Int), ([], []))))))).2.2.2.2.2.1) ((nthI a6 a5 ((0 : Int), ((0 : Int), ((0 : Int), ((0 : Int), ((0 : Int), ([], []))))))).2.2.2.2.2.2) ((nthI a7 a5 ((0 : Int), ((0 : Int), ((0 : Int), ((0 : Int), ((0 : Int), ([], []))))))).2.2.2.2.2.1) ((nthI a7 a5 ((0 : Int), ((0 : Int), ((0 : Int), ((0 : Int), ((0 : Int), ([], []))))))).2.2.2.2.2.2)) fun r10 =>
    (bif (!r10) then
    (e4_0 false)
    else
    (L.eqBothS_l0 m e4_0 e4_1 (IntKind.wrap .i64 (a5 + 1)) a6 a7)))
    else
    none)
    else
    none)
    else
    e4_1)
noncomputable def L.eqBothS (a1 a2 : List (Int × Int × Int × Int × Int × List Int × List Int)) : Option Bool :=
(bif ((a1.length : Int) != (a2.length : Int)) then
(some false)
else
(L.eqBothS_l0 fu (fun y12 =>
(some y12)) (some true) 0 a1 a2))
noncomputable def H35_4 : LoopH := ⟨⟨((.one (.sl 0)) :: (.one (.sl 1)) :: (hu 3 (hh :: (hu 21 [])))), [], [(164, (.pair (.int .i64) (.pair (.int .i64) (.pair (.int .i64) (.pair (.int .i64) (.pair (.int .i64) (.pair (.sl 3 (.int .i64)) (.sl 3 (.int .i64)))))))), .ro), (164, (.pair (.int .i64) (.pair (.int .i64) (.pair (.int .i64) (.pair (.int .i64) (.pair (.int .i64) (.pair (.sl 3 (.int .i64)) (.sl 3 (.int .i64)))))))), .ro)]⟩, [2, 3, 4, 6, 7, 8, 9, 10, 11, 12, 13, 14, 15, 16, 17, 18, 19, 20, 21, 22, 23, 24, 25, 26], [], [0, 1, 2, 3, 5, 6, 7, 8, 9, 10, 11, 12, 13, 14, 15, 16, 17, 18, 19, 20, 21, 22, 23, 24, 25, 26]⟩
noncomputable def E35_4 (m : Nat) (ps : List Prm) (k : Kont Bool) : Option Bool :=
  match ps with
  | [.v (.int .i64 a5), .row (.pair (.int .i64) (.pair (.int .i64) (.pair (.int .i64) (.pair (.int .i64) (.pair (.int .i64) (.pair (.sl 3 (.int .i64)) (.sl 3 (.int .i64)))))))) a6, .row (.pair (.int .i64) (.pair (.int .i64) (.pair (.int .i64) (.pair (.int .i64) (.pair (.int .i64) (.pair (.sl 3 (.int .i64)) (.sl 3 (.int .i64)))))))) a7] => L.eqBothS_l0 m (fun z14 => k .ret (⟨(vu 4 ((vb z14) :: (vu 22 []))), [], []⟩ : St)) (k (.exit 0) (⟨(vu 27 []), [], []⟩ : St)) a5 a6 a7
  | _ => none
noncomputable def S35_4 (a5 : Int) (a6 a7 : List (Int × Int × Int × Int × Int × List Int × List Int)) : St := (⟨((vl 0) :: (vl 1) :: (vu 3 ((vi a5) :: (vu 21 [])))), [], [⟨164, (.pair (.int .i64) (.pair (.int .i64) (.pair (.int .i64) (.pair (.int .i64) (.pair (.int .i64) (.pair (.sl 3 (.int .i64)) (.sl 3 (.int .i64)))))))), a6, .ro⟩, ⟨164, (.pair (.int .i64) (.pair (.int .i64) (.pair (.int .i64) (.pair (.int .i64) (.pair (.int .i64) (.pair (.sl 3 (.int .i64)) (.sl 3 (.int .i64)))))))), a7, .ro⟩]⟩ : St)
theorem ev35_4 (m : Nat) (k : Kont Bool) (a5 : Int) (a6 a7 : List (Int × Int × Int × Int × Int × List Int × List Int)) : evC Try.prog G35 loopNil c35_4 (S35_4 a5 a6 a7) (turn Try.prog (0, 0) H35_4 (E35_4 m) k) = E35_4 (m + 1) [.v (.int .i64 a5), .row (.pair (.int .i64) (.pair (.int .i64) (.pair (.int .i64) (.pair (.int .i64) (.pair (.int .i64) (.pair (.sl 3 (.int .i64)) (.sl 3 (.int .i64)))))))) a6, .row (.pair (.int .i64) (.pair (.int .i64) (.pair (.int .i64) (.pair (.int .i64) (.pair (.int .i64) (.pair (.sl 3 (.int .i64)) (.sl 3 (.int .i64)))))))) a7] k := by kernel_rfl
theorem ok35_4 (m : Nat) : LoopOk Try.prog (0, 0) c35_4 (enter Try.prog (0, 0) H35_4 (E35_4 m)) := by
  refine loop_ok (G := G35) (L := loopNil) (envCons_good good111 envNil_good) (by intro x hx; simp [show loopsOf c35_4 = [] from by kernel_rfl] at hx) (fun ps k => by unfold E35_4; split <;> rfl) (fun m ps k r h => ?_) m
  have h0 := h
  unfold E35_4 at h
  split at h
  · exact ⟨S35_4 _ _ _, by kernel_rfl, (ev35_4 m k _ _ _).trans h0⟩
  · cases h
noncomputable def L35 : LEnv Bool := (loopCons 4 (enter Try.prog (0, 0) H35_4 (E35_4 fu)) loopNil)
theorem lq35 : loopsOf c35 = [c35_4] := by kernel_rfl
theorem fr35_4 : firstReg c35_4 = some 4 := by kernel_rfl
theorem le35_4 : L35 4 = enter Try.prog (0, 0) H35_4 (E35_4 fu) := by kernel_rfl
theorem lm35 : ∀ x ∈ [c35_4], ∀ id, firstReg x = some id → LoopOk Try.prog (0, 0) x (L35 id) := (loops_cons fr35_4 le35_4 (ok35_4 fu) loops_nil)
theorem lp35 : ∀ x ∈ loopsOf c35, ∀ id, firstReg x = some id → LoopOk Try.prog (0, 0) x (L35 id) := loops_eq lq35 lm35
noncomputable def R35 (x : Bool) : Res := ⟨[.one (ab x)], [], []⟩
noncomputable def K35 (r : Res) : Option Bool :=
  match r with
  | ⟨[.one (.val (.bool v1))], [], []⟩ => some (v1)
  | _ => none
noncomputable def E35 : Fun2 := fun args bs rs =>
  match args, bs, rs with
  | [.s1 (.one (.sl 0)), .s1 (.one (.sl 1))], [], [⟨164, (.pair (.int .i64) (.pair (.int .i64) (.pair (.int .i64) (.pair (.int .i64) (.pair (.int .i64) (.pair (.sl 3 (.int .i64)) (.sl 3 (.int .i64)))))))), a1, .ro⟩, ⟨164, (.pair (.int .i64) (.pair (.int .i64) (.pair (.int .i64) (.pair (.int .i64) (.pair (.int .i64) (.pair (.sl 3 (.int .i64)) (.sl 3 (.int .i64)))))))), a2, .ro⟩] => some ⟨Bool, L.eqBothS a1 a2, R35⟩
  | _, _, _ => none
theorem ev35 (a1 a2 : List (Int × Int × Int × Int × Int × List Int × List Int)) : evF Try.prog G35 L35 (0, 0) [] Try.f35 c35 [vl 0, vl 1] [] [⟨164, (.pair (.int .i64) (.pair (.int .i64) (.pair (.int .i64) (.pair (.int .i64) (.pair (.int .i64) (.pair (.sl 3 (.int .i64)) (.sl 3 (.int .i64)))))))), a1, .ro⟩, ⟨164, (.pair (.int .i64) (.pair (.int .i64) (.pair (.int .i64) (.pair (.int .i64) (.pair (.int .i64) (.pair (.sl 3 (.int .i64)) (.sl 3 (.int .i64)))))))), a2, .ro⟩] K35 = L.eqBothS a1 a2 := by kernel_rfl
theorem good35 : Vm.Good Try.prog 35 E35 := by
  refine evF_good (G := G35) (c := c35) (envCons_good good111 envNil_good) Try.func35 (by kernel_rfl) (by kernel_rfl) (0, 0) (fun args bs rs out t h h2 => ?_)
  unfold E35 at h
  split at h
  · injection h with h
    subst h
    exact ⟨rfl, [], L35, K35, lp35, (fun r t h => by unfold K35 at h; split at h; (injection h with h; subst h; rfl); cases h), (ev35 _ _).trans h2⟩
  · cases h
/-! ### L.eqUint64S -/
noncomputable def G112 : Env := envNil
noncomputable def c112 : Code := bodyOf Try.f112
noncomputable def c112_4 : Code := (loopsOf c112).getD 0 .skip
noncomputable def L.eqUint64S_l0 : Nat → (Bool → Option Bool) → (Option Bool) → Int → List Int → List Int → Option Bool
  | 0, _, _, _, _, _ => none
  | m + 1, e4_0, e4_1, a5, a6, a7 =>
    (bif (decide (a5 < (a6.length : Int))) then
    (bif decide ((0 : Int) ≤ a5 ∧ a5 < (a6.length : Int)) then
    (bif decide ((0 : Int) ≤ a5 ∧ a5 < (a7.length : Int)) then
    (bif ((nthI a6 a5 (0 : Int)) != (nthI a7 a5 (0 : Int))) then
    (e4_0 false)
    else
    (L.eqUint64S_l0 m e4_0 e4_1 (IntKind.wrap .i64 (a5 + 1)) a6 a7))
    else
    none)
    else
    none)
    else
    e4_1)
noncomputable def L.eqUint64S (a1 a2 : List Int) : Option Bool :=
(bif ((a1.length : Int) != (a2.length : Int)) then
(some false)
else
(L.eqUint64S_l0 fu (fun y12 =>
(some y12)) (some true) 0 a1 a2))
noncomputable def H112_4 : LoopH := ⟨⟨((.one (.sl 0)) :: (.one (.sl 1)) :: (hu 3 (hh :: (hu 20 [])))), [], [(117, (.int .u64), .ro), (117, (.int .u64), .ro)]⟩, [2, 3, 4, 6, 7, 8, 9, 10, 11, 12, 13, 14, 15, 16, 17, 18, 19, 20, 21, 22, 23, 24, 25], [], [0, 1, 2, 3, 5, 6, 7, 8, 9, 10, 11, 12, 13, 14, 15, 16, 17, 18, 19, 20, 21, 22, 23, 24, 25]⟩
noncomputable def E112_4 (m : Nat) (ps : List Prm) (k : Kont Bool) : Option Bool :=
  match ps with
  | [.v (.int .i64 a5), .row (.int .u64) a6, .row (.int .u64) a7] => L.eqUint64S_l0 m (fun z14 => k .ret (⟨(vu 4 ((vb z14) :: (vu 21 []))), [], []⟩ : St)) (k (.exit 0) (⟨(vu 26 []), [], []⟩ : St)) a5 a6 a7
  | _ => none
noncomputable def S112_4 (a5 : Int) (a6 a7 : List Int) : St := (⟨((vl 0) :: (vl 1) :: (vu 3 ((vi a5) :: (vu 20 [])))), [], [⟨117, (.int .u64), a6, .ro⟩, ⟨117, (.int .u64), a7, .ro⟩]⟩ : St)
theorem ev112_4 (m : Nat) (k : Kont Bool) (a5 : Int) (a6 a7 : List Int) : evC Try.prog G112 loopNil c112_4 (S112_4 a5 a6 a7) (turn Try.prog (0, 0) H112_4 (E112_4 m) k) = E112_4 (m + 1) [.v (.int .i64 a5), .row (.int .u64) a6, .row (.int .u64) a7] k := by kernel_rfl
theorem ok112_4 (m : Nat) : LoopOk Try.prog (0, 0) c112_4 (enter Try.prog (0, 0) H112_4 (E112_4 m)) := by
  refine loop_ok (G := G112) (L := loopNil) envNil_good (by intro x hx; simp [show loopsOf c112_4 = [] from by kernel_rfl] at hx) (fun ps k => by unfold E112_4; split <;> rfl) (fun m ps k r h => ?_) m
  have h0 := h
  unfold E112_4 at h
  split at h
  · exact ⟨S112_4 _ _ _, by kernel_rfl, (ev112_4 m k _ _ _).trans h0⟩
  · cases h
noncomputable def L112 : LEnv Bool := (loopCons 4 (enter Try.prog (0, 0) H112_4 (E112_4 fu)) loopNil)
theorem lq112 : loopsOf c112 = [c112_4] := by kernel_rfl
theorem fr112_4 : firstReg c112_4 = some 4 := by kernel_rfl
theorem le112_4 : L112 4 = enter Try.prog (0, 0) H112_4 (E112_4 fu) := by kernel_rfl
theorem lm112 : ∀ x ∈ [c112_4], ∀ id, firstReg x = some id → LoopOk Try.prog (0, 0) x (L112 id) := (loops_cons fr112_4 le112_4 (ok112_4 fu) loops_nil)
theorem lp112 : ∀ x ∈ loopsOf c112, ∀ id, firstReg x = some id → LoopOk Try.prog (0, 0) x (L112 id) := loops_eq lq112 lm112
noncomputable def R112 (x : Bool) : Res := ⟨[.one (ab x)], [], []⟩
noncomputable def K112 (r : Res) : Option Bool :=
  match r with
  | ⟨[.one (.val (.bool v1))], [], []⟩ => some (v1)
  | _ => none
noncomputable def E112 : Fun2 := fun args bs rs =>
  match args, bs, rs with
  | [.s1 (.one (.sl 0)), .s1 (.one (.sl 1))], [], [⟨117, (.int .u64), a1, .ro⟩, ⟨117, (.int .u64), a2, .ro⟩] => some ⟨Bool, L.eqUint64S a1 a2, R112⟩
  | _, _, _ => none
theorem ev112 (a1 a2 : List Int) : evF Try.prog G112 L112 (0, 0) [] Try.f112 c112 [vl 0, vl 1] [] [⟨117, (.int .u64), a1, .ro⟩, ⟨117, (.int .u64), a2, .ro⟩] K112 = L.eqUint64S a1 a2 := by kernel_rfl
theorem good112 : Vm.Good Try.prog 112 E112 := by
  refine evF_good (G := G112) (c := c112) envNil_good Try.func112 (by kernel_rfl) (by kernel_rfl) (0, 0) (fun args bs rs out t h h2 => ?_)
  unfold E112 at h
  split at h
  · injection h with h
    subst h
    exact ⟨rfl, [], L112, K112, lp112, (fun r t h => by unfold K112 at h; split at h; (injection h with h; subst h; rfl); cases h), (ev112 _ _).trans h2⟩
  · cases h
/-! ### L.eqLat -/
noncomputable def G36 : Env := (envCons 112 [] E112 envNil)
noncomputable def c36 : Code := bodyOf Try.f36
noncomputable def L.eqLat (a1 a2 : Int) (a3 a4 : List Int) : Option Bool :=
(bif (a1 != a2) then
(some false)
else
(Option.bind (L.eqUint64S a3 a4) fun r5 =>
(bif (!r5) then
(some false)
else
(some true))))
noncomputable def R36 (x : Bool) : Res := ⟨[.one (ab x)], [], []⟩
noncomputable def K36 (r : Res) : Option Bool :=
  match r with
  | ⟨[.one (.val (.bool v1))], [], []⟩ => some (v1)
  | _ => none
noncomputable def E36 : Fun2 := fun args bs rs =>
  match args, bs, rs with
  | [.s1 (.agg [.val (.int .i64 a1), .sl 0]), .s1 (.agg [.val (.int .i64 a2), .sl 1])], [], [⟨117, (.int .u64), a3, .ro⟩, ⟨117, (.int .u64), a4, .ro⟩] => some ⟨Bool, L.eqLat a1 a2 a3 a4, R36⟩
  | _, _, _ => none
theorem ev36 (a1 a2 : Int) (a3 a4 : List Int) : evF Try.prog G36 loopNil (0, 0) [] Try.f36 c36 [.s1 (.agg [ai a1, .sl 0]), .s1 (.agg [ai a2, .sl 1])] [] [⟨117, (.int .u64), a3, .ro⟩, ⟨117, (.int .u64), a4, .ro⟩] K36 = L.eqLat a1 a2 a3 a4 := by kernel_rfl
theorem good36 : Vm.Good Try.prog 36 E36 := by
  refine evF_good (G := G36) (c := c36) (envCons_good good112 envNil_good) Try.func36 (by kernel_rfl) (by kernel_rfl) (0, 0) (fun args bs rs out t h h2 => ?_)
  unfold E36 at h
  split at h
  · injection h with h
    subst h
    exact ⟨rfl, [], loopNil, K36, (by intro x hx; simp [show loopsOf c36 = [] from by kernel_rfl] at hx), (fun r t h => by unfold K36 at h; split at h; (injection h with h; subst h; rfl); cases h), (ev36 _ _ _ _).trans h2⟩
  · cases h
/-! ### L.eqPane -/
noncomputable def G46 : Env := (envCons 119 [] E119 envNil)
noncomputable def c46 : Code := bodyOf Try.f46
noncomputable def L.eqPane (a1 a2 a3 a4 a5 a6 : Int) (a7 : Bool) (a8 a9 a10 a11 a12 a13 : Int) (a14 : Bool) (a15 a16 : List Int) : Option Bool :=
(bif (a1 != a8) then
(some false)
else
(bif (a2 != a9) then
(some false)
else
(bif (a3 != a10) then
(some false)
else
(bif (a4 != a11) then
(some false)
else
(bif (a5 != a12) then
(some false)
else
(bif (a6 != a13) then
(some false)
else
(Option.bind (L.eqIntS a15 a16) fun r17 =>
(bif (!r17) then
(some false)
else
(bif (!(a7 == a14)) then
(some false)
else
(some true))))))))))
noncomputable def R46 (x : Bool) : Res := ⟨[.one (ab x)], [], []⟩
noncomputable def K46 (r : Res) : Option Bool :=
  match r with
  | ⟨[.one (.val (.bool v1))], [], []⟩ => some (v1)
  | _ => none
noncomputable def E46 : Fun2 := fun args bs rs =>
  match args, bs, rs with
  | [.s1 (.agg [.val (.int .i64 a1), .val (.int .i64 a2), .val (.int .i64 a3), .val (.int .i64 a4), .val (.int .i64 a5), .val (.int .i64 a6), .sl 0, .val (.bool a7)]), .s1 (.agg [.val (.int .i64 a8), .val (.int .i64 a9), .val (.int .i64 a10), .val (.int .i64 a11), .val (.int .i64 a12), .val (.int .i64 a13), .sl 1, .val (.bool a14)])], [], [⟨3, (.int .i64), a15, .ro⟩, ⟨3, (.int .i64), a16, .ro⟩] => some ⟨Bool, L.eqPane a1 a2 a3 a4 a5 a6 a7 a8 a9 a10 a11 a12 a13 a14 a15 a16, R46⟩
  | _, _, _ => none
theorem ev46 (a1 a2 a3 a4 a5 a6 : Int) (a7 : Bool) (a8 a9 a10 a11 a12 a13 : Int) (a14 : Bool) (a15 a16 : List Int) : evF Try.prog G46 loopNil (0, 0) [] Try.f46 c46 [.s1 (.agg [ai a1, ai a2, ai a3, ai a4, ai a5, ai a6, .sl 0, ab a7]), .s1 (.agg [ai a8, ai a9, ai a10, ai a11, ai a12, ai a13, .sl 1, ab a14])] [] [⟨3, (.int .i64), a15, .ro⟩, ⟨3, (.int .i64), a16, .ro⟩] K46 = L.eqPane a1 a2 a3 a4 a5 a6 a7 a8 a9 a10 a11 a12 a13 a14 a15 a16 := by kernel_rfl
theorem good46 : Vm.Good Try.prog 46 E46 := by
  refine evF_good (G := G46) (c := c46) (envCons_good good119 envNil_good) Try.func46 (by kernel_rfl) (by kernel_rfl) (0, 0) (fun args bs rs out t h h2 => ?_)
  unfold E46 at h
  split at h
  · injection h with h
    subst h
    exact ⟨rfl, [], loopNil, K46, (by intro x hx; simp [show loopsOf c46 = [] from by kernel_rfl] at hx), (fun r t h => by unfold K46 at h; split at h; (injection h with h; subst h; rfl); cases h), (ev46 _ _ _ _ _ _ _ _ _ _ _ _ _ _ _ _).trans h2⟩
  · cases h
/-! ### L.eqPaneS -/
noncomputable def G37 : Env := (envCons 46 [] E46 envNil)
noncomputable def c37 : Code := bodyOf Try.f37
noncomputable def c37_4 : Code := (loopsOf c37).getD 0 .skip
noncomputable def L.eqPaneS_l0 : Nat → (Bool → Option Bool) → (Option Bool) → Int → (List (Int × Int × Int × Int × Int × Int × List Int × Bool)) → (List (Int × Int × Int × Int × Int × Int × List Int × Bool)) → Option Bool
  | 0, _, _, _, _, _ => none
  | m + 1, e4_0, e4_1, a5, a6, a7 =>
    (bif (decide (a5 < (a6.length : Int))) then
    (bif decide ((0 : Int) ≤ a5 ∧ a5 < (a6.length : Int)) then
    (bif decide ((0 : Int) ≤ a5 ∧ a5 < (a7.length : Int)) then
    (Option.bind (L.eqPane ((nthI a6 a5 ((0 : Int), ((0 : Int), ((0 : Int), ((0 : Int), ((0 : Int), ((0 : Int), ([], false)))))))).1) ((nthI a6 a5 ((0 : Int), ((0 : Int), ((0 : Int), ((0 : Int), ((0 : Int), ((0 : Int), ([], false)))))))).2.1) ((nthI a6 a5 ((0 : Int), ((0 : Int), ((0 : Int), ((0 : Int), ((0 : Int), ((0 : Int), ([], false)))))))).2.2.1) ((nthI a6 a5 ((0 : Int), ((0 : Int), ((0 : Int), ((0 : Int), ((0 : Int), ((0 : Int), ([], false)))))))).2.2.2.1) ((nthI a6 a5 ((0 : Int), ((0 : Int), ((0 : Int), ((0 : Int), ((0 : Int), ((0 : Int), ([], false)))))))).2.2.2.2.1) ((nthI a6 a5 ((0 : Int), ((0 : Int), ((0 : Int), ((0 : Int), ((0 : Int), ((0 : Int), ([], false)))))))).2.2.2.2.2.1) ((nthI a6 a5 ((0 : Int), ((0 : Int), ((0 : Int), ((0 : Int), ((0 : Int), ((0 : Int), ([], false)))))))).2.2.2.2.2.2.2) ((nthI a7 a5 ((0 : Int), ((0 : Int), ((0 : Int), ((0 : Int), ((0 : Int), ((0 : Int), ([], false)))))))).1) ((nthI a7 a5 ((0 : Int), ((0 : Int), ((0 : Int), ((0 : Int), ((0 : Int), ((0 : Int), ([], false)))))))).2.1) ((nthI a7 a5 ((0 : Int), ((0 : Int), ((0 : Int), ((0 : Int), ((0 : Int), ((0 : Int), ([], false)))))))).2.2.1) ((nthI a7 a5 ((0 : Int), ((0 : Int), ((0 : Int), ((0 : Int), ((0 : Int), ((0 : Int), ([], false)))))))).2.2.2.1) ((nthI a7 a5 ((0 : Int), ((0 : Int), ((0 : Int), ((0 : Int), ((0 : Int), ((0 : Int), ([], false)))))))).2.2.2.2.1) ((nthI a7 a5 ((0 : Int), ((0 : Int), ((0 : Int), ((0 : Int), ((0 : Int), ((0 : Int), ([], false)))))))).2.2.2.2.2.1) ((nthI a7 a5 ((0 : Int), ((0 : Int), ((0 : Int), ((0 : Int), ((0 : Int), ((0 : Int), ([], false)))))))).2.2.2.2.2.2.2) ((nthI a6 a5 ((0 : Int), ((0 : Int), ((0 : Int), ((0 : Int), ((0 : Int), ((0 : Int), ([], false)))))))).2.2.2.2.2.2.1) ((nthI a7 a5 ((0 : Int), ((0 : Int), ((0 : Int), ((0 : Int), ((0 : Int), ((0 : Int), ([], false)))))))).2.2.2.2.2.2.1)) fun r10 =>
    (bif (!r10) then
    (e4_0 false)
    else
    (L.eqPaneS_l0 m e4_0 e4_1 (IntKind.wrap .i64 (a5 + 1)) a6 a7)))
    else
    none)
    else
    none)
    else
    e4_1)
noncomputable def L.eqPaneS (a1 a2 : List (Int × Int × Int × Int × Int × Int × List Int × Bool)) : Option Bool :=
(bif ((a1.length : Int) != (a2.length : Int)) then
(some false)
else
(L.eqPaneS_l0 fu (fun y12 =>
(some y12)) (some true) 0 a1 a2))
noncomputable def H37_4 : LoopH := ⟨⟨((.one (.sl 0)) :: (.one (.sl 1)) :: (hu 3 (hh :: (hu 21 [])))), [], [(68, (.pair (.int .i64) (.pair (.int .i64) (.pair (.int .i64) (.pair (.int .i64) (.pair (.int .i64) (.pair (.int .i64) (.pair (.sl 3 (.int .i64)) .bool))))))), .ro), (68, (.pair (.int .i64) (.pair (.int .i64) (.pair (.int .i64) (.pair (.int .i64) (.pair (.int .i64) (.pair (.int .i64) (.pair (.sl 3 (.int .i64)) .bool))))))), .ro)]⟩, [2, 3, 4, 6, 7, 8, 9, 10, 11, 12, 13, 14, 15, 16, 17, 18, 19, 20, 21, 22, 23, 24, 25, 26], [], [0, 1, 2, 3, 5, 6, 7, 8, 9, 10, 11, 12, 13, 14, 15, 16, 17, 18, 19, 20, 21, 22, 23, 24, 25, 26]⟩
noncomputable def E37_4 (m : Nat) (ps : List Prm) (k : Kont Bool) : Option Bool :=
  match ps with
  | [.v (.int .i64 a5), .row (.pair (.int .i64) (.pair (.int .i64) (.pair (.int .i64) (.pair (.int .i64) (.pair (.int .i64) (.pair (.int .i64) (.pair (.sl 3 (.int .i64)) .bool))))))) a6, .row (.pair (.int .i64) (.pair (.int .i64) (.pair (.int .i64) (.pair (.int .i64) (.pair (.int .i64) (.pair (.int .i64) (.pair (.sl 3 (.int .i64)) .bool))))))) a7] => L.eqPaneS_l0 m (fun z14 => k .ret (⟨(vu 4 ((vb z14) :: (vu 22 []))), [], []⟩ : St)) (k (.exit 0) (⟨(vu 27 []), [], []⟩ : St)) a5 a6 a7
  | _ => none
noncomputable def S37_4 (a5 : Int) (a6 a7 : List (Int × Int × Int × Int × Int × Int × List Int × Bool)) : St := (⟨((vl 0) :: (vl 1) :: (vu 3 ((vi a5) :: (vu 21 [])))), [], [⟨68, (.pair (.int .i64) (.pair (.int .i64) (.pair (.int .i64) (.pair (.int .i64) (.pair (.int .i64) (.pair (.int .i64) (.pair (.sl 3 (.int .i64)) .bool))))))), a6, .ro⟩, ⟨68, (.pair (.int .i64) (.pair (.int .i64) (.pair (.int .i64) (.pair (.int .i64) (.pair (.int .i64) (.pair (.int .i64) (.pair (.sl 3 (.int .i64)) .bool))))))), a7, .ro⟩]⟩ : St)
theorem ev37_4 (m : Nat) (k : Kont Bool) (a5 : Int) (a6 a7 : List (Int × Int × Int × Int × Int × Int × List Int × Bool)) : evC Try.prog G37 loopNil c37_4 (S37_4 a5 a6 a7) (turn Try.prog (0, 0) H37_4 (E37_4 m) k) = E37_4 (m + 1) [.v (.int .i64 a5), .row (.pair (.int .i64) (.pair (.int .i64) (.pair (.int .i64) (.pair (.int .i64) (.pair (.int .i64) (.pair (.int .i64) (.pair (.sl 3 (.int .i64)) .bool))))))) a6, .row (.pair (.int .i64) (.pair (.int .i64) (.pair (.int .i64) (.pair (.int .i64) (.pair (.int .i64) (.pair (.int .i64) (.pair (.sl 3 (.int .i64)) .bool))))))) a7] k := by kernel_rfl
theorem ok37_4 (m : Nat) : LoopOk Try.prog (0, 0) c37_4 (enter Try.prog (0, 0) H37_4 (E37_4 m)) := by
  refine loop_ok (G := G37) (L := loopNil) (envCons_good good46 envNil_good) (by intro x hx; simp [show loopsOf c37_4 = [] from by kernel_rfl] at hx) (fun ps k => by unfold E37_4; split <;> rfl) (fun m ps k r h => ?_) m
  have h0 := h
  unfold E37_4 at h
  split at h
  · exact ⟨S37_4 _ _ _, by kernel_rfl, (ev37_4 m k _ _ _).trans h0⟩
  · cases h
noncomputable def L37 : LEnv Bool := (loopCons 4 (enter Try.prog (0, 0) H37_4 (E37_4 fu)) loopNil)
theorem lq37 : loopsOf c37 = [c37_4] := by kernel_rfl
theorem fr37_4 : firstReg c37_4 = some 4 := by kernel_rfl
theorem le37_4 : L37 4 = enter Try.prog (0, 0) H37_4 (E37_4 fu) := by kernel_rfl
theorem lm37 : ∀ x ∈ [c37_4], ∀ id, firstReg x = some id → LoopOk Try.prog (0, 0) x (L37 id) := (loops_cons fr37_4 le37_4 (ok37_4 fu) loops_nil)
theorem lp37 : ∀ x ∈ loopsOf c37, ∀ id, firstReg x = some id → LoopOk Try.prog (0, 0) x (L37 id) := loops_eq lq37 lm37
noncomputable def R37 (x : Bool) : Res := ⟨[.one (ab x)], [], []⟩
noncomputable def K37 (r : Res) : Option Bool :=
  match r with
  | ⟨[.one (.val (.bool v1))], [], []⟩ => some (v1)
  | _ => none
noncomputable def E37 : Fun2 := fun args bs rs =>
  match args, bs, rs with
  | [.s1 (.one (.sl 0)), .s1 (.one (.sl 1))], [], [⟨68, (.pair (.int .i64) (.pair (.int .i64) (.pair (.int .i64) (.pair (.int .i64) (.pair (.int .i64) (.pair (.int .i64) (.pair (.sl 3 (.int .i64)) .bool))))))), a1, .ro⟩, ⟨68, (.pair (.int .i64) (.pair (.int .i64) (.pair (.int .i64) (.pair (.int .i64) (.pair (.int .i64) (.pair (.int .i64) (.pair (.sl 3 (.int .i64)) .bool))))))), a2, .ro⟩] => some ⟨Bool, L.eqPaneS a1 a2, R37⟩
  | _, _, _ => none
theorem ev37 (a1 a2 : List (Int × Int × Int × Int × Int × Int × List Int × Bool)) : evF Try.prog G37 L37 (0, 0) [] Try.f37 c37 [vl 0, vl 1] [] [⟨68, (.pair (.int .i64) (.pair (.int .i64) (.pair (.int .i64) (.pair (.int .i64) (.pair (.int .i64) (.pair (.int .i64) (.pair (.sl 3 (.int .i64)) .bool))))))), a1, .ro⟩, ⟨68, (.pair (.int .i64) (.pair (.int .i64) (.pair (.int .i64) (.pair (.int .i64) (.pair (.int .i64) (.pair (.int .i64) (.pair (.sl 3 (.int .i64)) .bool))))))), a2, .ro⟩] K37 = L.eqPaneS a1 a2 := by kernel_rfl
theorem good37 : Vm.Good Try.prog 37 E37 := by
  refine evF_good (G := G37) (c := c37) (envCons_good good46 envNil_good) Try.func37 (by kernel_rfl) (by kernel_rfl) (0, 0) (fun args bs rs out t h h2 => ?_)
  unfold E37 at h
  split at h
  · injection h with h
    subst h
    exact ⟨rfl, [], L37, K37, lp37, (fun r t h => by unfold K37 at h; split at h; (injection h with h; subst h; rfl); cases h), (ev37 _ _).trans h2⟩
  · cases h
/-! ### L.markUint64S -/
noncomputable def G113 : Env := envNil
noncomputable def c113 : Code := bodyOf Try.f113
noncomputable def c113_2 : Code := (loopsOf c113).getD 0 .skip
noncomputable def L.markUint64S_l0 : Nat → (Int → List Int → Option (Int × List Int)) → Int → Int → List Int → Option (Int × List Int)
  | 0, _, _, _, _ => none
  | m + 1, e2_0, a3, a4, a5 =>
    (bif (decide (a4 < (a5.length : Int))) then
    (bif decide ((0 : Int) ≤ a4 ∧ a4 < (a5.length : Int)) then
    (L.markUint64S_l0 m e2_0 (IntKind.wrap .i64 (a3 + 1)) (IntKind.wrap .i64 (a4 + 1)) (a5.set (Int.toNat a4) (IntKind.wrap .u64 a3)))
    else
    none)
    else
    (e2_0 a3 a5))
noncomputable def L.markUint64S (a1 : Int) (a2 : List Int) : Option (Int × List Int) :=
(L.markUint64S_l0 fu (fun y12 y13 =>
(some (y12, y13))) a1 0 a2)
noncomputable def H113_2 : LoopH := ⟨⟨((.one (.sl 0)) :: hh :: (hu 3 (hh :: (hu 14 [])))), [], [(117, (.int .u64), .own)]⟩, [2, 3, 4, 6, 7, 8, 9, 10, 11, 12, 13, 14, 15, 16, 17, 18, 19], [], [0, 2, 3, 5, 6, 7, 8, 9, 10, 11, 12, 13, 14, 15, 16, 17, 18, 19]⟩
noncomputable def E113_2 (m : Nat) (ps : List Prm) (k : Kont (Int × List Int)) : Option (Int × List Int) :=
  match ps with
  | [.v (.int .i64 a3), .v (.int .i64 a4), .row (.int .u64) a5] => L.markUint64S_l0 m (fun z16 z17 => k (.exit 0) (⟨((.s1 (.one (.unk))) :: (vi z16) :: (vu 18 [])), [], [⟨117, (.int .u64), z17, .own⟩]⟩ : St)) a3 a4 a5
  | _ => none
noncomputable def S113_2 (a3 a4 : Int) (a5 : List Int) : St := (⟨((vl 0) :: (vi a3) :: (vu 3 ((vi a4) :: (vu 14 [])))), [], [⟨117, (.int .u64), a5, .own⟩]⟩ : St)
theorem ev113_2 (m : Nat) (k : Kont (Int × List Int)) (a3 a4 : Int) (a5 : List Int) : evC Try.prog G113 loopNil c113_2 (S113_2 a3 a4 a5) (turn Try.prog (0, 1) H113_2 (E113_2 m) k) = E113_2 (m + 1) [.v (.int .i64 a3), .v (.int .i64 a4), .row (.int .u64) a5] k := by kernel_rfl
theorem ok113_2 (m : Nat) : LoopOk Try.prog (0, 1) c113_2 (enter Try.prog (0, 1) H113_2 (E113_2 m)) := by
  refine loop_ok (G := G113) (L := loopNil) envNil_good (by intro x hx; simp [show loopsOf c113_2 = [] from by kernel_rfl] at hx) (fun ps k => by unfold E113_2; split <;> rfl) (fun m ps k r h => ?_) m
  have h0 := h
  unfold E113_2 at h
  split at h
  · exact ⟨S113_2 _ _ _, by kernel_rfl, (ev113_2 m k _ _ _).trans h0⟩
  · cases h
noncomputable def L113 : LEnv (Int × List Int) := (loopCons 2 (enter Try.prog (0, 1) H113_2 (E113_2 fu)) loopNil)
theorem lq113 : loopsOf c113 = [c113_2] := by kernel_rfl
theorem fr113_2 : firstReg c113_2 = some 2 := by kernel_rfl
theorem le113_2 : L113 2 = enter Try.prog (0, 1) H113_2 (E113_2 fu) := by kernel_rfl
theorem lm113 : ∀ x ∈ [c113_2], ∀ id, firstReg x = some id → LoopOk Try.prog (0, 1) x (L113 id) := (loops_cons fr113_2 le113_2 (ok113_2 fu) loops_nil)
theorem lp113 : ∀ x ∈ loopsOf c113, ∀ id, firstReg x = some id → LoopOk Try.prog (0, 1) x (L113 id) := loops_eq lq113 lm113
noncomputable def R113 (x : Int × List Int) : Res := ⟨[.one (ai x.1)], [], [⟨117, (.int .u64), x.2, .own⟩]⟩
noncomputable def K113 (r : Res) : Option (Int × List Int) :=
  match r with
  | ⟨[.one (.val (.int .i64 v1))], [], [⟨117, (.int .u64), v2, .own⟩]⟩ => some (v1, v2)
  | _ => none
noncomputable def E113 : Fun2 := fun args bs rs =>
  match args, bs, rs with
  | [.s1 (.one (.sl 0)), .s1 (.one (.val (.int .i64 a1)))], [], [⟨117, (.int .u64), a2, .own⟩] => some ⟨Int × List Int, L.markUint64S a1 a2, R113⟩
  | _, _, _ => none
theorem ev113 (a1 : Int) (a2 : List Int) : evF Try.prog G113 L113 (0, 1) [] Try.f113 c113 [vl 0, vi a1] [] [⟨117, (.int .u64), a2, .own⟩] K113 = L.markUint64S a1 a2 := by kernel_rfl
theorem good113 : Vm.Good Try.prog 113 E113 := by
  refine evF_good (G := G113) (c := c113) envNil_good Try.func113 (by kernel_rfl) (by kernel_rfl) (0, 1) (fun args bs rs out t h h2 => ?_)
  unfold E113 at h
  split at h
  · injection h with h
    subst h
    exact ⟨rfl, [], L113, K113, lp113, (fun r t h => by unfold K113 at h; split at h; (injection h with h; subst h; rfl); cases h), (ev113 _ _).trans h2⟩
  · cases h
/-! ### L.markLat -/
noncomputable def G38 : Env := (envCons 113 [0] E113 envNil)
noncomputable def c38 : Code := bodyOf Try.f38
noncomputable def L.markLat (a1 a2 : Int) (a3 : List Int) : Option (Int × List Int) :=
(Option.bind (L.markUint64S a2 a3) fun r4 =>
(some (r4.1, r4.2)))
noncomputable def R38 (x : Int × List Int) : Res := ⟨[.one (ai x.1)], [], [⟨117, (.int .u64), x.2, .own⟩]⟩
noncomputable def K38 (r : Res) : Option (Int × List Int) :=
  match r with
  | ⟨[.one (.val (.int .i64 v1))], [], [⟨117, (.int .u64), v2, .own⟩]⟩ => some (v1, v2)
  | _ => none
noncomputable def E38 : Fun2 := fun args bs rs =>
  match args, bs, rs with
  | [.s1 (.agg [.val (.int .i64 a1), .sl 0]), .s1 (.one (.val (.int .i64 a2)))], [], [⟨117, (.int .u64), a3, .own⟩] => some ⟨Int × List Int, L.markLat a1 a2 a3, R38⟩
  | _, _, _ => none
theorem ev38 (a1 a2 : Int) (a3 : List Int) : evF Try.prog G38 loopNil (0, 1) [] Try.f38 c38 [.s1 (.agg [ai a1, .sl 0]), vi a2] [] [⟨117, (.int .u64), a3, .own⟩] K38 = L.markLat a1 a2 a3 := by kernel_rfl
theorem good38 : Vm.Good Try.prog 38 E38 := by
  refine evF_good (G := G38) (c := c38) (envCons_good good113 envNil_good) Try.func38 (by kernel_rfl) (by kernel_rfl) (0, 1) (fun args bs rs out t h h2 => ?_)
  unfold E38 at h
  split at h
  · injection h with h
    subst h
    exact ⟨rfl, [], loopNil, K38, (by intro x hx; simp [show loopsOf c38 = [] from by kernel_rfl] at hx), (fun r t h => by unfold K38 at h; split at h; (injection h with h; subst h; rfl); cases h), (ev38 _ _ _).trans h2⟩
  · cases h
/-! ### L.markIntS -/
noncomputable def G96 : Env := envNil
noncomputable def c96 : Code := bodyOf Try.f96
noncomputable def c96_2 : Code := (loopsOf c96).getD 0 .skip
noncomputable def L.markIntS_l0 : Nat → (Int → List Int → Option (Int × List Int)) → Int → Int → List Int → Option (Int × List Int)
  | 0, _, _, _, _ => none
  | m + 1, e2_0, a3, a4, a5 =>
    (bif (decide (a4 < (a5.length : Int))) then
    (bif decide ((0 : Int) ≤ a4 ∧ a4 < (a5.length : Int)) then
    (L.markIntS_l0 m e2_0 (IntKind.wrap .i64 (a3 + 1)) (IntKind.wrap .i64 (a4 + 1)) (a5.set (Int.toNat a4) a3))
    else
    none)
    else
    (e2_0 a3 a5))
noncomputable def L.markIntS (a1 : Int) (a2 : List Int) : Option (Int × List Int) :=
(L.markIntS_l0 fu (fun y11 y12 =>
(some (y11, y12))) a1 0 a2)
noncomputable def H96_2 : LoopH := ⟨⟨((.one (.sl 0)) :: hh :: (hu 3 (hh :: (hu 13 [])))), [], [(3, (.int .i64), .own)]⟩, [2, 3, 4, 6, 7, 8, 9, 10, 11, 12, 13, 14, 15, 16, 17, 18], [], [0, 2, 3, 5, 6, 7, 8, 9, 10, 11, 12, 13, 14, 15, 16, 17, 18]⟩
noncomputable def E96_2 (m : Nat) (ps : List Prm) (k : Kont (Int × List Int)) : Option (Int × List Int) :=
  match ps with
  | [.v (.int .i64 a3), .v (.int .i64 a4), .row (.int .i64) a5] => L.markIntS_l0 m (fun z15 z16 => k (.exit 0) (⟨((.s1 (.one (.unk))) :: (vi z15) :: (vu 17 [])), [], [⟨3, (.int .i64), z16, .own⟩]⟩ : St)) a3 a4 a5
  | _ => none
noncomputable def S96_2 (a3 a4 : Int) (a5 : List Int) : St := (⟨((vl 0) :: (vi a3) :: (vu 3 ((vi a4) :: (vu 13 [])))), [], [⟨3, (.int .i64), a5, .own⟩]⟩ : St)
theorem ev96_2 (m : Nat) (k : Kont (Int × List Int)) (a3 a4 : Int) (a5 : List Int) : evC Try.prog G96 loopNil c96_2 (S96_2 a3 a4 a5) (turn Try.prog (0, 1) H96_2 (E96_2 m) k) = E96_2 (m + 1) [.v (.int .i64 a3), .v (.int .i64 a4), .row (.int .i64) a5] k := by kernel_rfl
theorem ok96_2 (m : Nat) : LoopOk Try.prog (0, 1) c96_2 (enter Try.prog (0, 1) H96_2 (E96_2 m)) := by
  refine loop_ok (G := G96) (L := loopNil) envNil_good (by intro x hx; simp [show loopsOf c96_2 = [] from by kernel_rfl] at hx) (fun ps k => by unfold E96_2; split <;> rfl) (fun m ps k r h => ?_) m
  have h0 := h
  unfold E96_2 at h
  split at h
  · exact ⟨S96_2 _ _ _, by kernel_rfl, (ev96_2 m k _ _ _).trans h0⟩
  · cases h
noncomputable def L96 : LEnv (Int × List Int) := (loopCons 2 (enter Try.prog (0, 1) H96_2 (E96_2 fu)) loopNil)
theorem lq96 : loopsOf c96 = [c96_2] := by kernel_rfl
theorem fr96_2 : firstReg c96_2 = some 2 := by kernel_rfl
theorem le96_2 : L96 2 = enter Try.prog (0, 1) H96_2 (E96_2 fu) := by kernel_rfl
theorem lm96 : ∀ x ∈ [c96_2], ∀ id, firstReg x = some id → LoopOk Try.prog (0, 1) x (L96 id) := (loops_cons fr96_2 le96_2 (ok96_2 fu) loops_nil)
theorem lp96 : ∀ x ∈ loopsOf c96, ∀ id, firstReg x = some id → LoopOk Try.prog (0, 1) x (L96 id) := loops_eq lq96 lm96
noncomputable def R96 (x : Int × List Int) : Res := ⟨[.one (ai x.1)], [], [⟨3, (.int .i64), x.2, .own⟩]⟩
noncomputable def K96 (r : Res) : Option (Int × List Int) :=
  match r with
  | ⟨[.one (.val (.int .i64 v1))], [], [⟨3, (.int .i64), v2, .own⟩]⟩ => some (v1, v2)
  | _ => none
noncomputable def E96 : Fun2 := fun args bs rs =>
  match args, bs, rs with
  | [.s1 (.one (.sl 0)), .s1 (.one (.val (.int .i64 a1)))], [], [⟨3, (.int .i64), a2, .own⟩] => some ⟨Int × List Int, L.markIntS a1 a2, R96⟩
  | _, _, _ => none
theorem ev96 (a1 : Int) (a2 : List Int) : evF Try.prog G96 L96 (0, 1) [] Try.f96 c96 [vl 0, vi a1] [] [⟨3, (.int .i64), a2, .own⟩] K96 = L.markIntS a1 a2 := by kernel_rfl
theorem good96 : Vm.Good Try.prog 96 E96 := by
  refine evF_good (G := G96) (c := c96) envNil_good Try.func96 (by kernel_rfl) (by kernel_rfl) (0, 1) (fun args bs rs out t h h2 => ?_)
  unfold E96 at h
  split at h
  · injection h with h
    subst h
    exact ⟨rfl, [], L96, K96, lp96, (fun r t h => by unfold K96 at h; split at h; (injection h with h; subst h; rfl); cases h), (ev96 _ _).trans h2⟩
  · cases h
end Go.Proofs.Ythddkomphkanbaa.Run
