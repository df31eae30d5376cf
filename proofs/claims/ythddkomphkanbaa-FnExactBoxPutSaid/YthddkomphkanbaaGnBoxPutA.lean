import Derived.Test.YthddkomphkanbaaVmU
import Derived.Test.YthddkomphkanbaaProg
namespace Go.Proofs.Ythddkomphkanbaa.Run
open Go Go.RowKit Go.Proofs.YthddkomphkanbaaW.PrintWords Go.Proofs.Ythddkomphkanbaa.Vm
set_option linter.unusedVariables false
set_option maxRecDepth 100000

/-! ### L.szIntS -/
noncomputable def G114 : Env := envNil
noncomputable def c114 : Code := bodyOf Try.f114
noncomputable def L.szIntS (a1 : Int) (a2 : List Int) : Option Int :=
(let v4 : Int := (IntKind.wrap .i64 (a1 - (a2.length : Int)))
(bif (decide (v4 < 0)) then
(some (-1))
else
(some v4)))
noncomputable def R114 (x : Int) : Res := ⟨[.one (ai x)], [], []⟩
noncomputable def K114 (r : Res) : Option Int :=
  match r with
  | ⟨[.one (.val (.int .i64 v1))], [], []⟩ => some (v1)
  | _ => none
noncomputable def E114 : Fun2 := fun args bs rs =>
  match args, bs, rs with
  | [.s1 (.one (.sl 0)), .s1 (.one (.val (.int .i64 a1)))], [], [⟨3, (.int .i64), a2, .ro⟩] => some ⟨Int, L.szIntS a1 a2, R114⟩
  | _, _, _ => none
theorem ev114 (a1 : Int) (a2 : List Int) : evF Try.prog G114 loopNil (0, 0) [] Try.f114 c114 [vl 0, vi a1] [] [⟨3, (.int .i64), a2, .ro⟩] K114 = L.szIntS a1 a2 := by kernel_rfl
theorem good114 : Vm.Good Try.prog 114 E114 := by
  refine evF_good (G := G114) (c := c114) envNil_good Try.func114 (by kernel_rfl) (by kernel_rfl) (0, 0) (fun args bs rs out t h h2 => ?_)
  unfold E114 at h
  split at h
  · injection h with h
    subst h
    exact ⟨rfl, [], loopNil, K114, (by intro x hx; simp [show loopsOf c114 = [] from by kernel_rfl] at hx), (fun r t h => by unfold K114 at h; split at h; (injection h with h; subst h; rfl); cases h), (ev114 _ _).trans h2⟩
  · cases h
/-! ### L.szPane -/
noncomputable def G42 : Env := (envCons 114 [] E114 envNil)
noncomputable def c42 : Code := bodyOf Try.f42
noncomputable def L.szPane (a1 a2 a3 a4 a5 a6 : Int) (a7 : Bool) (a8 : Int) (a9 : List Int) : Option Int :=
(Option.bind (L.szIntS a8 a9) fun r10 =>
(bif (decide (r10 < 0)) then
(some (-1))
else
(some r10)))
noncomputable def R42 (x : Int) : Res := ⟨[.one (ai x)], [], []⟩
noncomputable def K42 (r : Res) : Option Int :=
  match r with
  | ⟨[.one (.val (.int .i64 v1))], [], []⟩ => some (v1)
  | _ => none
noncomputable def E42 : Fun2 := fun args bs rs =>
  match args, bs, rs with
  | [.s1 (.agg [.val (.int .i64 a1), .val (.int .i64 a2), .val (.int .i64 a3), .val (.int .i64 a4), .val (.int .i64 a5), .val (.int .i64 a6), .sl 0, .val (.bool a7)]), .s1 (.one (.val (.int .i64 a8)))], [], [⟨3, (.int .i64), a9, .ro⟩] => some ⟨Int, L.szPane a1 a2 a3 a4 a5 a6 a7 a8 a9, R42⟩
  | _, _, _ => none
theorem ev42 (a1 a2 a3 a4 a5 a6 : Int) (a7 : Bool) (a8 : Int) (a9 : List Int) : evF Try.prog G42 loopNil (0, 0) [] Try.f42 c42 [.s1 (.agg [ai a1, ai a2, ai a3, ai a4, ai a5, ai a6, .sl 0, ab a7]), vi a8] [] [⟨3, (.int .i64), a9, .ro⟩] K42 = L.szPane a1 a2 a3 a4 a5 a6 a7 a8 a9 := by kernel_rfl
theorem good42 : Vm.Good Try.prog 42 E42 := by
  refine evF_good (G := G42) (c := c42) (envCons_good good114 envNil_good) Try.func42 (by kernel_rfl) (by kernel_rfl) (0, 0) (fun args bs rs out t h h2 => ?_)
  unfold E42 at h
  split at h
  · injection h with h
    subst h
    exact ⟨rfl, [], loopNil, K42, (by intro x hx; simp [show loopsOf c42 = [] from by kernel_rfl] at hx), (fun r t h => by unfold K42 at h; split at h; (injection h with h; subst h; rfl); cases h), (ev42 _ _ _ _ _ _ _ _ _).trans h2⟩
  · cases h
/-! ### L.szItem -/
noncomputable def G172 : Env := (envCons 42 [] E42 envNil)
noncomputable def c172 : Code := bodyOf Try.f172
noncomputable def L.szItem (a1 a2 a3 a4 a5 a6 a7 a8 : Int) (a9 : Bool) (a10 : Int) (a11 : List Int) : Option Int :=
(Option.bind (L.szPane a3 a4 a5 a6 a7 a8 a9 a10 a11) fun r12 =>
(bif (decide (r12 < 0)) then
(some (-1))
else
(some r12)))
noncomputable def R172 (x : Int) : Res := ⟨[.one (ai x)], [], []⟩
noncomputable def K172 (r : Res) : Option Int :=
  match r with
  | ⟨[.one (.val (.int .i64 v1))], [], []⟩ => some (v1)
  | _ => none
noncomputable def E172 : Fun2 := fun args bs rs =>
  match args, bs, rs with
  | [.s1 (.agg [.val (.int .i64 a1), .val (.int .i64 a2), .val (.int .i64 a3), .val (.int .i64 a4), .val (.int .i64 a5), .val (.int .i64 a6), .val (.int .i64 a7), .val (.int .i64 a8), .sl 0, .val (.bool a9)]), .s1 (.one (.val (.int .i64 a10)))], [], [⟨3, (.int .i64), a11, .ro⟩] => some ⟨Int, L.szItem a1 a2 a3 a4 a5 a6 a7 a8 a9 a10 a11, R172⟩
  | _, _, _ => none
theorem ev172 (a1 a2 a3 a4 a5 a6 a7 a8 : Int) (a9 : Bool) (a10 : Int) (a11 : List Int) : evF Try.prog G172 loopNil (0, 0) [] Try.f172 c172 [.s1 (.agg [ai a1, ai a2, ai a3, ai a4, ai a5, ai a6, ai a7, ai a8, .sl 0, ab a9]), vi a10] [] [⟨3, (.int .i64), a11, .ro⟩] K172 = L.szItem a1 a2 a3 a4 a5 a6 a7 a8 a9 a10 a11 := by kernel_rfl
theorem good172 : Vm.Good Try.prog 172 E172 := by
  refine evF_good (G := G172) (c := c172) (envCons_good good42 envNil_good) Try.func172 (by kernel_rfl) (by kernel_rfl) (0, 0) (fun args bs rs out t h h2 => ?_)
  unfold E172 at h
  split at h
  · injection h with h
    subst h
    exact ⟨rfl, [], loopNil, K172, (by intro x hx; simp [show loopsOf c172 = [] from by kernel_rfl] at hx), (fun r t h => by unfold K172 at h; split at h; (injection h with h; subst h; rfl); cases h), (ev172 _ _ _ _ _ _ _ _ _ _ _).trans h2⟩
  · cases h
/-! ### L.szItemS -/
noncomputable def G87 : Env := (envCons 172 [] E172 envNil)
noncomputable def c87 : Code := bodyOf Try.f87
noncomputable def c87_5 : Code := (loopsOf c87).getD 0 .skip
noncomputable def L.szItemS_l0 : Nat → (Int → Int → Option Int) → (Int → Option Int) → Int → Int → (List (Int × Int × Int × Int × Int × Int × Int × Int × List Int × Bool)) → Option Int
  | 0, _, _, _, _, _ => none
  | m + 1, e5_0, e5_1, a6, a7, a8 =>
    (bif (decide (a7 < (a8.length : Int))) then
    (bif decide ((0 : Int) ≤ a7 ∧ a7 < (a8.length : Int)) then
    (Option.bind (L.szItem ((nthI a8 a7 ((0 : Int), ((0 : Int), ((0 : Int), ((0 : Int), ((0 : Int), ((0 : Int), ((0 : Int), ((0 : Int), ([], false)))))))))).1) ((nthI a8 a7 ((0 : Int), ((0 : Int), ((0 : Int), ((0 : Int), ((0 : Int), ((0 : Int), ((0 : Int), ((0 : Int), ([], false)))))))))).2.1) ((nthI a8 a7 ((0 : Int), ((0 : Int), ((0 : Int), ((0 : Int), ((0 : Int), ((0 : Int), ((0 : Int), ((0 : Int), ([], false)))))))))).2.2.1) ((nthI a8 a7 ((0 : Int), ((0 : Int), ((0 : Int), ((0 : Int), ((0 : Int), ((0 : Int), ((0 : Int), ((0 : Int), ([], false)))))))))).2.2.2.1) ((nthI a8 a7 ((0 : Int), ((0 : Int), ((0 : Int), ((0 : Int), ((0 : Int), ((0 : Int), ((0 : Int), ((0 : Int), ([], false)))))))))).2.2.2.2.1) ((nthI a8 a7 ((0 : Int), ((0 : Int), ((0 : Int), ((0 : Int), ((0 : Int), ((0 : Int), ((0 : Int), ((0 : Int), ([], false)))))))))).2.2.2.2.2.1) ((nthI a8 a7 ((0 : Int), ((0 : Int), ((0 : Int), ((0 : Int), ((0 : Int), ((0 : Int), ((0 : Int), ((0 : Int), ([], false)))))))))).2.2.2.2.2.2.1) ((nthI a8 a7 ((0 : Int), ((0 : Int), ((0 : Int), ((0 : Int), ((0 : Int), ((0 : Int), ((0 : Int), ((0 : Int), ([], false)))))))))).2.2.2.2.2.2.2.1) ((nthI a8 a7 ((0 : Int), ((0 : Int), ((0 : Int), ((0 : Int), ((0 : Int), ((0 : Int), ((0 : Int), ((0 : Int), ([], false)))))))))).2.2.2.2.2.2.2.2.2) a6 ((nthI a8 a7 ((0 : Int), ((0 : Int), ((0 : Int), ((0 : Int), ((0 : Int), ((0 : Int), ((0 : Int), ((0 : Int), ([], false)))))))))).2.2.2.2.2.2.2.2.1)) fun r11 =>
    (bif (decide (r11 < 0)) then
    (e5_0 r11 (-1))
    else
    (L.szItemS_l0 m e5_0 e5_1 r11 (IntKind.wrap .i64 (a7 + 1)) a8)))
    else
    none)
    else
    (e5_1 a6))
noncomputable def L.szItemS (a1 : Int) (a2 : List (Int × Int × Int × Int × Int × Int × Int × Int × List Int × Bool)) : Option Int :=
(let v4 : Int := (IntKind.wrap .i64 (a1 - (a2.length : Int)))
(bif (decide (v4 < 0)) then
(some (-1))
else
(L.szItemS_l0 fu (fun y14 y15 =>
(some y15)) (fun y16 =>
(some y16)) v4 0 a2)))
noncomputable def H87_5 : LoopH := ⟨⟨((.one (.sl 0)) :: hh :: (hu 3 (hh :: (hu 21 [])))), [], [(230, (.pair (.int .i64) (.pair (.int .i64) (.pair (.int .i64) (.pair (.int .i64) (.pair (.int .i64) (.pair (.int .i64) (.pair (.int .i64) (.pair (.int .i64) (.pair (.sl 3 (.int .i64)) .bool))))))))), .ro)]⟩, [2, 3, 4, 6, 7, 8, 9, 10, 11, 12, 13, 14, 15, 16, 17, 18, 19, 20, 21, 22, 23, 24, 25, 26], [], [0, 2, 3, 5, 6, 7, 8, 9, 10, 11, 12, 13, 14, 15, 16, 17, 18, 19, 20, 21, 22, 23, 24, 25, 26], []⟩
noncomputable def E87_5 (m : Nat) (ps : List Prm) (k : Kont Int) : Option Int :=
  match ps with
  | [.v (.int .i64 a6), .v (.int .i64 a7), .row (.pair (.int .i64) (.pair (.int .i64) (.pair (.int .i64) (.pair (.int .i64) (.pair (.int .i64) (.pair (.int .i64) (.pair (.int .i64) (.pair (.int .i64) (.pair (.sl 3 (.int .i64)) .bool))))))))) a8] => L.szItemS_l0 m (fun z20 z21 => k .ret (⟨((.s1 (.one (.unk))) :: (vi z20) :: (vu 2 ((vi z21) :: (vu 22 [])))), [], []⟩ : St)) (fun z22 => k (.exit 0) (⟨((.s1 (.one (.unk))) :: (vi z22) :: (vu 25 [])), [], []⟩ : St)) a6 a7 a8
  | _ => none
noncomputable def S87_5 (a6 a7 : Int) (a8 : List (Int × Int × Int × Int × Int × Int × Int × Int × List Int × Bool)) : St := (⟨((vl 0) :: (vi a6) :: (vu 3 ((vi a7) :: (vu 21 [])))), [], [⟨230, (.pair (.int .i64) (.pair (.int .i64) (.pair (.int .i64) (.pair (.int .i64) (.pair (.int .i64) (.pair (.int .i64) (.pair (.int .i64) (.pair (.int .i64) (.pair (.sl 3 (.int .i64)) .bool))))))))), a8, .ro⟩]⟩ : St)
theorem ev87_5 (m : Nat) (k : Kont Int) (a6 a7 : Int) (a8 : List (Int × Int × Int × Int × Int × Int × Int × Int × List Int × Bool)) : evC Try.prog G87 loopNil c87_5 (S87_5 a6 a7 a8) (turn Try.prog (0, 0) H87_5 (E87_5 m) k) = E87_5 (m + 1) [.v (.int .i64 a6), .v (.int .i64 a7), .row (.pair (.int .i64) (.pair (.int .i64) (.pair (.int .i64) (.pair (.int .i64) (.pair (.int .i64) (.pair (.int .i64) (.pair (.int .i64) (.pair (.int .i64) (.pair (.sl 3 (.int .i64)) .bool))))))))) a8] k := by kernel_rfl
theorem ok87_5 (m : Nat) : LoopOk Try.prog (0, 0) c87_5 (enter Try.prog (0, 0) H87_5 (E87_5 m)) := by
  refine loop_ok (G := G87) (L := loopNil) (envCons_good good172 envNil_good) (by intro x hx; simp [show loopsOf c87_5 = [] from by kernel_rfl] at hx) (fun ps k => by unfold E87_5; split <;> rfl) (fun m ps k r h => ?_) m
  have h0 := h
  unfold E87_5 at h
  split at h
  · exact ⟨S87_5 _ _ _, by kernel_rfl, (ev87_5 m k _ _ _).trans h0⟩
  · cases h
noncomputable def L87 : LEnv Int := (loopCons 5 (enter Try.prog (0, 0) H87_5 (E87_5 fu)) loopNil)
theorem lq87 : loopsOf c87 = [c87_5] := by kernel_rfl
theorem fr87_5 : firstReg c87_5 = some 5 := by kernel_rfl
theorem le87_5 : L87 5 = enter Try.prog (0, 0) H87_5 (E87_5 fu) := by kernel_rfl
theorem lm87 : ∀ x ∈ [c87_5], ∀ id, firstReg x = some id → LoopOk Try.prog (0, 0) x (L87 id) := (loops_cons fr87_5 le87_5 (ok87_5 fu) loops_nil)
theorem lp87 : ∀ x ∈ loopsOf c87, ∀ id, firstReg x = some id → LoopOk Try.prog (0, 0) x (L87 id) := loops_eq lq87 lm87
noncomputable def R87 (x : Int) : Res := ⟨[.one (ai x)], [], []⟩
noncomputable def K87 (r : Res) : Option Int :=
  match r with
  | ⟨[.one (.val (.int .i64 v1))], [], []⟩ => some (v1)
  | _ => none
noncomputable def E87 : Fun2 := fun args bs rs =>
  match args, bs, rs with
  | [.s1 (.one (.sl 0)), .s1 (.one (.val (.int .i64 a1)))], [], [⟨230, (.pair (.int .i64) (.pair (.int .i64) (.pair (.int .i64) (.pair (.int .i64) (.pair (.int .i64) (.pair (.int .i64) (.pair (.int .i64) (.pair (.int .i64) (.pair (.sl 3 (.int .i64)) .bool))))))))), a2, .ro⟩] => some ⟨Int, L.szItemS a1 a2, R87⟩
  | _, _, _ => none
theorem ev87 (a1 : Int) (a2 : List (Int × Int × Int × Int × Int × Int × Int × Int × List Int × Bool)) : evF Try.prog G87 L87 (0, 0) [] Try.f87 c87 [vl 0, vi a1] [] [⟨230, (.pair (.int .i64) (.pair (.int .i64) (.pair (.int .i64) (.pair (.int .i64) (.pair (.int .i64) (.pair (.int .i64) (.pair (.int .i64) (.pair (.int .i64) (.pair (.sl 3 (.int .i64)) .bool))))))))), a2, .ro⟩] K87 = L.szItemS a1 a2 := by kernel_rfl
theorem good87 : Vm.Good Try.prog 87 E87 := by
  refine evF_good (G := G87) (c := c87) (envCons_good good172 envNil_good) Try.func87 (by kernel_rfl) (by kernel_rfl) (0, 0) (fun args bs rs out t h h2 => ?_)
  unfold E87 at h
  split at h
  · injection h with h
    subst h
    exact ⟨rfl, [], L87, K87, lp87, (fun r t h => by unfold K87 at h; split at h; (injection h with h; subst h; rfl); cases h), (ev87 _ _).trans h2⟩
  · cases h
/-! ### L.szRecS -/
noncomputable def G88 : Env := envNil
noncomputable def c88 : Code := bodyOf Try.f88
noncomputable def L.szRecS (a1 : Int) (a2 : List (Int × Int × Int)) : Option Int :=
(let v4 : Int := (IntKind.wrap .i64 (a1 - (a2.length : Int)))
(bif (decide (v4 < 0)) then
(some (-1))
else
(some v4)))
noncomputable def R88 (x : Int) : Res := ⟨[.one (ai x)], [], []⟩
noncomputable def K88 (r : Res) : Option Int :=
  match r with
  | ⟨[.one (.val (.int .i64 v1))], [], []⟩ => some (v1)
  | _ => none
noncomputable def E88 : Fun2 := fun args bs rs =>
  match args, bs, rs with
  | [.s1 (.one (.sl 0)), .s1 (.one (.val (.int .i64 a1)))], [], [⟨233, (.pair (.int .i64) (.pair (.int .i64) (.int .i64))), a2, .ro⟩] => some ⟨Int, L.szRecS a1 a2, R88⟩
  | _, _, _ => none
theorem ev88 (a1 : Int) (a2 : List (Int × Int × Int)) : evF Try.prog G88 loopNil (0, 0) [] Try.f88 c88 [vl 0, vi a1] [] [⟨233, (.pair (.int .i64) (.pair (.int .i64) (.int .i64))), a2, .ro⟩] K88 = L.szRecS a1 a2 := by kernel_rfl
theorem good88 : Vm.Good Try.prog 88 E88 := by
  refine evF_good (G := G88) (c := c88) envNil_good Try.func88 (by kernel_rfl) (by kernel_rfl) (0, 0) (fun args bs rs out t h h2 => ?_)
  unfold E88 at h
  split at h
  · injection h with h
    subst h
    exact ⟨rfl, [], loopNil, K88, (by intro x hx; simp [show loopsOf c88 = [] from by kernel_rfl] at hx), (fun r t h => by unfold K88 at h; split at h; (injection h with h; subst h; rfl); cases h), (ev88 _ _).trans h2⟩
  · cases h
/-! ### L.szBox -/
noncomputable def G14 : Env := (envCons 87 [] E87 (envCons 88 [] E88 envNil))
noncomputable def c14 : Code := bodyOf Try.f14
noncomputable def L.szBox (a1 a2 a3 a4 a5 : Int) (a6 : List (Int × Int × Int × Int × Int × Int × Int × Int × List Int × Bool)) (a7 : List (Int × Int × Int)) : Option Int :=
(Option.bind (L.szItemS a5 a6) fun r8 =>
(bif (decide (r8 < 0)) then
(some (-1))
else
(Option.bind (L.szRecS r8 a7) fun r10 =>
(bif (decide (r10 < 0)) then
(some (-1))
else
(some r10)))))
noncomputable def R14 (x : Int) : Res := ⟨[.one (ai x)], [], []⟩
noncomputable def K14 (r : Res) : Option Int :=
  match r with
  | ⟨[.one (.val (.int .i64 v1))], [], []⟩ => some (v1)
  | _ => none
noncomputable def E14 : Fun2 := fun args bs rs =>
  match args, bs, rs with
  | [.s1 (.agg [.val (.int .i64 a1), .val (.int .i64 a2), .val (.int .i64 a3), .val (.int .i64 a4), .sl 0, .sl 1]), .s1 (.one (.val (.int .i64 a5)))], [], [⟨230, (.pair (.int .i64) (.pair (.int .i64) (.pair (.int .i64) (.pair (.int .i64) (.pair (.int .i64) (.pair (.int .i64) (.pair (.int .i64) (.pair (.int .i64) (.pair (.sl 3 (.int .i64)) .bool))))))))), a6, .ro⟩, ⟨233, (.pair (.int .i64) (.pair (.int .i64) (.int .i64))), a7, .ro⟩] => some ⟨Int, L.szBox a1 a2 a3 a4 a5 a6 a7, R14⟩
  | _, _, _ => none
theorem ev14 (a1 a2 a3 a4 a5 : Int) (a6 : List (Int × Int × Int × Int × Int × Int × Int × Int × List Int × Bool)) (a7 : List (Int × Int × Int)) : evF Try.prog G14 loopNil (0, 0) [] Try.f14 c14 [.s1 (.agg [ai a1, ai a2, ai a3, ai a4, .sl 0, .sl 1]), vi a5] [] [⟨230, (.pair (.int .i64) (.pair (.int .i64) (.pair (.int .i64) (.pair (.int .i64) (.pair (.int .i64) (.pair (.int .i64) (.pair (.int .i64) (.pair (.int .i64) (.pair (.sl 3 (.int .i64)) .bool))))))))), a6, .ro⟩, ⟨233, (.pair (.int .i64) (.pair (.int .i64) (.int .i64))), a7, .ro⟩] K14 = L.szBox a1 a2 a3 a4 a5 a6 a7 := by kernel_rfl
theorem good14 : Vm.Good Try.prog 14 E14 := by
  refine evF_good (G := G14) (c := c14) (envCons_good good87 (envCons_good good88 envNil_good)) Try.func14 (by kernel_rfl) (by kernel_rfl) (0, 0) (fun args bs rs out t h h2 => ?_)
  unfold E14 at h
  split at h
  · injection h with h
    subst h
    exact ⟨rfl, [], loopNil, K14, (by intro x hx; simp [show loopsOf c14 = [] from by kernel_rfl] at hx), (fun r t h => by unfold K14 at h; split at h; (injection h with h; subst h; rfl); cases h), (ev14 _ _ _ _ _ _ _).trans h2⟩
  · cases h
/-! ### L.toIntS -/
noncomputable def G118 : Env := envNil
noncomputable def c118 : Code := bodyOf Try.f118
noncomputable def c118_3 : Code := (loopsOf c118).getD 0 .skip
noncomputable def L.toIntS_l0 : Nat → (List Int → Option (List Int)) → Int → List Int → List Int → Option (List Int)
  | 0, _, _, _, _ => none
  | m + 1, e3_0, a4, a5, a6 =>
    (bif (decide (a4 < (a5.length : Int))) then
    (bif decide ((0 : Int) ≤ a4 ∧ a4 < (a5.length : Int)) then
    (bif decide ((0 : Int) ≤ a4 ∧ a4 < (a6.length : Int)) then
    (L.toIntS_l0 m e3_0 (IntKind.wrap .i64 (a4 + 1)) a5 (a6.set (Int.toNat a4) (nthI a5 a4 (0 : Int))))
    else
    none)
    else
    none)
    else
    (e3_0 a6))
noncomputable def L.toIntS (a1 : List Int) : Option (List Int) :=
(let v2 : Int := (a1.length : Int)
(bif decide ((0 : Int) ≤ v2 ∧ v2 ≤ v2 ∧ (8 : Int) * v2 ≤ 281474976710656 ∧ v2 ≤ 9223372036854775807) then
(L.toIntS_l0 fu (fun y11 =>
(some y11)) 0 a1 (List.replicate (Int.toNat v2) (0 : Int)))
else
none))
noncomputable def H118_3 : LoopH := ⟨⟨((.one (.sl 0)) :: (hu 2 ((.one (.sl 1)) :: hh :: (hu 17 [])))), [], [(3, (.int .i64), .ro), (3, (.int .i64), .own)]⟩, [1, 2, 5, 6, 7, 8, 9, 10, 11, 12, 13, 14, 15, 16, 17, 18, 19, 20, 21], [], [0, 1, 4, 5, 6, 7, 8, 9, 10, 11, 12, 13, 14, 15, 16, 17, 18, 19, 20, 21], []⟩
noncomputable def E118_3 (m : Nat) (ps : List Prm) (k : Kont (List Int)) : Option (List Int) :=
  match ps with
  | [.v (.int .i64 a4), .row (.int .i64) a5, .row (.int .i64) a6] => L.toIntS_l0 m (fun z13 => k (.exit 0) (⟨(vu 3 ((vl 0) :: (vu 18 []))), [], [⟨3, (.int .i64), z13, .own⟩]⟩ : St)) a4 a5 a6
  | _ => none
noncomputable def S118_3 (a4 : Int) (a5 a6 : List Int) : St := (⟨((vl 0) :: (vu 2 ((vl 1) :: (vi a4) :: (vu 17 [])))), [], [⟨3, (.int .i64), a5, .ro⟩, ⟨3, (.int .i64), a6, .own⟩]⟩ : St)
theorem ev118_3 (m : Nat) (k : Kont (List Int)) (a4 : Int) (a5 a6 : List Int) : evC Try.prog G118 loopNil c118_3 (S118_3 a4 a5 a6) (turn Try.prog (0, 0) H118_3 (E118_3 m) k) = E118_3 (m + 1) [.v (.int .i64 a4), .row (.int .i64) a5, .row (.int .i64) a6] k := by kernel_rfl
theorem ok118_3 (m : Nat) : LoopOk Try.prog (0, 0) c118_3 (enter Try.prog (0, 0) H118_3 (E118_3 m)) := by
  refine loop_ok (G := G118) (L := loopNil) envNil_good (by intro x hx; simp [show loopsOf c118_3 = [] from by kernel_rfl] at hx) (fun ps k => by unfold E118_3; split <;> rfl) (fun m ps k r h => ?_) m
  have h0 := h
  unfold E118_3 at h
  split at h
  · exact ⟨S118_3 _ _ _, by kernel_rfl, (ev118_3 m k _ _ _).trans h0⟩
  · cases h
noncomputable def L118 : LEnv (List Int) := (loopCons 3 (enter Try.prog (0, 0) H118_3 (E118_3 fu)) loopNil)
theorem lq118 : loopsOf c118 = [c118_3] := by kernel_rfl
theorem fr118_3 : firstReg c118_3 = some 3 := by kernel_rfl
theorem le118_3 : L118 3 = enter Try.prog (0, 0) H118_3 (E118_3 fu) := by kernel_rfl
theorem lm118 : ∀ x ∈ [c118_3], ∀ id, firstReg x = some id → LoopOk Try.prog (0, 0) x (L118 id) := (loops_cons fr118_3 le118_3 (ok118_3 fu) loops_nil)
theorem lp118 : ∀ x ∈ loopsOf c118, ∀ id, firstReg x = some id → LoopOk Try.prog (0, 0) x (L118 id) := loops_eq lq118 lm118
noncomputable def R118 (x : List Int) : Res := ⟨[.one (.sl 0)], [], [⟨3, (.int .i64), x, .own⟩]⟩
noncomputable def K118 (r : Res) : Option (List Int) :=
  match r with
  | ⟨[.one (.sl 0)], [], [⟨3, (.int .i64), v1, .own⟩]⟩ => some (v1)
  | _ => none
noncomputable def E118 : Fun2 := fun args bs rs =>
  match args, bs, rs with
  | [.s1 (.one (.sl 0))], [], [⟨3, (.int .i64), a1, .ro⟩] => some ⟨List Int, L.toIntS a1, R118⟩
  | _, _, _ => none
theorem ev118 (a1 : List Int) : evF Try.prog G118 L118 (0, 0) [] Try.f118 c118 [vl 0] [] [⟨3, (.int .i64), a1, .ro⟩] K118 = L.toIntS a1 := by kernel_rfl
theorem good118 : Vm.Good Try.prog 118 E118 := by
  refine evF_good (G := G118) (c := c118) envNil_good Try.func118 (by kernel_rfl) (by kernel_rfl) (0, 0) (fun args bs rs out t h h2 => ?_)
  unfold E118 at h
  split at h
  · injection h with h
    subst h
    exact ⟨rfl, [], L118, K118, lp118, (fun r t h => by unfold K118 at h; split at h; (injection h with h; subst h; rfl); cases h), (ev118 _).trans h2⟩
  · cases h
/-! ### L.toPane -/
noncomputable def G44 : Env := (envCons 118 [] E118 envNil)
noncomputable def c44 : Code := bodyOf Try.f44
noncomputable def L.toPane (a1 a2 a3 a4 a5 a6 : Int) (a7 : Bool) (a8 : List Int) : Option (Int × Int × Int × Int × Int × Int × Bool × List Int) :=
(Option.bind (L.toIntS a8) fun r9 =>
(some (a1, a2, a3, a4, a5, a6, a7, r9)))
noncomputable def R44 (x : Int × Int × Int × Int × Int × Int × Bool × List Int) : Res := ⟨[.agg [ai x.1, ai x.2.1, ai x.2.2.1, ai x.2.2.2.1, ai x.2.2.2.2.1, ai x.2.2.2.2.2.1, .sl 0, ab x.2.2.2.2.2.2.1]], [], [⟨3, (.int .i64), x.2.2.2.2.2.2.2, .own⟩]⟩
noncomputable def K44 (r : Res) : Option (Int × Int × Int × Int × Int × Int × Bool × List Int) :=
  match r with
  | ⟨[.agg [.val (.int .i64 v1), .val (.int .i64 v2), .val (.int .i64 v3), .val (.int .i64 v4), .val (.int .i64 v5), .val (.int .i64 v6), .sl 0, .val (.bool v7)]], [], [⟨3, (.int .i64), v8, .own⟩]⟩ => some (v1, v2, v3, v4, v5, v6, v7, v8)
  | _ => none
noncomputable def E44 : Fun2 := fun args bs rs =>
  match args, bs, rs with
  | [.s1 (.agg [.val (.int .i64 a1), .val (.int .i64 a2), .val (.int .i64 a3), .val (.int .i64 a4), .val (.int .i64 a5), .val (.int .i64 a6), .sl 0, .val (.bool a7)])], [], [⟨3, (.int .i64), a8, .ro⟩] => some ⟨Int × Int × Int × Int × Int × Int × Bool × List Int, L.toPane a1 a2 a3 a4 a5 a6 a7 a8, R44⟩
  | _, _, _ => none
theorem ev44 (a1 a2 a3 a4 a5 a6 : Int) (a7 : Bool) (a8 : List Int) : evF Try.prog G44 loopNil (0, 0) [] Try.f44 c44 [.s1 (.agg [ai a1, ai a2, ai a3, ai a4, ai a5, ai a6, .sl 0, ab a7])] [] [⟨3, (.int .i64), a8, .ro⟩] K44 = L.toPane a1 a2 a3 a4 a5 a6 a7 a8 := by kernel_rfl
theorem good44 : Vm.Good Try.prog 44 E44 := by
  refine evF_good (G := G44) (c := c44) (envCons_good good118 envNil_good) Try.func44 (by kernel_rfl) (by kernel_rfl) (0, 0) (fun args bs rs out t h h2 => ?_)
  unfold E44 at h
  split at h
  · injection h with h
    subst h
    exact ⟨rfl, [], loopNil, K44, (by intro x hx; simp [show loopsOf c44 = [] from by kernel_rfl] at hx), (fun r t h => by unfold K44 at h; split at h; (injection h with h; subst h; rfl); cases h), (ev44 _ _ _ _ _ _ _ _).trans h2⟩
  · cases h
/-! ### L.toItem -/
noncomputable def G175 : Env := (envCons 44 [] E44 envNil)
noncomputable def c175 : Code := bodyOf Try.f175
noncomputable def L.toItem (a1 a2 a3 a4 a5 a6 a7 a8 : Int) (a9 : Bool) (a10 : List Int) : Option (Int × Int × Int × Int × Int × Int × Int × Int × Bool × List Int) :=
(Option.bind (L.toPane a3 a4 a5 a6 a7 a8 a9 a10) fun r11 =>
(some (a1, a2, r11.1, r11.2.1, r11.2.2.1, r11.2.2.2.1, r11.2.2.2.2.1, r11.2.2.2.2.2.1, r11.2.2.2.2.2.2.1, r11.2.2.2.2.2.2.2)))
noncomputable def R175 (x : Int × Int × Int × Int × Int × Int × Int × Int × Bool × List Int) : Res := ⟨[.agg [ai x.1, ai x.2.1, ai x.2.2.1, ai x.2.2.2.1, ai x.2.2.2.2.1, ai x.2.2.2.2.2.1, ai x.2.2.2.2.2.2.1, ai x.2.2.2.2.2.2.2.1, .sl 0, ab x.2.2.2.2.2.2.2.2.1]], [], [⟨3, (.int .i64), x.2.2.2.2.2.2.2.2.2, .own⟩]⟩
noncomputable def K175 (r : Res) : Option (Int × Int × Int × Int × Int × Int × Int × Int × Bool × List Int) :=
  match r with
  | ⟨[.agg [.val (.int .i64 v1), .val (.int .i64 v2), .val (.int .i64 v3), .val (.int .i64 v4), .val (.int .i64 v5), .val (.int .i64 v6), .val (.int .i64 v7), .val (.int .i64 v8), .sl 0, .val (.bool v9)]], [], [⟨3, (.int .i64), v10, .own⟩]⟩ => some (v1, v2, v3, v4, v5, v6, v7, v8, v9, v10)
  | _ => none
noncomputable def E175 : Fun2 := fun args bs rs =>
  match args, bs, rs with
  | [.s1 (.agg [.val (.int .i64 a1), .val (.int .i64 a2), .val (.int .i64 a3), .val (.int .i64 a4), .val (.int .i64 a5), .val (.int .i64 a6), .val (.int .i64 a7), .val (.int .i64 a8), .sl 0, .val (.bool a9)])], [], [⟨3, (.int .i64), a10, .ro⟩] => some ⟨Int × Int × Int × Int × Int × Int × Int × Int × Bool × List Int, L.toItem a1 a2 a3 a4 a5 a6 a7 a8 a9 a10, R175⟩
  | _, _, _ => none
theorem ev175 (a1 a2 a3 a4 a5 a6 a7 a8 : Int) (a9 : Bool) (a10 : List Int) : evF Try.prog G175 loopNil (0, 0) [] Try.f175 c175 [.s1 (.agg [ai a1, ai a2, ai a3, ai a4, ai a5, ai a6, ai a7, ai a8, .sl 0, ab a9])] [] [⟨3, (.int .i64), a10, .ro⟩] K175 = L.toItem a1 a2 a3 a4 a5 a6 a7 a8 a9 a10 := by kernel_rfl
theorem good175 : Vm.Good Try.prog 175 E175 := by
  refine evF_good (G := G175) (c := c175) (envCons_good good44 envNil_good) Try.func175 (by kernel_rfl) (by kernel_rfl) (0, 0) (fun args bs rs out t h h2 => ?_)
  unfold E175 at h
  split at h
  · injection h with h
    subst h
    exact ⟨rfl, [], loopNil, K175, (by intro x hx; simp [show loopsOf c175 = [] from by kernel_rfl] at hx), (fun r t h => by unfold K175 at h; split at h; (injection h with h; subst h; rfl); cases h), (ev175 _ _ _ _ _ _ _ _ _ _).trans h2⟩
  · cases h
/-! ### L.toItemS -/
noncomputable def G91 : Env := (envCons 175 [] E175 envNil)
noncomputable def c91 : Code := bodyOf Try.f91
noncomputable def c91_3 : Code := (loopsOf c91).getD 0 .skip
noncomputable def L.toItemS_l0 : Nat → ((List (Int × Int × Int × Int × Int × Int × Int × Int × List Int × Bool)) → Option ((List (Int × Int × Int × Int × Int × Int × Int × Int × List Int × Bool)))) → Int → (List (Int × Int × Int × Int × Int × Int × Int × Int × List Int × Bool)) → (List (Int × Int × Int × Int × Int × Int × Int × Int × List Int × Bool)) → Option ((List (Int × Int × Int × Int × Int × Int × Int × Int × List Int × Bool)))
  | 0, _, _, _, _ => none
  | m + 1, e3_0, a4, a5, a6 =>
    (bif (decide (a4 < (a5.length : Int))) then
    (bif decide ((0 : Int) ≤ a4 ∧ a4 < (a5.length : Int)) then
    (Option.bind (L.toItem ((nthI a5 a4 ((0 : Int), ((0 : Int), ((0 : Int), ((0 : Int), ((0 : Int), ((0 : Int), ((0 : Int), ((0 : Int), ([], false)))))))))).1) ((nthI a5 a4 ((0 : Int), ((0 : Int), ((0 : Int), ((0 : Int), ((0 : Int), ((0 : Int), ((0 : Int), ((0 : Int), ([], false)))))))))).2.1) ((nthI a5 a4 ((0 : Int), ((0 : Int), ((0 : Int), ((0 : Int), ((0 : Int), ((0 : Int), ((0 : Int), ((0 : Int), ([], false)))))))))).2.2.1) ((nthI a5 a4 ((0 : Int), ((0 : Int), ((0 : Int), ((0 : Int), ((0 : Int), ((0 : Int), ((0 : Int), ((0 : Int), ([], false)))))))))).2.2.2.1) ((nthI a5 a4 ((0 : Int), ((0 : Int), ((0 : Int), ((0 : Int), ((0 : Int), ((0 : Int), ((0 : Int), ((0 : Int), ([], false)))))))))).2.2.2.2.1) ((nthI a5 a4 ((0 : Int), ((0 : Int), ((0 : Int), ((0 : Int), ((0 : Int), ((0 : Int), ((0 : Int), ((0 : Int), ([], false)))))))))).2.2.2.2.2.1) ((nthI a5 a4 ((0 : Int), ((0 : Int), ((0 : Int), ((0 : Int), ((0 : Int), ((0 : Int), ((0 : Int), ((0 : Int), ([], false)))))))))).2.2.2.2.2.2.1) ((nthI a5 a4 ((0 : Int), ((0 : Int), ((0 : Int), ((0 : Int), ((0 : Int), ((0 : Int), ((0 : Int), ((0 : Int), ([], false)))))))))).2.2.2.2.2.2.2.1) ((nthI a5 a4 ((0 : Int), ((0 : Int), ((0 : Int), ((0 : Int), ((0 : Int), ((0 : Int), ((0 : Int), ((0 : Int), ([], false)))))))))).2.2.2.2.2.2.2.2.2) ((nthI a5 a4 ((0 : Int), ((0 : Int), ((0 : Int), ((0 : Int), ((0 : Int), ((0 : Int), ((0 : Int), ((0 : Int), ([], false)))))))))).2.2.2.2.2.2.2.2.1)) fun r9 =>
    (bif decide ((0 : Int) ≤ a4 ∧ a4 < (a6.length : Int)) then
    (let v10 : List (Int × Int × Int × Int × Int × Int × Int × Int × List Int × Bool) := (a6.set (Int.toNat a4) (r9.1, (r9.2.1, (r9.2.2.1, (r9.2.2.2.1, (r9.2.2.2.2.1, (r9.2.2.2.2.2.1, (r9.2.2.2.2.2.2.1, (r9.2.2.2.2.2.2.2.1, (r9.2.2.2.2.2.2.2.2.2, r9.2.2.2.2.2.2.2.2.1))))))))))
    (L.toItemS_l0 m e3_0 (IntKind.wrap .i64 (a4 + 1)) a5 v10))
    else
    none))
    else
    none)
    else
    (e3_0 a6))
noncomputable def L.toItemS (a1 : List (Int × Int × Int × Int × Int × Int × Int × Int × List Int × Bool)) : Option ((List (Int × Int × Int × Int × Int × Int × Int × Int × List Int × Bool))) :=
(let v2 : Int := (a1.length : Int)
(bif decide ((0 : Int) ≤ v2 ∧ v2 ≤ v2 ∧ (96 : Int) * v2 ≤ 281474976710656 ∧ v2 ≤ 9223372036854775807) then
(let v3 : List (Int × Int × Int × Int × Int × Int × Int × Int × List Int × Bool) := (List.replicate (Int.toNat v2) (0, (0, (0, (0, (0, (0, (0, (0, ([], false))))))))))
(L.toItemS_l0 fu (fun y12 =>
(some y12)) 0 a1 v3))
else
none))
noncomputable def H91_3 : LoopH := ⟨⟨((.one (.sl 0)) :: (hu 2 ((.one (.sl 1)) :: hh :: (hu 18 [])))), [], [(230, (.pair (.int .i64) (.pair (.int .i64) (.pair (.int .i64) (.pair (.int .i64) (.pair (.int .i64) (.pair (.int .i64) (.pair (.int .i64) (.pair (.int .i64) (.pair (.sl 3 (.int .i64)) .bool))))))))), .ro), (146, (.pair (.int .i64) (.pair (.int .i64) (.pair (.int .i64) (.pair (.int .i64) (.pair (.int .i64) (.pair (.int .i64) (.pair (.int .i64) (.pair (.int .i64) (.pair (.sl 3 (.int .i64)) .bool))))))))), .own)]⟩, [1, 2, 5, 6, 7, 8, 9, 10, 11, 12, 13, 14, 15, 16, 17, 18, 19, 20, 21, 22], [], [0, 1, 4, 5, 6, 7, 8, 9, 10, 11, 12, 13, 14, 15, 16, 17, 18, 19, 20, 21, 22], []⟩
noncomputable def E91_3 (m : Nat) (ps : List Prm) (k : Kont ((List (Int × Int × Int × Int × Int × Int × Int × Int × List Int × Bool)))) : Option ((List (Int × Int × Int × Int × Int × Int × Int × Int × List Int × Bool))) :=
  match ps with
  | [.v (.int .i64 a4), .row (.pair (.int .i64) (.pair (.int .i64) (.pair (.int .i64) (.pair (.int .i64) (.pair (.int .i64) (.pair (.int .i64) (.pair (.int .i64) (.pair (.int .i64) (.pair (.sl 3 (.int .i64)) .bool))))))))) a5, .row (.pair (.int .i64) (.pair (.int .i64) (.pair (.int .i64) (.pair (.int .i64) (.pair (.int .i64) (.pair (.int .i64) (.pair (.int .i64) (.pair (.int .i64) (.pair (.sl 3 (.int .i64)) .bool))))))))) a6] => L.toItemS_l0 m (fun z14 => k (.exit 0) (⟨(vu 3 ((vl 0) :: (vu 19 []))), [], [⟨146, (.pair (.int .i64) (.pair (.int .i64) (.pair (.int .i64) (.pair (.int .i64) (.pair (.int .i64) (.pair (.int .i64) (.pair (.int .i64) (.pair (.int .i64) (.pair (.sl 3 (.int .i64)) .bool))))))))), z14, .own⟩]⟩ : St)) a4 a5 a6
  | _ => none
noncomputable def S91_3 (a4 : Int) (a5 a6 : List (Int × Int × Int × Int × Int × Int × Int × Int × List Int × Bool)) : St := (⟨((vl 0) :: (vu 2 ((vl 1) :: (vi a4) :: (vu 18 [])))), [], [⟨230, (.pair (.int .i64) (.pair (.int .i64) (.pair (.int .i64) (.pair (.int .i64) (.pair (.int .i64) (.pair (.int .i64) (.pair (.int .i64) (.pair (.int .i64) (.pair (.sl 3 (.int .i64)) .bool))))))))), a5, .ro⟩, ⟨146, (.pair (.int .i64) (.pair (.int .i64) (.pair (.int .i64) (.pair (.int .i64) (.pair (.int .i64) (.pair (.int .i64) (.pair (.int .i64) (.pair (.int .i64) (.pair (.sl 3 (.int .i64)) .bool))))))))), a6, .own⟩]⟩ : St)
theorem ev91_3 (m : Nat) (k : Kont ((List (Int × Int × Int × Int × Int × Int × Int × Int × List Int × Bool)))) (a4 : Int) (a5 a6 : List (Int × Int × Int × Int × Int × Int × Int × Int × List Int × Bool)) : evC Try.prog G91 loopNil c91_3 (S91_3 a4 a5 a6) (turn Try.prog (0, 0) H91_3 (E91_3 m) k) = E91_3 (m + 1) [.v (.int .i64 a4), .row (.pair (.int .i64) (.pair (.int .i64) (.pair (.int .i64) (.pair (.int .i64) (.pair (.int .i64) (.pair (.int .i64) (.pair (.int .i64) (.pair (.int .i64) (.pair (.sl 3 (.int .i64)) .bool))))))))) a5, .row (.pair (.int .i64) (.pair (.int .i64) (.pair (.int .i64) (.pair (.int .i64) (.pair (.int .i64) (.pair (.int .i64) (.pair (.int .i64) (.pair (.int .i64) (.pair (.sl 3 (.int .i64)) .bool))))))))) a6] k := by kernel_rfl
theorem ok91_3 (m : Nat) : LoopOk Try.prog (0, 0) c91_3 (enter Try.prog (0, 0) H91_3 (E91_3 m)) := by
  refine loop_ok (G := G91) (L := loopNil) (envCons_good good175 envNil_good) (by intro x hx; simp [show loopsOf c91_3 = [] from by kernel_rfl] at hx) (fun ps k => by unfold E91_3; split <;> rfl) (fun m ps k r h => ?_) m
  have h0 := h
  unfold E91_3 at h
  split at h
  · exact ⟨S91_3 _ _ _, by kernel_rfl, (ev91_3 m k _ _ _).trans h0⟩
  · cases h
noncomputable def L91 : LEnv ((List (Int × Int × Int × Int × Int × Int × Int × Int × List Int × Bool))) := (loopCons 3 (enter Try.prog (0, 0) H91_3 (E91_3 fu)) loopNil)
theorem lq91 : loopsOf c91 = [c91_3] := by kernel_rfl
theorem fr91_3 : firstReg c91_3 = some 3 := by kernel_rfl
theorem le91_3 : L91 3 = enter Try.prog (0, 0) H91_3 (E91_3 fu) := by kernel_rfl
theorem lm91 : ∀ x ∈ [c91_3], ∀ id, firstReg x = some id → LoopOk Try.prog (0, 0) x (L91 id) := (loops_cons fr91_3 le91_3 (ok91_3 fu) loops_nil)
theorem lp91 : ∀ x ∈ loopsOf c91, ∀ id, firstReg x = some id → LoopOk Try.prog (0, 0) x (L91 id) := loops_eq lq91 lm91
noncomputable def R91 (x : (List (Int × Int × Int × Int × Int × Int × Int × Int × List Int × Bool))) : Res := ⟨[.one (.sl 0)], [], [⟨146, (.pair (.int .i64) (.pair (.int .i64) (.pair (.int .i64) (.pair (.int .i64) (.pair (.int .i64) (.pair (.int .i64) (.pair (.int .i64) (.pair (.int .i64) (.pair (.sl 3 (.int .i64)) .bool))))))))), x, .own⟩]⟩
noncomputable def K91 (r : Res) : Option ((List (Int × Int × Int × Int × Int × Int × Int × Int × List Int × Bool))) :=
  match r with
  | ⟨[.one (.sl 0)], [], [⟨146, (.pair (.int .i64) (.pair (.int .i64) (.pair (.int .i64) (.pair (.int .i64) (.pair (.int .i64) (.pair (.int .i64) (.pair (.int .i64) (.pair (.int .i64) (.pair (.sl 3 (.int .i64)) .bool))))))))), v1, .own⟩]⟩ => some (v1)
  | _ => none
noncomputable def E91 : Fun2 := fun args bs rs =>
  match args, bs, rs with
  | [.s1 (.one (.sl 0))], [], [⟨230, (.pair (.int .i64) (.pair (.int .i64) (.pair (.int .i64) (.pair (.int .i64) (.pair (.int .i64) (.pair (.int .i64) (.pair (.int .i64) (.pair (.int .i64) (.pair (.sl 3 (.int .i64)) .bool))))))))), a1, .ro⟩] => some ⟨(List (Int × Int × Int × Int × Int × Int × Int × Int × List Int × Bool)), L.toItemS a1, R91⟩
  | _, _, _ => none
theorem ev91 (a1 : List (Int × Int × Int × Int × Int × Int × Int × Int × List Int × Bool)) : evF Try.prog G91 L91 (0, 0) [] Try.f91 c91 [vl 0] [] [⟨230, (.pair (.int .i64) (.pair (.int .i64) (.pair (.int .i64) (.pair (.int .i64) (.pair (.int .i64) (.pair (.int .i64) (.pair (.int .i64) (.pair (.int .i64) (.pair (.sl 3 (.int .i64)) .bool))))))))), a1, .ro⟩] K91 = L.toItemS a1 := by kernel_rfl
theorem good91 : Vm.Good Try.prog 91 E91 := by
  refine evF_good (G := G91) (c := c91) (envCons_good good175 envNil_good) Try.func91 (by kernel_rfl) (by kernel_rfl) (0, 0) (fun args bs rs out t h h2 => ?_)
  unfold E91 at h
  split at h
  · injection h with h
    subst h
    exact ⟨rfl, [], L91, K91, lp91, (fun r t h => by unfold K91 at h; split at h; (injection h with h; subst h; rfl); cases h), (ev91 _).trans h2⟩
  · cases h
/-! ### L.toRec -/
noncomputable def G176 : Env := envNil
noncomputable def c176 : Code := bodyOf Try.f176
noncomputable def L.toRec (a1 a2 a3 : Int) : Option (Int × Int × Int) :=
(some (a1, a2, a3))
noncomputable def R176 (x : Int × Int × Int) : Res := ⟨[.agg [ai x.1, ai x.2.1, ai x.2.2]], [], []⟩
noncomputable def K176 (r : Res) : Option (Int × Int × Int) :=
  match r with
  | ⟨[.agg [.val (.int .i64 v1), .val (.int .i64 v2), .val (.int .i64 v3)]], [], []⟩ => some (v1, v2, v3)
  | _ => none
noncomputable def E176 : Fun2 := fun args bs rs =>
  match args, bs, rs with
  | [.s1 (.agg [.val (.int .i64 a1), .val (.int .i64 a2), .val (.int .i64 a3)])], [], [] => some ⟨Int × Int × Int, L.toRec a1 a2 a3, R176⟩
  | _, _, _ => none
theorem ev176 (a1 a2 a3 : Int) : evF Try.prog G176 loopNil (0, 0) [] Try.f176 c176 [.s1 (.agg [ai a1, ai a2, ai a3])] [] [] K176 = L.toRec a1 a2 a3 := by kernel_rfl
theorem good176 : Vm.Good Try.prog 176 E176 := by
  refine evF_good (G := G176) (c := c176) envNil_good Try.func176 (by kernel_rfl) (by kernel_rfl) (0, 0) (fun args bs rs out t h h2 => ?_)
  unfold E176 at h
  split at h
  · injection h with h
    subst h
    exact ⟨rfl, [], loopNil, K176, (by intro x hx; simp [show loopsOf c176 = [] from by kernel_rfl] at hx), (fun r t h => by unfold K176 at h; split at h; (injection h with h; subst h; rfl); cases h), (ev176 _ _ _).trans h2⟩
  · cases h
/-! ### L.toRecS -/
noncomputable def G92 : Env := (envCons 176 [] E176 envNil)
noncomputable def c92 : Code := bodyOf Try.f92
noncomputable def c92_3 : Code := (loopsOf c92).getD 0 .skip
noncomputable def L.toRecS_l0 : Nat → ((List (Int × Int × Int)) → Option ((List (Int × Int × Int)))) → Int → (List (Int × Int × Int)) → (List (Int × Int × Int)) → Option ((List (Int × Int × Int)))
  | 0, _, _, _, _ => none
  | m + 1, e3_0, a4, a5, a6 =>
    (bif (decide (a4 < (a5.length : Int))) then
    (bif decide ((0 : Int) ≤ a4 ∧ a4 < (a5.length : Int)) then
    (Option.bind (L.toRec ((nthI a5 a4 ((0 : Int), ((0 : Int), (0 : Int)))).1) ((nthI a5 a4 ((0 : Int), ((0 : Int), (0 : Int)))).2.1) ((nthI a5 a4 ((0 : Int), ((0 : Int), (0 : Int)))).2.2)) fun r9 =>
    (bif decide ((0 : Int) ≤ a4 ∧ a4 < (a6.length : Int)) then
    (L.toRecS_l0 m e3_0 (IntKind.wrap .i64 (a4 + 1)) a5 (a6.set (Int.toNat a4) (r9.1, (r9.2.1, r9.2.2))))
    else
    none))
    else
    none)
    else
    (e3_0 a6))
noncomputable def L.toRecS (a1 : List (Int × Int × Int)) : Option ((List (Int × Int × Int))) :=
(let v2 : Int := (a1.length : Int)
(bif decide ((0 : Int) ≤ v2 ∧ v2 ≤ v2 ∧ (24 : Int) * v2 ≤ 281474976710656 ∧ v2 ≤ 9223372036854775807) then
(L.toRecS_l0 fu (fun y12 =>
(some y12)) 0 a1 (List.replicate (Int.toNat v2) (0, (0, 0))))
else
none))
noncomputable def H92_3 : LoopH := ⟨⟨((.one (.sl 0)) :: (hu 2 ((.one (.sl 1)) :: hh :: (hu 18 [])))), [], [(233, (.pair (.int .i64) (.pair (.int .i64) (.int .i64))), .ro), (158, (.pair (.int .i64) (.pair (.int .i64) (.int .i64))), .own)]⟩, [1, 2, 5, 6, 7, 8, 9, 10, 11, 12, 13, 14, 15, 16, 17, 18, 19, 20, 21, 22], [], [0, 1, 4, 5, 6, 7, 8, 9, 10, 11, 12, 13, 14, 15, 16, 17, 18, 19, 20, 21, 22], []⟩
noncomputable def E92_3 (m : Nat) (ps : List Prm) (k : Kont ((List (Int × Int × Int)))) : Option ((List (Int × Int × Int))) :=
  match ps with
  | [.v (.int .i64 a4), .row (.pair (.int .i64) (.pair (.int .i64) (.int .i64))) a5, .row (.pair (.int .i64) (.pair (.int .i64) (.int .i64))) a6] => L.toRecS_l0 m (fun z14 => k (.exit 0) (⟨(vu 3 ((vl 0) :: (vu 19 []))), [], [⟨158, (.pair (.int .i64) (.pair (.int .i64) (.int .i64))), z14, .own⟩]⟩ : St)) a4 a5 a6
  | _ => none
noncomputable def S92_3 (a4 : Int) (a5 a6 : List (Int × Int × Int)) : St := (⟨((vl 0) :: (vu 2 ((vl 1) :: (vi a4) :: (vu 18 [])))), [], [⟨233, (.pair (.int .i64) (.pair (.int .i64) (.int .i64))), a5, .ro⟩, ⟨158, (.pair (.int .i64) (.pair (.int .i64) (.int .i64))), a6, .own⟩]⟩ : St)
theorem ev92_3 (m : Nat) (k : Kont ((List (Int × Int × Int)))) (a4 : Int) (a5 a6 : List (Int × Int × Int)) : evC Try.prog G92 loopNil c92_3 (S92_3 a4 a5 a6) (turn Try.prog (0, 0) H92_3 (E92_3 m) k) = E92_3 (m + 1) [.v (.int .i64 a4), .row (.pair (.int .i64) (.pair (.int .i64) (.int .i64))) a5, .row (.pair (.int .i64) (.pair (.int .i64) (.int .i64))) a6] k := by kernel_rfl
theorem ok92_3 (m : Nat) : LoopOk Try.prog (0, 0) c92_3 (enter Try.prog (0, 0) H92_3 (E92_3 m)) := by
  refine loop_ok (G := G92) (L := loopNil) (envCons_good good176 envNil_good) (by intro x hx; simp [show loopsOf c92_3 = [] from by kernel_rfl] at hx) (fun ps k => by unfold E92_3; split <;> rfl) (fun m ps k r h => ?_) m
  have h0 := h
  unfold E92_3 at h
  split at h
  · exact ⟨S92_3 _ _ _, by kernel_rfl, (ev92_3 m k _ _ _).trans h0⟩
  · cases h
noncomputable def L92 : LEnv ((List (Int × Int × Int))) := (loopCons 3 (enter Try.prog (0, 0) H92_3 (E92_3 fu)) loopNil)
theorem lq92 : loopsOf c92 = [c92_3] := by kernel_rfl
theorem fr92_3 : firstReg c92_3 = some 3 := by kernel_rfl
theorem le92_3 : L92 3 = enter Try.prog (0, 0) H92_3 (E92_3 fu) := by kernel_rfl
theorem lm92 : ∀ x ∈ [c92_3], ∀ id, firstReg x = some id → LoopOk Try.prog (0, 0) x (L92 id) := (loops_cons fr92_3 le92_3 (ok92_3 fu) loops_nil)
theorem lp92 : ∀ x ∈ loopsOf c92, ∀ id, firstReg x = some id → LoopOk Try.prog (0, 0) x (L92 id) := loops_eq lq92 lm92
noncomputable def R92 (x : (List (Int × Int × Int))) : Res := ⟨[.one (.sl 0)], [], [⟨158, (.pair (.int .i64) (.pair (.int .i64) (.int .i64))), x, .own⟩]⟩
noncomputable def K92 (r : Res) : Option ((List (Int × Int × Int))) :=
  match r with
  | ⟨[.one (.sl 0)], [], [⟨158, (.pair (.int .i64) (.pair (.int .i64) (.int .i64))), v1, .own⟩]⟩ => some (v1)
  | _ => none
noncomputable def E92 : Fun2 := fun args bs rs =>
  match args, bs, rs with
  | [.s1 (.one (.sl 0))], [], [⟨233, (.pair (.int .i64) (.pair (.int .i64) (.int .i64))), a1, .ro⟩] => some ⟨(List (Int × Int × Int)), L.toRecS a1, R92⟩
  | _, _, _ => none
theorem ev92 (a1 : List (Int × Int × Int)) : evF Try.prog G92 L92 (0, 0) [] Try.f92 c92 [vl 0] [] [⟨233, (.pair (.int .i64) (.pair (.int .i64) (.int .i64))), a1, .ro⟩] K92 = L.toRecS a1 := by kernel_rfl
theorem good92 : Vm.Good Try.prog 92 E92 := by
  refine evF_good (G := G92) (c := c92) (envCons_good good176 envNil_good) Try.func92 (by kernel_rfl) (by kernel_rfl) (0, 0) (fun args bs rs out t h h2 => ?_)
  unfold E92 at h
  split at h
  · injection h with h
    subst h
    exact ⟨rfl, [], L92, K92, lp92, (fun r t h => by unfold K92 at h; split at h; (injection h with h; subst h; rfl); cases h), (ev92 _).trans h2⟩
  · cases h
/-! ### L.toBox -/
noncomputable def G16 : Env := (envCons 91 [] E91 (envCons 92 [] E92 envNil))
noncomputable def c16 : Code := bodyOf Try.f16
noncomputable def L.toBox (a1 a2 a3 a4 : Int) (a5 : List (Int × Int × Int × Int × Int × Int × Int × Int × List Int × Bool)) (a6 : List (Int × Int × Int)) : Option (Int × Int × Int × Int × (List (Int × Int × Int × Int × Int × Int × Int × Int × List Int × Bool)) × (List (Int × Int × Int))) :=
(Option.bind (L.toItemS a5) fun r7 =>
(Option.bind (L.toRecS a6) fun r8 =>
(some (a1, a2, a3, a4, r7, r8))))
noncomputable def R16 (x : Int × Int × Int × Int × (List (Int × Int × Int × Int × Int × Int × Int × Int × List Int × Bool)) × (List (Int × Int × Int))) : Res := ⟨[.agg [ai x.1, ai x.2.1, ai x.2.2.1, ai x.2.2.2.1, .sl 0, .sl 1]], [], [⟨146, (.pair (.int .i64) (.pair (.int .i64) (.pair (.int .i64) (.pair (.int .i64) (.pair (.int .i64) (.pair (.int .i64) (.pair (.int .i64) (.pair (.int .i64) (.pair (.sl 3 (.int .i64)) .bool))))))))), x.2.2.2.2.1, .own⟩, ⟨158, (.pair (.int .i64) (.pair (.int .i64) (.int .i64))), x.2.2.2.2.2, .own⟩]⟩
noncomputable def K16 (r : Res) : Option (Int × Int × Int × Int × (List (Int × Int × Int × Int × Int × Int × Int × Int × List Int × Bool)) × (List (Int × Int × Int))) :=
  match r with
  | ⟨[.agg [.val (.int .i64 v1), .val (.int .i64 v2), .val (.int .i64 v3), .val (.int .i64 v4), .sl 0, .sl 1]], [], [⟨146, (.pair (.int .i64) (.pair (.int .i64) (.pair (.int .i64) (.pair (.int .i64) (.pair (.int .i64) (.pair (.int .i64) (.pair (.int .i64) (.pair (.int .i64) (.pair (.sl 3 (.int .i64)) .bool))))))))), v5, .own⟩, ⟨158, (.pair (.int .i64) (.pair (.int .i64) (.int .i64))), v6, .own⟩]⟩ => some (v1, v2, v3, v4, v5, v6)
  | _ => none
noncomputable def E16 : Fun2 := fun args bs rs =>
  match args, bs, rs with
  | [.s1 (.agg [.val (.int .i64 a1), .val (.int .i64 a2), .val (.int .i64 a3), .val (.int .i64 a4), .sl 0, .sl 1])], [], [⟨230, (.pair (.int .i64) (.pair (.int .i64) (.pair (.int .i64) (.pair (.int .i64) (.pair (.int .i64) (.pair (.int .i64) (.pair (.int .i64) (.pair (.int .i64) (.pair (.sl 3 (.int .i64)) .bool))))))))), a5, .ro⟩, ⟨233, (.pair (.int .i64) (.pair (.int .i64) (.int .i64))), a6, .ro⟩] => some ⟨Int × Int × Int × Int × (List (Int × Int × Int × Int × Int × Int × Int × Int × List Int × Bool)) × (List (Int × Int × Int)), L.toBox a1 a2 a3 a4 a5 a6, R16⟩
  | _, _, _ => none
theorem ev16 (a1 a2 a3 a4 : Int) (a5 : List (Int × Int × Int × Int × Int × Int × Int × Int × List Int × Bool)) (a6 : List (Int × Int × Int)) : evF Try.prog G16 loopNil (0, 0) [] Try.f16 c16 [.s1 (.agg [ai a1, ai a2, ai a3, ai a4, .sl 0, .sl 1])] [] [⟨230, (.pair (.int .i64) (.pair (.int .i64) (.pair (.int .i64) (.pair (.int .i64) (.pair (.int .i64) (.pair (.int .i64) (.pair (.int .i64) (.pair (.int .i64) (.pair (.sl 3 (.int .i64)) .bool))))))))), a5, .ro⟩, ⟨233, (.pair (.int .i64) (.pair (.int .i64) (.int .i64))), a6, .ro⟩] K16 = L.toBox a1 a2 a3 a4 a5 a6 := by kernel_rfl
theorem good16 : Vm.Good Try.prog 16 E16 := by
  refine evF_good (G := G16) (c := c16) (envCons_good good91 (envCons_good good92 envNil_good)) Try.func16 (by kernel_rfl) (by kernel_rfl) (0, 0) (fun args bs rs out t h h2 => ?_)
  unfold E16 at h
  split at h
  · injection h with h
    subst h
    exact ⟨rfl, [], loopNil, K16, (by intro x hx; simp [show loopsOf c16 = [] from by kernel_rfl] at hx), (fun r t h => by unfold K16 at h; split at h; (injection h with h; subst h; rfl); cases h), (ev16 _ _ _ _ _ _).trans h2⟩
  · cases h
/-! ### S.l10Cap -/
noncomputable def G173 : Env := envNil
noncomputable def c173 : Code := bodyOf Try.f173
noncomputable def S.l10Cap (a1 : Int) : Option Bool :=
(bif (decide (1 ≤ a1)) then
(some (decide (a1 ≤ 50)))
else
(some false))
noncomputable def R173 (x : Bool) : Res := ⟨[.one (ab x)], [], []⟩
noncomputable def K173 (r : Res) : Option Bool :=
  match r with
  | ⟨[.one (.val (.bool v1))], [], []⟩ => some (v1)
  | _ => none
noncomputable def E173 : Fun2 := fun args bs rs =>
  match args, bs, rs with
  | [.s1 (.one (.val (.int .i64 a1)))], [], [] => some ⟨Bool, S.l10Cap a1, R173⟩
  | _, _, _ => none
theorem ev173 (a1 : Int) : evF Try.prog G173 loopNil (0, 0) [] Try.f173 c173 [vi a1] [] [] K173 = S.l10Cap a1 := by kernel_rfl
theorem good173 : Vm.Good Try.prog 173 E173 := by
  refine evF_good (G := G173) (c := c173) envNil_good Try.func173 (by kernel_rfl) (by kernel_rfl) (0, 0) (fun args bs rs out t h h2 => ?_)
  unfold E173 at h
  split at h
  · injection h with h
    subst h
    exact ⟨rfl, [], loopNil, K173, (by intro x hx; simp [show loopsOf c173 = [] from by kernel_rfl] at hx), (fun r t h => by unfold K173 at h; split at h; (injection h with h; subst h; rfl); cases h), (ev173 _).trans h2⟩
  · cases h
/-! ### S.l10Count -/
noncomputable def G174 : Env := envNil
noncomputable def c174 : Code := bodyOf Try.f174
noncomputable def S.l10Count (a1 : Int) : Option Bool :=
(bif (decide (0 ≤ a1)) then
(some (decide (a1 ≤ 1000000)))
else
(some false))
noncomputable def R174 (x : Bool) : Res := ⟨[.one (ab x)], [], []⟩
noncomputable def K174 (r : Res) : Option Bool :=
  match r with
  | ⟨[.one (.val (.bool v1))], [], []⟩ => some (v1)
  | _ => none
noncomputable def E174 : Fun2 := fun args bs rs =>
  match args, bs, rs with
  | [.s1 (.one (.val (.int .i64 a1)))], [], [] => some ⟨Bool, S.l10Count a1, R174⟩
  | _, _, _ => none
theorem ev174 (a1 : Int) : evF Try.prog G174 loopNil (0, 0) [] Try.f174 c174 [vi a1] [] [] K174 = S.l10Count a1 := by kernel_rfl
theorem good174 : Vm.Good Try.prog 174 E174 := by
  refine evF_good (G := G174) (c := c174) envNil_good Try.func174 (by kernel_rfl) (by kernel_rfl) (0, 0) (fun args bs rs out t h h2 => ?_)
  unfold E174 at h
  split at h
  · injection h with h
    subst h
    exact ⟨rfl, [], loopNil, K174, (by intro x hx; simp [show loopsOf c174 = [] from by kernel_rfl] at hx), (fun r t h => by unfold K174 at h; split at h; (injection h with h; subst h; rfl); cases h), (ev174 _).trans h2⟩
  · cases h
/-! ### S.l10Rule -/
noncomputable def G116 : Env := envNil
noncomputable def c116 : Code := bodyOf Try.f116
noncomputable def S.l10Rule (a1 : Int) : Option Bool :=
(bif (decide ((-1) ≤ a1)) then
(some (decide (a1 ≤ 15)))
else
(some false))
noncomputable def R116 (x : Bool) : Res := ⟨[.one (ab x)], [], []⟩
noncomputable def K116 (r : Res) : Option Bool :=
  match r with
  | ⟨[.one (.val (.bool v1))], [], []⟩ => some (v1)
  | _ => none
noncomputable def E116 : Fun2 := fun args bs rs =>
  match args, bs, rs with
  | [.s1 (.one (.val (.int .i64 a1)))], [], [] => some ⟨Bool, S.l10Rule a1, R116⟩
  | _, _, _ => none
theorem ev116 (a1 : Int) : evF Try.prog G116 loopNil (0, 0) [] Try.f116 c116 [vi a1] [] [] K116 = S.l10Rule a1 := by kernel_rfl
theorem good116 : Vm.Good Try.prog 116 E116 := by
  refine evF_good (G := G116) (c := c116) envNil_good Try.func116 (by kernel_rfl) (by kernel_rfl) (0, 0) (fun args bs rs out t h h2 => ?_)
  unfold E116 at h
  split at h
  · injection h with h
    subst h
    exact ⟨rfl, [], loopNil, K116, (by intro x hx; simp [show loopsOf c116 = [] from by kernel_rfl] at hx), (fun r t h => by unfold K116 at h; split at h; (injection h with h; subst h; rfl); cases h), (ev116 _).trans h2⟩
  · cases h
/-! ### S.l04Key -/
noncomputable def G188 : Env := envNil
noncomputable def c188 : Code := bodyOf Try.f188
noncomputable def S.l04Key (a1 : Int) : Option Bool :=
(bif (decide (0 ≤ a1)) then
(some (decide (a1 ≤ 15)))
else
(some false))
noncomputable def R188 (x : Bool) : Res := ⟨[.one (ab x)], [], []⟩
noncomputable def K188 (r : Res) : Option Bool :=
  match r with
  | ⟨[.one (.val (.bool v1))], [], []⟩ => some (v1)
  | _ => none
noncomputable def E188 : Fun2 := fun args bs rs =>
  match args, bs, rs with
  | [.s1 (.one (.val (.int .i64 a1)))], [], [] => some ⟨Bool, S.l04Key a1, R188⟩
  | _, _, _ => none
theorem ev188 (a1 : Int) : evF Try.prog G188 loopNil (0, 0) [] Try.f188 c188 [vi a1] [] [] K188 = S.l04Key a1 := by kernel_rfl
theorem good188 : Vm.Good Try.prog 188 E188 := by
  refine evF_good (G := G188) (c := c188) envNil_good Try.func188 (by kernel_rfl) (by kernel_rfl) (0, 0) (fun args bs rs out t h h2 => ?_)
  unfold E188 at h
  split at h
  · injection h with h
    subst h
    exact ⟨rfl, [], loopNil, K188, (by intro x hx; simp [show loopsOf c188 = [] from by kernel_rfl] at hx), (fun r t h => by unfold K188 at h; split at h; (injection h with h; subst h; rfl); cases h), (ev188 _).trans h2⟩
  · cases h
/-! ### S.l06Win -/
noncomputable def G189 : Env := envNil
noncomputable def c189 : Code := bodyOf Try.f189
noncomputable def S.l06Win (a1 a2 : Int) : Option Bool :=
(bif (decide (0 ≤ a1)) then
(bif (decide (a1 < a2)) then
(some (decide (a2 ≤ 1100)))
else
(some false))
else
(some false))
noncomputable def R189 (x : Bool) : Res := ⟨[.one (ab x)], [], []⟩
noncomputable def K189 (r : Res) : Option Bool :=
  match r with
  | ⟨[.one (.val (.bool v1))], [], []⟩ => some (v1)
  | _ => none
noncomputable def E189 : Fun2 := fun args bs rs =>
  match args, bs, rs with
  | [.s1 (.agg [.val (.int .i64 a1), .val (.int .i64 a2)])], [], [] => some ⟨Bool, S.l06Win a1 a2, R189⟩
  | _, _, _ => none
theorem ev189 (a1 a2 : Int) : evF Try.prog G189 loopNil (0, 0) [] Try.f189 c189 [.s1 (.agg [ai a1, ai a2])] [] [] K189 = S.l06Win a1 a2 := by kernel_rfl
theorem good189 : Vm.Good Try.prog 189 E189 := by
  refine evF_good (G := G189) (c := c189) envNil_good Try.func189 (by kernel_rfl) (by kernel_rfl) (0, 0) (fun args bs rs out t h h2 => ?_)
  unfold E189 at h
  split at h
  · injection h with h
    subst h
    exact ⟨rfl, [], loopNil, K189, (by intro x hx; simp [show loopsOf c189 = [] from by kernel_rfl] at hx), (fun r t h => by unfold K189 at h; split at h; (injection h with h; subst h; rfl); cases h), (ev189 _ _).trans h2⟩
  · cases h
/-! ### S.PaneOk -/
noncomputable def G115 : Env := (envCons 188 [] E188 (envCons 189 [] E189 envNil))
noncomputable def c115 : Code := bodyOf Try.f115
noncomputable def S.PaneOk (a1 a2 a3 a4 a5 a6 : Int) (a7 : Bool) (a8 : List Int) : Option Bool :=
(bif (decide (a1 < 0)) then
(some false)
else
(bif (decide (4 ≤ a1)) then
(some false)
else
(Option.bind (S.l04Key a2) fun r11 =>
(bif (!r11) then
(some false)
else
(Option.bind (S.l06Win a3 a4) fun r12 =>
(bif (!r12) then
(some false)
else
(bif (decide (a5 < 0)) then
(some false)
else
(bif (decide (16 ≤ a5)) then
(some false)
else
(bif (decide (a6 < 1)) then
(some false)
else
(bif (decide (1000000 < a6)) then
(some false)
else
(bif (decide (4 < (a8.length : Int))) then
(some false)
else
(some (((a8.length : Int) == 0) == a7)))))))))))))
noncomputable def R115 (x : Bool) : Res := ⟨[.one (ab x)], [], []⟩
noncomputable def K115 (r : Res) : Option Bool :=
  match r with
  | ⟨[.one (.val (.bool v1))], [], []⟩ => some (v1)
  | _ => none
noncomputable def E115 : Fun2 := fun args bs rs =>
  match args, bs, rs with
  | [.s1 (.agg [.val (.int .i64 a1), .val (.int .i64 a2), .val (.int .i64 a3), .val (.int .i64 a4), .val (.int .i64 a5), .val (.int .i64 a6), .sl 0, .val (.bool a7)])], [], [⟨3, (.int .i64), a8, .ro⟩] => some ⟨Bool, S.PaneOk a1 a2 a3 a4 a5 a6 a7 a8, R115⟩
  | _, _, _ => none
theorem ev115 (a1 a2 a3 a4 a5 a6 : Int) (a7 : Bool) (a8 : List Int) : evF Try.prog G115 loopNil (0, 0) [] Try.f115 c115 [.s1 (.agg [ai a1, ai a2, ai a3, ai a4, ai a5, ai a6, .sl 0, ab a7])] [] [⟨3, (.int .i64), a8, .ro⟩] K115 = S.PaneOk a1 a2 a3 a4 a5 a6 a7 a8 := by kernel_rfl
theorem good115 : Vm.Good Try.prog 115 E115 := by
  refine evF_good (G := G115) (c := c115) (envCons_good good188 (envCons_good good189 envNil_good)) Try.func115 (by kernel_rfl) (by kernel_rfl) (0, 0) (fun args bs rs out t h h2 => ?_)
  unfold E115 at h
  split at h
  · injection h with h
    subst h
    exact ⟨rfl, [], loopNil, K115, (by intro x hx; simp [show loopsOf c115 = [] from by kernel_rfl] at hx), (fun r t h => by unfold K115 at h; split at h; (injection h with h; subst h; rfl); cases h), (ev115 _ _ _ _ _ _ _ _).trans h2⟩
  · cases h
/-! ### S.BoxOk -/
noncomputable def G89 : Env := (envCons 173 [] E173 (envCons 174 [] E174 (envCons 116 [] E116 (envCons 115 [] E115 envNil))))
noncomputable def c89 : Code := bodyOf Try.f89
noncomputable def c89_4 : Code := (loopsOf c89).getD 0 .skip
noncomputable def c89_9 : Code := (loopsOf c89).getD 1 .skip
noncomputable def c89_15 : Code := (loopsOf c89_9).getD 0 .skip
noncomputable def S.BoxOk_l0 : Nat → (Bool → Int → Int → Int → Int → (List (Int × Int × Int × Int × Int × Int × Int × Int × List Int × Bool)) → (List (Int × Int × Int)) → Option Bool) → (Int → Int → Int → Int → (List (Int × Int × Int × Int × Int × Int × Int × Int × List Int × Bool)) → (List (Int × Int × Int)) → Option Bool) → Int → Int → Int → Int → Int → (List (Int × Int × Int × Int × Int × Int × Int × Int × List Int × Bool)) → (List (Int × Int × Int)) → Option Bool
  | 0, _, _, _, _, _, _, _, _, _ => none
  | m + 1, e4_0, e4_1, a15, a16, a17, a18, a19, a20, a21 =>
    (bif (decide (a15 < (a20.length : Int))) then
    (bif decide ((0 : Int) ≤ a15 ∧ a15 < (a20.length : Int)) then
    (let v27 : Bool := ((nthI a20 a15 ((0 : Int), ((0 : Int), ((0 : Int), ((0 : Int), ((0 : Int), ((0 : Int), ((0 : Int), ((0 : Int), ([], false)))))))))).1 != (IntKind.wrap .i64 ((IntKind.wrap .i64 (a18 - (a20.length : Int))) + a15)))
    (bif v27 then
    (e4_0 false a16 a17 a18 a19 a20 a21)
    else
    (bif decide ((0 : Int) ≤ a15 ∧ a15 < (a20.length : Int)) then
    (let v28 : Bool := (decide ((nthI a20 a15 ((0 : Int), ((0 : Int), ((0 : Int), ((0 : Int), ((0 : Int), ((0 : Int), ((0 : Int), ((0 : Int), ([], false)))))))))).1 < 0))
    (bif v28 then
    (e4_0 false a16 a17 a18 a19 a20 a21)
    else
    (bif decide ((0 : Int) ≤ a15 ∧ a15 < (a20.length : Int)) then
    (Option.bind (S.l10Rule ((nthI a20 a15 ((0 : Int), ((0 : Int), ((0 : Int), ((0 : Int), ((0 : Int), ((0 : Int), ((0 : Int), ((0 : Int), ([], false)))))))))).2.1)) fun r29 =>
    (bif (!r29) then
    (e4_0 false a16 a17 a18 a19 a20 a21)
    else
    (bif decide ((0 : Int) ≤ a15 ∧ a15 < (a20.length : Int)) then
    (Option.bind (S.PaneOk ((nthI a20 a15 ((0 : Int), ((0 : Int), ((0 : Int), ((0 : Int), ((0 : Int), ((0 : Int), ((0 : Int), ((0 : Int), ([], false)))))))))).2.2.1) ((nthI a20 a15 ((0 : Int), ((0 : Int), ((0 : Int), ((0 : Int), ((0 : Int), ((0 : Int), ((0 : Int), ((0 : Int), ([], false)))))))))).2.2.2.1) ((nthI a20 a15 ((0 : Int), ((0 : Int), ((0 : Int), ((0 : Int), ((0 : Int), ((0 : Int), ((0 : Int), ((0 : Int), ([], false)))))))))).2.2.2.2.1) ((nthI a20 a15 ((0 : Int), ((0 : Int), ((0 : Int), ((0 : Int), ((0 : Int), ((0 : Int), ((0 : Int), ((0 : Int), ([], false)))))))))).2.2.2.2.2.1) ((nthI a20 a15 ((0 : Int), ((0 : Int), ((0 : Int), ((0 : Int), ((0 : Int), ((0 : Int), ((0 : Int), ((0 : Int), ([], false)))))))))).2.2.2.2.2.2.1) ((nthI a20 a15 ((0 : Int), ((0 : Int), ((0 : Int), ((0 : Int), ((0 : Int), ((0 : Int), ((0 : Int), ((0 : Int), ([], false)))))))))).2.2.2.2.2.2.2.1) ((nthI a20 a15 ((0 : Int), ((0 : Int), ((0 : Int), ((0 : Int), ((0 : Int), ((0 : Int), ((0 : Int), ((0 : Int), ([], false)))))))))).2.2.2.2.2.2.2.2.2) ((nthI a20 a15 ((0 : Int), ((0 : Int), ((0 : Int), ((0 : Int), ((0 : Int), ((0 : Int), ((0 : Int), ((0 : Int), ([], false)))))))))).2.2.2.2.2.2.2.2.1)) fun r30 =>
    (bif (!r30) then
    (e4_0 false a16 a17 a18 a19 a20 a21)
    else
    (S.BoxOk_l0 m e4_0 e4_1 (IntKind.wrap .i64 (a15 + 1)) a16 a17 a18 a19 a20 a21)))
    else
    none)))
    else
    none)))
    else
    none)))
    else
    none)
    else
    (e4_1 a16 a17 a18 a19 a20 a21))
noncomputable def S.BoxOk_l2 : Nat → (Bool → Int → Int → Int → Int → Int → (List (Int × Int × Int × Int × Int × Int × Int × Int × List Int × Bool)) → (List (Int × Int × Int)) → Option Bool) → (Int → Int → Int → Int → Int → (List (Int × Int × Int × Int × Int × Int × Int × Int × List Int × Bool)) → (List (Int × Int × Int)) → Option Bool) → Int → Int → Int → Int → Int → Int → Int → Int → Int → (List (Int × Int × Int × Int × Int × Int × Int × Int × List Int × Bool)) → (List (Int × Int × Int)) → Option Bool
  | 0, _, _, _, _, _, _, _, _, _, _, _, _, _ => none
  | m + 1, e15_0, e15_1, a62, a63, a64, a65, a66, a67, a68, a69, a70, a71, a72 =>
    (bif (decide (a63 < (a71.length : Int))) then
    (bif decide ((0 : Int) ≤ a63 ∧ a63 < (a71.length : Int)) then
    (let v75 : Bool := ((nthI a71 a63 ((0 : Int), ((0 : Int), ((0 : Int), ((0 : Int), ((0 : Int), ((0 : Int), ((0 : Int), ((0 : Int), ([], false)))))))))).1 == a68)
    (bif v75 then
    (bif decide ((0 : Int) ≤ a63 ∧ a63 < (a71.length : Int)) then
    (let v76 : Bool := ((nthI a71 a63 ((0 : Int), ((0 : Int), ((0 : Int), ((0 : Int), ((0 : Int), ((0 : Int), ((0 : Int), ((0 : Int), ([], false)))))))))).2.1 != a69)
    (bif v76 then
    (e15_0 false a62 a64 a65 a66 a67 a71 a72)
    else
    (bif decide ((0 : Int) ≤ a63 ∧ a63 < (a71.length : Int)) then
    (let v77 : Bool := ((nthI a71 a63 ((0 : Int), ((0 : Int), ((0 : Int), ((0 : Int), ((0 : Int), ((0 : Int), ((0 : Int), ((0 : Int), ([], false)))))))))).2.2.2.2.2.2.1 != a70)
    (bif v77 then
    (e15_0 false a62 a64 a65 a66 a67 a71 a72)
    else
    (S.BoxOk_l2 m e15_0 e15_1 a62 (IntKind.wrap .i64 (a63 + 1)) a64 a65 a66 a67 a68 a69 a70 a71 a72)))
    else
    none)))
    else
    none)
    else
    (S.BoxOk_l2 m e15_0 e15_1 a62 (IntKind.wrap .i64 (a63 + 1)) a64 a65 a66 a67 a68 a69 a70 a71 a72)))
    else
    none)
    else
    (e15_1 a62 a64 a65 a66 a67 a71 a72))
noncomputable def S.BoxOk_l1 : Nat → (Bool → Option Bool) → (Option Bool) → Int → Int → Int → Int → Int → (List (Int × Int × Int × Int × Int × Int × Int × Int × List Int × Bool)) → (List (Int × Int × Int)) → Option Bool
  | 0, _, _, _, _, _, _, _, _, _ => none
  | m + 1, e9_0, e9_1, a45, a46, a47, a48, a49, a50, a51 =>
    (bif (decide (a45 < (a51.length : Int))) then
    (bif decide ((0 : Int) ≤ a45 ∧ a45 < (a51.length : Int)) then
    (let v57 : Bool := ((nthI a51 a45 ((0 : Int), ((0 : Int), (0 : Int)))).1 != (IntKind.wrap .i64 ((IntKind.wrap .i64 (a48 - (a51.length : Int))) + a45)))
    (bif v57 then
    (e9_0 false)
    else
    (let v58 : Bool := (decide ((nthI a51 a45 ((0 : Int), ((0 : Int), (0 : Int)))).1 < 0))
    (bif v58 then
    (e9_0 false)
    else
    (Option.bind (S.l10Rule ((nthI a51 a45 ((0 : Int), ((0 : Int), (0 : Int)))).2.1)) fun r59 =>
    (bif (!r59) then
    (e9_0 false)
    else
    (let v60 : Bool := (decide ((nthI a51 a45 ((0 : Int), ((0 : Int), (0 : Int)))).2.2 < 0))
    (bif v60 then
    (e9_0 false)
    else
    (let v61 : Bool := (decide (16 ≤ (nthI a51 a45 ((0 : Int), ((0 : Int), (0 : Int)))).2.2))
    (bif v61 then
    (e9_0 false)
    else
    (S.BoxOk_l2 fu (fun y80 y81 y82 y83 y84 y85 y86 y87 =>
    (e9_0 y80)) (fun y88 y89 y90 y91 y92 y93 y94 =>
    (S.BoxOk_l1 m e9_0 e9_1 (IntKind.wrap .i64 (y88 + 1)) y89 y90 y91 y92 y93 y94)) a45 0 a46 a47 a48 a49 ((nthI a51 a45 ((0 : Int), ((0 : Int), (0 : Int)))).1) ((nthI a51 a45 ((0 : Int), ((0 : Int), (0 : Int)))).2.1) ((nthI a51 a45 ((0 : Int), ((0 : Int), (0 : Int)))).2.2) a50 a51)))))))))))
    else
    none)
    else
    e9_1)
noncomputable def S.BoxOk (a1 a2 a3 a4 : Int) (a5 : List (Int × Int × Int × Int × Int × Int × Int × Int × List Int × Bool)) (a6 : List (Int × Int × Int)) : Option Bool :=
(Option.bind (S.l10Cap a1) fun r7 =>
(bif (!r7) then
(some false)
else
(Option.bind (S.l10Cap a2) fun r8 =>
(bif (!r8) then
(some false)
else
(Option.bind (S.l10Count a3) fun r9 =>
(bif (!r9) then
(some false)
else
(Option.bind (S.l10Count a4) fun r10 =>
(bif (!r10) then
(some false)
else
(bif (decide (a1 < (a5.length : Int))) then
(some false)
else
(bif (decide (a2 < (a6.length : Int))) then
(some false)
else
(S.BoxOk_l0 fu (fun y32 y33 y34 y35 y36 y37 y38 =>
(some y32)) (fun y39 y40 y41 y42 y43 y44 =>
(S.BoxOk_l1 fu (fun y96 =>
(some y96)) (some true) 0 y39 y40 y41 y42 y43 y44)) 0 a1 a2 a3 a4 a5 a6)))))))))))
noncomputable def H89_4 : LoopH := ⟨⟨((.one (.unk)) :: (.one (.ptr 0 0)) :: (.one (.unk)) :: hh :: (hu 175 [])), [(31, [.hole, .hole, .hole, .hole, .sl 0, .sl 1])], [(146, (.pair (.int .i64) (.pair (.int .i64) (.pair (.int .i64) (.pair (.int .i64) (.pair (.int .i64) (.pair (.int .i64) (.pair (.int .i64) (.pair (.int .i64) (.pair (.sl 3 (.int .i64)) .bool))))))))), .ro), (158, (.pair (.int .i64) (.pair (.int .i64) (.int .i64))), .ro)]⟩, [0, 2, 4, 5, 6, 7, 8, 9, 10, 11, 12, 13, 14, 15, 16, 17, 18, 19, 20, 21, 22, 23, 24, 25, 26, 27, 28, 29, 30, 31, 32, 33, 34, 35, 36, 37, 38, 39, 40, 41, 42, 43, 44, 45, 46, 47, 48, 49, 50, 51, 52, 53, 54, 55, 56, 57, 58, 59, 60, 61, 62, 63, 64, 65, 66, 67, 68, 69, 70, 71, 72, 73, 74, 75, 76, 77, 78, 79, 80, 81, 82, 83, 84, 85, 86, 87, 88, 89, 90, 91, 92, 93, 94, 95, 96, 97, 98, 99, 100, 101, 102, 103, 104, 105, 106, 107, 108, 109, 110, 111, 112, 113, 114, 115, 116, 117, 118, 119, 120, 121, 122, 123, 124, 125, 126, 127, 128, 129, 130, 131, 132, 133, 134, 135, 136, 137, 138, 139, 140, 141, 142, 143, 144, 145, 146, 147, 148, 149, 150, 151, 152, 153, 154, 155, 156, 157, 158, 159, 160, 161, 162, 163, 164, 165, 166, 167, 168, 169, 170, 171, 172, 173, 174, 175, 176, 177, 178], [], [0, 3, 4, 5, 6, 7, 8, 9, 10, 11, 12, 13, 14, 15, 16, 17, 18, 19, 20, 21, 22, 23, 24, 25, 26, 27, 28, 29, 30, 31, 32, 33, 34, 35, 36, 37, 38, 39, 40, 41, 42, 43, 44, 45, 46, 47, 48, 49, 50, 51, 52, 53, 54, 55, 56, 57, 58, 59, 60, 61, 62, 63, 64, 65, 66, 67, 68, 69, 70, 71, 72, 73, 74, 75, 76, 77, 78, 79, 80, 81, 82, 83, 84, 85, 86, 87, 88, 89, 90, 91, 92, 93, 94, 95, 96, 97, 98, 99, 100, 101, 102, 103, 104, 105, 106, 107, 108, 109, 110, 111, 112, 113, 114, 115, 116, 117, 118, 119, 120, 121, 122, 123, 124, 125, 126, 127, 128, 129, 130, 131, 132, 133, 134, 135, 136, 137, 138, 139, 140, 141, 142, 143, 144, 145, 146, 147, 148, 149, 150, 151, 152, 153, 154, 155, 156, 157, 158, 159, 160, 161, 162, 163, 164, 165, 166, 167, 168, 169, 170, 171, 172, 173, 174, 175, 176, 177, 178], []⟩
noncomputable def E89_4 (m : Nat) (ps : List Prm) (k : Kont Bool) : Option Bool :=
  match ps with
  | [.v (.int .i64 a15), .v (.int .i64 a16), .v (.int .i64 a17), .v (.int .i64 a18), .v (.int .i64 a19), .row (.pair (.int .i64) (.pair (.int .i64) (.pair (.int .i64) (.pair (.int .i64) (.pair (.int .i64) (.pair (.int .i64) (.pair (.int .i64) (.pair (.int .i64) (.pair (.sl 3 (.int .i64)) .bool))))))))) a20, .row (.pair (.int .i64) (.pair (.int .i64) (.int .i64))) a21] => S.BoxOk_l0 m (fun z126 z127 z128 z129 z130 z131 z132 => k .ret (⟨((.s1 (.one (.unk))) :: (vp 0 0) :: (vb z126) :: (vu 176 [])), [(31, [ai z127, ai z128, ai z129, ai z130, .sl 0, .sl 1])], [⟨146, (.pair (.int .i64) (.pair (.int .i64) (.pair (.int .i64) (.pair (.int .i64) (.pair (.int .i64) (.pair (.int .i64) (.pair (.int .i64) (.pair (.int .i64) (.pair (.sl 3 (.int .i64)) .bool))))))))), z131, .ro⟩, ⟨158, (.pair (.int .i64) (.pair (.int .i64) (.int .i64))), z132, .ro⟩]⟩ : St)) (fun z133 z134 z135 z136 z137 z138 => k (.exit 0) (⟨((.s1 (.one (.unk))) :: (vp 0 0) :: (vu 177 [])), [(31, [ai z133, ai z134, ai z135, ai z136, .sl 0, .sl 1])], [⟨146, (.pair (.int .i64) (.pair (.int .i64) (.pair (.int .i64) (.pair (.int .i64) (.pair (.int .i64) (.pair (.int .i64) (.pair (.int .i64) (.pair (.int .i64) (.pair (.sl 3 (.int .i64)) .bool))))))))), z137, .ro⟩, ⟨158, (.pair (.int .i64) (.pair (.int .i64) (.int .i64))), z138, .ro⟩]⟩ : St)) a15 a16 a17 a18 a19 a20 a21
  | _ => none
noncomputable def S89_4 (a15 a16 a17 a18 a19 : Int) (a20 : List (Int × Int × Int × Int × Int × Int × Int × Int × List Int × Bool)) (a21 : List (Int × Int × Int)) : St := (⟨((.s1 (.one (.unk))) :: (vp 0 0) :: (.s1 (.one (.unk))) :: (vi a15) :: (vu 175 [])), [(31, [ai a16, ai a17, ai a18, ai a19, .sl 0, .sl 1])], [⟨146, (.pair (.int .i64) (.pair (.int .i64) (.pair (.int .i64) (.pair (.int .i64) (.pair (.int .i64) (.pair (.int .i64) (.pair (.int .i64) (.pair (.int .i64) (.pair (.sl 3 (.int .i64)) .bool))))))))), a20, .ro⟩, ⟨158, (.pair (.int .i64) (.pair (.int .i64) (.int .i64))), a21, .ro⟩]⟩ : St)
theorem ev89_4 (m : Nat) (k : Kont Bool) (a15 a16 a17 a18 a19 : Int) (a20 : List (Int × Int × Int × Int × Int × Int × Int × Int × List Int × Bool)) (a21 : List (Int × Int × Int)) : evC Try.prog G89 loopNil c89_4 (S89_4 a15 a16 a17 a18 a19 a20 a21) (turn Try.prog (0, 0) H89_4 (E89_4 m) k) = E89_4 (m + 1) [.v (.int .i64 a15), .v (.int .i64 a16), .v (.int .i64 a17), .v (.int .i64 a18), .v (.int .i64 a19), .row (.pair (.int .i64) (.pair (.int .i64) (.pair (.int .i64) (.pair (.int .i64) (.pair (.int .i64) (.pair (.int .i64) (.pair (.int .i64) (.pair (.int .i64) (.pair (.sl 3 (.int .i64)) .bool))))))))) a20, .row (.pair (.int .i64) (.pair (.int .i64) (.int .i64))) a21] k := by kernel_rfl
theorem ok89_4 (m : Nat) : LoopOk Try.prog (0, 0) c89_4 (enter Try.prog (0, 0) H89_4 (E89_4 m)) := by
  refine loop_ok (G := G89) (L := loopNil) (envCons_good good173 (envCons_good good174 (envCons_good good116 (envCons_good good115 envNil_good)))) (by intro x hx; simp [show loopsOf c89_4 = [] from by kernel_rfl] at hx) (fun ps k => by unfold E89_4; split <;> rfl) (fun m ps k r h => ?_) m
  have h0 := h
  unfold E89_4 at h
  split at h
  · exact ⟨S89_4 _ _ _ _ _ _ _, by kernel_rfl, (ev89_4 m k _ _ _ _ _ _ _).trans h0⟩
  · cases h
noncomputable def H89_15 : LoopH := ⟨⟨((.one (.unk)) :: (.one (.ptr 0 0)) :: (hu 2 (hh :: (.one (.ptr 1 0)) :: hh :: (hu 172 [])))), [(31, [.hole, .hole, .hole, .hole, .sl 0, .sl 1]), (158, [.hole, .hole, .hole])], [(146, (.pair (.int .i64) (.pair (.int .i64) (.pair (.int .i64) (.pair (.int .i64) (.pair (.int .i64) (.pair (.int .i64) (.pair (.int .i64) (.pair (.int .i64) (.pair (.sl 3 (.int .i64)) .bool))))))))), .ro), (158, (.pair (.int .i64) (.pair (.int .i64) (.int .i64))), .ro)]⟩, [0, 2, 3, 7, 8, 9, 10, 11, 12, 13, 14, 15, 16, 17, 18, 19, 20, 21, 22, 23, 24, 25, 26, 27, 28, 29, 30, 31, 32, 33, 34, 35, 36, 37, 38, 39, 40, 41, 42, 43, 44, 45, 46, 47, 48, 49, 50, 51, 52, 53, 54, 55, 56, 57, 58, 59, 60, 61, 62, 63, 64, 65, 66, 67, 68, 69, 70, 71, 72, 73, 74, 75, 76, 77, 78, 79, 80, 81, 82, 83, 84, 85, 86, 87, 88, 89, 90, 91, 92, 93, 94, 95, 96, 97, 98, 99, 100, 101, 102, 103, 104, 105, 106, 107, 108, 109, 110, 111, 112, 113, 114, 115, 116, 117, 118, 119, 120, 121, 122, 123, 124, 125, 126, 127, 128, 129, 130, 131, 132, 133, 134, 135, 136, 137, 138, 139, 140, 141, 142, 143, 144, 145, 146, 147, 148, 149, 150, 151, 152, 153, 154, 155, 156, 157, 158, 159, 160, 161, 162, 163, 164, 165, 166, 167, 168, 169, 170, 171, 172, 173, 174, 175, 176, 177, 178], [], [0, 3, 5, 6, 7, 8, 9, 10, 11, 12, 13, 14, 15, 16, 17, 18, 19, 20, 21, 22, 23, 24, 25, 26, 27, 28, 29, 30, 31, 32, 33, 34, 35, 36, 37, 38, 39, 40, 41, 42, 43, 44, 45, 46, 47, 48, 49, 50, 51, 52, 53, 54, 55, 56, 57, 58, 59, 60, 61, 62, 63, 64, 65, 66, 67, 68, 69, 70, 71, 72, 73, 74, 75, 76, 77, 78, 79, 80, 81, 82, 83, 84, 85, 86, 87, 88, 89, 90, 91, 92, 93, 94, 95, 96, 97, 98, 99, 100, 101, 102, 103, 104, 105, 106, 107, 108, 109, 110, 111, 112, 113, 114, 115, 116, 117, 118, 119, 120, 121, 122, 123, 124, 125, 126, 127, 128, 129, 130, 131, 132, 133, 134, 135, 136, 137, 138, 139, 140, 141, 142, 143, 144, 145, 146, 147, 148, 149, 150, 151, 152, 153, 154, 155, 156, 157, 158, 159, 160, 161, 162, 163, 164, 165, 166, 167, 168, 169, 170, 171, 172, 173, 174, 175, 176, 177, 178], []⟩
noncomputable def E89_15 (m : Nat) (ps : List Prm) (k : Kont Bool) : Option Bool :=
  match ps with
  | [.v (.int .i64 a62), .v (.int .i64 a63), .v (.int .i64 a64), .v (.int .i64 a65), .v (.int .i64 a66), .v (.int .i64 a67), .v (.int .i64 a68), .v (.int .i64 a69), .v (.int .i64 a70), .row (.pair (.int .i64) (.pair (.int .i64) (.pair (.int .i64) (.pair (.int .i64) (.pair (.int .i64) (.pair (.int .i64) (.pair (.int .i64) (.pair (.int .i64) (.pair (.sl 3 (.int .i64)) .bool))))))))) a71, .row (.pair (.int .i64) (.pair (.int .i64) (.int .i64))) a72] => S.BoxOk_l2 m (fun z139 z140 z141 z142 z143 z144 z145 z146 => k .ret (⟨((.s1 (.one (.unk))) :: (vp 0 0) :: (vb z139) :: (.s1 (.one (.unk))) :: (vi z140) :: (vu 174 [])), [(31, [ai z141, ai z142, ai z143, ai z144, .sl 0, .sl 1])], [⟨146, (.pair (.int .i64) (.pair (.int .i64) (.pair (.int .i64) (.pair (.int .i64) (.pair (.int .i64) (.pair (.int .i64) (.pair (.int .i64) (.pair (.int .i64) (.pair (.sl 3 (.int .i64)) .bool))))))))), z145, .ro⟩, ⟨158, (.pair (.int .i64) (.pair (.int .i64) (.int .i64))), z146, .ro⟩]⟩ : St)) (fun z147 z148 z149 z150 z151 z152 z153 => k (.exit 4) (⟨((.s1 (.one (.unk))) :: (vp 0 0) :: (vu 2 ((vi z147) :: (vu 174 [])))), [(31, [ai z148, ai z149, ai z150, ai z151, .sl 0, .sl 1])], [⟨146, (.pair (.int .i64) (.pair (.int .i64) (.pair (.int .i64) (.pair (.int .i64) (.pair (.int .i64) (.pair (.int .i64) (.pair (.int .i64) (.pair (.int .i64) (.pair (.sl 3 (.int .i64)) .bool))))))))), z152, .ro⟩, ⟨158, (.pair (.int .i64) (.pair (.int .i64) (.int .i64))), z153, .ro⟩]⟩ : St)) a62 a63 a64 a65 a66 a67 a68 a69 a70 a71 a72
  | _ => none
noncomputable def S89_15 (a62 a63 a64 a65 a66 a67 a68 a69 a70 : Int) (a71 : List (Int × Int × Int × Int × Int × Int × Int × Int × List Int × Bool)) (a72 : List (Int × Int × Int)) : St := (⟨((.s1 (.one (.unk))) :: (vp 0 0) :: (vu 2 ((vi a62) :: (vp 1 0) :: (vi a63) :: (vu 172 [])))), [(31, [ai a64, ai a65, ai a66, ai a67, .sl 0, .sl 1]), (158, [ai a68, ai a69, ai a70])], [⟨146, (.pair (.int .i64) (.pair (.int .i64) (.pair (.int .i64) (.pair (.int .i64) (.pair (.int .i64) (.pair (.int .i64) (.pair (.int .i64) (.pair (.int .i64) (.pair (.sl 3 (.int .i64)) .bool))))))))), a71, .ro⟩, ⟨158, (.pair (.int .i64) (.pair (.int .i64) (.int .i64))), a72, .ro⟩]⟩ : St)
theorem ev89_15 (m : Nat) (k : Kont Bool) (a62 a63 a64 a65 a66 a67 a68 a69 a70 : Int) (a71 : List (Int × Int × Int × Int × Int × Int × Int × Int × List Int × Bool)) (a72 : List (Int × Int × Int)) : evC Try.prog G89 loopNil c89_15 (S89_15 a62 a63 a64 a65 a66 a67 a68 a69 a70 a71 a72) (turn Try.prog (0, 0) H89_15 (E89_15 m) k) = E89_15 (m + 1) [.v (.int .i64 a62), .v (.int .i64 a63), .v (.int .i64 a64), .v (.int .i64 a65), .v (.int .i64 a66), .v (.int .i64 a67), .v (.int .i64 a68), .v (.int .i64 a69), .v (.int .i64 a70), .row (.pair (.int .i64) (.pair (.int .i64) (.pair (.int .i64) (.pair (.int .i64) (.pair (.int .i64) (.pair (.int .i64) (.pair (.int .i64) (.pair (.int .i64) (.pair (.sl 3 (.int .i64)) .bool))))))))) a71, .row (.pair (.int .i64) (.pair (.int .i64) (.int .i64))) a72] k := by kernel_rfl
theorem ok89_15 (m : Nat) : LoopOk Try.prog (0, 0) c89_15 (enter Try.prog (0, 0) H89_15 (E89_15 m)) := by
  refine loop_ok (G := G89) (L := loopNil) (envCons_good good173 (envCons_good good174 (envCons_good good116 (envCons_good good115 envNil_good)))) (by intro x hx; simp [show loopsOf c89_15 = [] from by kernel_rfl] at hx) (fun ps k => by unfold E89_15; split <;> rfl) (fun m ps k r h => ?_) m
  have h0 := h
  unfold E89_15 at h
  split at h
  · exact ⟨S89_15 _ _ _ _ _ _ _ _ _ _ _, by kernel_rfl, (ev89_15 m k _ _ _ _ _ _ _ _ _ _ _).trans h0⟩
  · cases h
noncomputable def L89_9 : LEnv Bool := (loopCons 15 (enter Try.prog (0, 0) H89_15 (E89_15 fu)) loopNil)
theorem lq89_9 : loopsOf c89_9 = [c89_15] := by kernel_rfl
theorem fr89_15 : firstReg c89_15 = some 15 := by kernel_rfl
theorem le89_15 : L89_9 15 = enter Try.prog (0, 0) H89_15 (E89_15 fu) := by kernel_rfl
theorem lm89_9 : ∀ x ∈ [c89_15], ∀ id, firstReg x = some id → LoopOk Try.prog (0, 0) x (L89_9 id) := (loops_cons fr89_15 le89_15 (ok89_15 fu) loops_nil)
theorem lp89_9 : ∀ x ∈ loopsOf c89_9, ∀ id, firstReg x = some id → LoopOk Try.prog (0, 0) x (L89_9 id) := loops_eq lq89_9 lm89_9
noncomputable def H89_9 : LoopH := ⟨⟨((.one (.unk)) :: (.one (.ptr 0 0)) :: (hu 2 (hh :: (hu 174 [])))), [(31, [.hole, .hole, .hole, .hole, .sl 0, .sl 1])], [(146, (.pair (.int .i64) (.pair (.int .i64) (.pair (.int .i64) (.pair (.int .i64) (.pair (.int .i64) (.pair (.int .i64) (.pair (.int .i64) (.pair (.int .i64) (.pair (.sl 3 (.int .i64)) .bool))))))))), .ro), (158, (.pair (.int .i64) (.pair (.int .i64) (.int .i64))), .ro)]⟩, [0, 2, 3, 5, 6, 7, 8, 9, 10, 11, 12, 13, 14, 15, 16, 17, 18, 19, 20, 21, 22, 23, 24, 25, 26, 27, 28, 29, 30, 31, 32, 33, 34, 35, 36, 37, 38, 39, 40, 41, 42, 43, 44, 45, 46, 47, 48, 49, 50, 51, 52, 53, 54, 55, 56, 57, 58, 59, 60, 61, 62, 63, 64, 65, 66, 67, 68, 69, 70, 71, 72, 73, 74, 75, 76, 77, 78, 79, 80, 81, 82, 83, 84, 85, 86, 87, 88, 89, 90, 91, 92, 93, 94, 95, 96, 97, 98, 99, 100, 101, 102, 103, 104, 105, 106, 107, 108, 109, 110, 111, 112, 113, 114, 115, 116, 117, 118, 119, 120, 121, 122, 123, 124, 125, 126, 127, 128, 129, 130, 131, 132, 133, 134, 135, 136, 137, 138, 139, 140, 141, 142, 143, 144, 145, 146, 147, 148, 149, 150, 151, 152, 153, 154, 155, 156, 157, 158, 159, 160, 161, 162, 163, 164, 165, 166, 167, 168, 169, 170, 171, 172, 173, 174, 175, 176, 177, 178], [], [0, 1, 3, 4, 5, 6, 7, 8, 9, 10, 11, 12, 13, 14, 15, 16, 17, 18, 19, 20, 21, 22, 23, 24, 25, 26, 27, 28, 29, 30, 31, 32, 33, 34, 35, 36, 37, 38, 39, 40, 41, 42, 43, 44, 45, 46, 47, 48, 49, 50, 51, 52, 53, 54, 55, 56, 57, 58, 59, 60, 61, 62, 63, 64, 65, 66, 67, 68, 69, 70, 71, 72, 73, 74, 75, 76, 77, 78, 79, 80, 81, 82, 83, 84, 85, 86, 87, 88, 89, 90, 91, 92, 93, 94, 95, 96, 97, 98, 99, 100, 101, 102, 103, 104, 105, 106, 107, 108, 109, 110, 111, 112, 113, 114, 115, 116, 117, 118, 119, 120, 121, 122, 123, 124, 125, 126, 127, 128, 129, 130, 131, 132, 133, 134, 135, 136, 137, 138, 139, 140, 141, 142, 143, 144, 145, 146, 147, 148, 149, 150, 151, 152, 153, 154, 155, 156, 157, 158, 159, 160, 161, 162, 163, 164, 165, 166, 167, 168, 169, 170, 171, 172, 173, 174, 175, 176, 177, 178], []⟩
noncomputable def E89_9 (m : Nat) (ps : List Prm) (k : Kont Bool) : Option Bool :=
  match ps with
  | [.v (.int .i64 a45), .v (.int .i64 a46), .v (.int .i64 a47), .v (.int .i64 a48), .v (.int .i64 a49), .row (.pair (.int .i64) (.pair (.int .i64) (.pair (.int .i64) (.pair (.int .i64) (.pair (.int .i64) (.pair (.int .i64) (.pair (.int .i64) (.pair (.int .i64) (.pair (.sl 3 (.int .i64)) .bool))))))))) a50, .row (.pair (.int .i64) (.pair (.int .i64) (.int .i64))) a51] => S.BoxOk_l1 m (fun z154 => k .ret (⟨(vu 2 ((vb z154) :: (vu 176 []))), [], []⟩ : St)) (k (.exit 2) (⟨(vu 179 []), [], []⟩ : St)) a45 a46 a47 a48 a49 a50 a51
  | _ => none
noncomputable def S89_9 (a45 a46 a47 a48 a49 : Int) (a50 : List (Int × Int × Int × Int × Int × Int × Int × Int × List Int × Bool)) (a51 : List (Int × Int × Int)) : St := (⟨((.s1 (.one (.unk))) :: (vp 0 0) :: (vu 2 ((vi a45) :: (vu 174 [])))), [(31, [ai a46, ai a47, ai a48, ai a49, .sl 0, .sl 1])], [⟨146, (.pair (.int .i64) (.pair (.int .i64) (.pair (.int .i64) (.pair (.int .i64) (.pair (.int .i64) (.pair (.int .i64) (.pair (.int .i64) (.pair (.int .i64) (.pair (.sl 3 (.int .i64)) .bool))))))))), a50, .ro⟩, ⟨158, (.pair (.int .i64) (.pair (.int .i64) (.int .i64))), a51, .ro⟩]⟩ : St)
theorem ev89_9 (m : Nat) (k : Kont Bool) (a45 a46 a47 a48 a49 : Int) (a50 : List (Int × Int × Int × Int × Int × Int × Int × Int × List Int × Bool)) (a51 : List (Int × Int × Int)) : evC Try.prog G89 L89_9 c89_9 (S89_9 a45 a46 a47 a48 a49 a50 a51) (turn Try.prog (0, 0) H89_9 (E89_9 m) k) = E89_9 (m + 1) [.v (.int .i64 a45), .v (.int .i64 a46), .v (.int .i64 a47), .v (.int .i64 a48), .v (.int .i64 a49), .row (.pair (.int .i64) (.pair (.int .i64) (.pair (.int .i64) (.pair (.int .i64) (.pair (.int .i64) (.pair (.int .i64) (.pair (.int .i64) (.pair (.int .i64) (.pair (.sl 3 (.int .i64)) .bool))))))))) a50, .row (.pair (.int .i64) (.pair (.int .i64) (.int .i64))) a51] k := by kernel_rfl
theorem ok89_9 (m : Nat) : LoopOk Try.prog (0, 0) c89_9 (enter Try.prog (0, 0) H89_9 (E89_9 m)) := by
  refine loop_ok (G := G89) (L := L89_9) (envCons_good good173 (envCons_good good174 (envCons_good good116 (envCons_good good115 envNil_good)))) lp89_9 (fun ps k => by unfold E89_9; split <;> rfl) (fun m ps k r h => ?_) m
  have h0 := h
  unfold E89_9 at h
  split at h
  · exact ⟨S89_9 _ _ _ _ _ _ _, by kernel_rfl, (ev89_9 m k _ _ _ _ _ _ _).trans h0⟩
  · cases h
noncomputable def L89 : LEnv Bool := (loopCons 4 (enter Try.prog (0, 0) H89_4 (E89_4 fu)) (loopCons 9 (enter Try.prog (0, 0) H89_9 (E89_9 fu)) loopNil))
theorem lq89 : loopsOf c89 = [c89_4, c89_9] := by kernel_rfl
theorem fr89_4 : firstReg c89_4 = some 4 := by kernel_rfl
theorem le89_4 : L89 4 = enter Try.prog (0, 0) H89_4 (E89_4 fu) := by kernel_rfl
theorem fr89_9 : firstReg c89_9 = some 9 := by kernel_rfl
theorem le89_9 : L89 9 = enter Try.prog (0, 0) H89_9 (E89_9 fu) := by kernel_rfl
theorem lm89 : ∀ x ∈ [c89_4, c89_9], ∀ id, firstReg x = some id → LoopOk Try.prog (0, 0) x (L89 id) := (loops_cons fr89_4 le89_4 (ok89_4 fu) (loops_cons fr89_9 le89_9 (ok89_9 fu) loops_nil))
theorem lp89 : ∀ x ∈ loopsOf c89, ∀ id, firstReg x = some id → LoopOk Try.prog (0, 0) x (L89 id) := loops_eq lq89 lm89
noncomputable def R89 (x : Bool) : Res := ⟨[.one (ab x)], [], []⟩
noncomputable def K89 (r : Res) : Option Bool :=
  match r with
  | ⟨[.one (.val (.bool v1))], [], []⟩ => some (v1)
  | _ => none
noncomputable def E89 : Fun2 := fun args bs rs =>
  match args, bs, rs with
  | [.s1 (.agg [.val (.int .i64 a1), .val (.int .i64 a2), .val (.int .i64 a3), .val (.int .i64 a4), .sl 0, .sl 1])], [], [⟨146, (.pair (.int .i64) (.pair (.int .i64) (.pair (.int .i64) (.pair (.int .i64) (.pair (.int .i64) (.pair (.int .i64) (.pair (.int .i64) (.pair (.int .i64) (.pair (.sl 3 (.int .i64)) .bool))))))))), a5, .ro⟩, ⟨158, (.pair (.int .i64) (.pair (.int .i64) (.int .i64))), a6, .ro⟩] => some ⟨Bool, S.BoxOk a1 a2 a3 a4 a5 a6, R89⟩
  | _, _, _ => none
theorem ev89 (a1 a2 a3 a4 : Int) (a5 : List (Int × Int × Int × Int × Int × Int × Int × Int × List Int × Bool)) (a6 : List (Int × Int × Int)) : evF Try.prog G89 L89 (0, 0) [] Try.f89 c89 [.s1 (.agg [ai a1, ai a2, ai a3, ai a4, .sl 0, .sl 1])] [] [⟨146, (.pair (.int .i64) (.pair (.int .i64) (.pair (.int .i64) (.pair (.int .i64) (.pair (.int .i64) (.pair (.int .i64) (.pair (.int .i64) (.pair (.int .i64) (.pair (.sl 3 (.int .i64)) .bool))))))))), a5, .ro⟩, ⟨158, (.pair (.int .i64) (.pair (.int .i64) (.int .i64))), a6, .ro⟩] K89 = S.BoxOk a1 a2 a3 a4 a5 a6 := by kernel_rfl
theorem good89 : Vm.Good Try.prog 89 E89 := by
  refine evF_good (G := G89) (c := c89) (envCons_good good173 (envCons_good good174 (envCons_good good116 (envCons_good good115 envNil_good)))) Try.func89 (by kernel_rfl) (by kernel_rfl) (0, 0) (fun args bs rs out t h h2 => ?_)
  unfold E89 at h
  split at h
  · injection h with h
    subst h
    exact ⟨rfl, [], L89, K89, lp89, (fun r t h => by unfold K89 at h; split at h; (injection h with h; subst h; rfl); cases h), (ev89 _ _ _ _ _ _).trans h2⟩
  · cases h
/-! ### S.l08Copy -/
noncomputable def G117 : Env := envNil
noncomputable def c117 : Code := bodyOf Try.f117
noncomputable def S.l08Copy (a1 a2 a3 a4 a5 a6 : Int) (a7 : Bool) (a8 : List Int) : Option (Int × Int × Int × Int × Int × Int × Bool × List Int) :=
(bif decide ((([] : List (Int)).length + a8.length) * 8 ≤ 140737488355328) then
(some (a1, a2, a3, a4, a5, a6, a7, (([] : List (Int)) ++ a8)))
else
none)
noncomputable def R117 (x : Int × Int × Int × Int × Int × Int × Bool × List Int) : Res := ⟨[.agg [ai x.1, ai x.2.1, ai x.2.2.1, ai x.2.2.2.1, ai x.2.2.2.2.1, ai x.2.2.2.2.2.1, .sl 0, ab x.2.2.2.2.2.2.1]], [], [⟨3, (.int .i64), x.2.2.2.2.2.2.2, .own⟩]⟩
noncomputable def K117 (r : Res) : Option (Int × Int × Int × Int × Int × Int × Bool × List Int) :=
  match r with
  | ⟨[.agg [.val (.int .i64 v1), .val (.int .i64 v2), .val (.int .i64 v3), .val (.int .i64 v4), .val (.int .i64 v5), .val (.int .i64 v6), .sl 0, .val (.bool v7)]], [], [⟨3, (.int .i64), v8, .own⟩]⟩ => some (v1, v2, v3, v4, v5, v6, v7, v8)
  | _ => none
noncomputable def E117 : Fun2 := fun args bs rs =>
  match args, bs, rs with
  | [.s1 (.agg [.val (.int .i64 a1), .val (.int .i64 a2), .val (.int .i64 a3), .val (.int .i64 a4), .val (.int .i64 a5), .val (.int .i64 a6), .sl 0, .val (.bool a7)])], [], [⟨3, (.int .i64), a8, .ro⟩] => some ⟨Int × Int × Int × Int × Int × Int × Bool × List Int, S.l08Copy a1 a2 a3 a4 a5 a6 a7 a8, R117⟩
  | _, _, _ => none
theorem ev117 (a1 a2 a3 a4 a5 a6 : Int) (a7 : Bool) (a8 : List Int) : evF Try.prog G117 loopNil (0, 0) [] Try.f117 c117 [.s1 (.agg [ai a1, ai a2, ai a3, ai a4, ai a5, ai a6, .sl 0, ab a7])] [] [⟨3, (.int .i64), a8, .ro⟩] K117 = S.l08Copy a1 a2 a3 a4 a5 a6 a7 a8 := by kernel_rfl
theorem good117 : Vm.Good Try.prog 117 E117 := by
  refine evF_good (G := G117) (c := c117) envNil_good Try.func117 (by kernel_rfl) (by kernel_rfl) (0, 0) (fun args bs rs out t h h2 => ?_)
  unfold E117 at h
  split at h
  · injection h with h
    subst h
    exact ⟨rfl, [], loopNil, K117, (by intro x hx; simp [show loopsOf c117 = [] from by kernel_rfl] at hx), (fun r t h => by unfold K117 at h; split at h; (injection h with h; subst h; rfl); cases h), (ev117 _ _ _ _ _ _ _ _).trans h2⟩
  · cases h
/-! ### S.l10Items -/
noncomputable def G90 : Env := (envCons 117 [] E117 envNil)
noncomputable def c90 : Code := bodyOf Try.f90
noncomputable def c90_3 : Code := (loopsOf c90).getD 0 .skip
noncomputable def S.l10Items_l0 : Nat → ((List (Int × Int × Int × Int × Int × Int × Int × Int × List Int × Bool)) → Option ((List (Int × Int × Int × Int × Int × Int × Int × Int × List Int × Bool)))) → Int → (List (Int × Int × Int × Int × Int × Int × Int × Int × List Int × Bool)) → (List (Int × Int × Int × Int × Int × Int × Int × Int × List Int × Bool)) → Option ((List (Int × Int × Int × Int × Int × Int × Int × Int × List Int × Bool)))
  | 0, _, _, _, _ => none
  | m + 1, e3_0, a2, a3, a4 =>
    (bif (decide (a2 < (a3.length : Int))) then
    (bif decide ((0 : Int) ≤ a2 ∧ a2 < (a3.length : Int)) then
    (bif decide ((0 : Int) ≤ a2 ∧ a2 < (a3.length : Int)) then
    (bif decide ((0 : Int) ≤ a2 ∧ a2 < (a3.length : Int)) then
    (Option.bind (S.l08Copy ((nthI a3 a2 ((0 : Int), ((0 : Int), ((0 : Int), ((0 : Int), ((0 : Int), ((0 : Int), ((0 : Int), ((0 : Int), ([], false)))))))))).2.2.1) ((nthI a3 a2 ((0 : Int), ((0 : Int), ((0 : Int), ((0 : Int), ((0 : Int), ((0 : Int), ((0 : Int), ((0 : Int), ([], false)))))))))).2.2.2.1) ((nthI a3 a2 ((0 : Int), ((0 : Int), ((0 : Int), ((0 : Int), ((0 : Int), ((0 : Int), ((0 : Int), ((0 : Int), ([], false)))))))))).2.2.2.2.1) ((nthI a3 a2 ((0 : Int), ((0 : Int), ((0 : Int), ((0 : Int), ((0 : Int), ((0 : Int), ((0 : Int), ((0 : Int), ([], false)))))))))).2.2.2.2.2.1) ((nthI a3 a2 ((0 : Int), ((0 : Int), ((0 : Int), ((0 : Int), ((0 : Int), ((0 : Int), ((0 : Int), ((0 : Int), ([], false)))))))))).2.2.2.2.2.2.1) ((nthI a3 a2 ((0 : Int), ((0 : Int), ((0 : Int), ((0 : Int), ((0 : Int), ((0 : Int), ((0 : Int), ((0 : Int), ([], false)))))))))).2.2.2.2.2.2.2.1) ((nthI a3 a2 ((0 : Int), ((0 : Int), ((0 : Int), ((0 : Int), ((0 : Int), ((0 : Int), ((0 : Int), ((0 : Int), ([], false)))))))))).2.2.2.2.2.2.2.2.2) ((nthI a3 a2 ((0 : Int), ((0 : Int), ((0 : Int), ((0 : Int), ((0 : Int), ((0 : Int), ((0 : Int), ((0 : Int), ([], false)))))))))).2.2.2.2.2.2.2.2.1)) fun r7 =>
    (let v8 : List (Int × Int × Int × Int × Int × Int × Int × Int × List Int × Bool) := [((nthI a3 a2 ((0 : Int), ((0 : Int), ((0 : Int), ((0 : Int), ((0 : Int), ((0 : Int), ((0 : Int), ((0 : Int), ([], false)))))))))).1, ((nthI a3 a2 ((0 : Int), ((0 : Int), ((0 : Int), ((0 : Int), ((0 : Int), ((0 : Int), ((0 : Int), ((0 : Int), ([], false)))))))))).2.1, (r7.1, (r7.2.1, (r7.2.2.1, (r7.2.2.2.1, (r7.2.2.2.2.1, (r7.2.2.2.2.2.1, (r7.2.2.2.2.2.2.2, r7.2.2.2.2.2.2.1)))))))))]
    (bif decide ((a4.length + v8.length) * 96 ≤ 140737488355328) then
    (S.l10Items_l0 m e3_0 (IntKind.wrap .i64 (a2 + 1)) a3 (a4 ++ v8))
    else
    none)))
    else
    none)
    else
    none)
    else
    none)
    else
    (e3_0 a4))
noncomputable def S.l10Items (a1 : List (Int × Int × Int × Int × Int × Int × Int × Int × List Int × Bool)) : Option ((List (Int × Int × Int × Int × Int × Int × Int × Int × List Int × Bool))) :=
(S.l10Items_l0 fu (fun y10 =>
(some y10)) 0 a1 [])
noncomputable def H90_3 : LoopH := ⟨⟨((.one (.sl 0)) :: (hu 2 ((.one (.sl 1)) :: hh :: (hu 28 [])))), [], [(146, (.pair (.int .i64) (.pair (.int .i64) (.pair (.int .i64) (.pair (.int .i64) (.pair (.int .i64) (.pair (.int .i64) (.pair (.int .i64) (.pair (.int .i64) (.pair (.sl 3 (.int .i64)) .bool))))))))), .ro), (146, (.pair (.int .i64) (.pair (.int .i64) (.pair (.int .i64) (.pair (.int .i64) (.pair (.int .i64) (.pair (.int .i64) (.pair (.int .i64) (.pair (.int .i64) (.pair (.sl 3 (.int .i64)) .bool))))))))), .own)]⟩, [1, 2, 5, 6, 7, 8, 9, 10, 11, 12, 13, 14, 15, 16, 17, 18, 19, 20, 21, 22, 23, 24, 25, 26, 27, 28, 29, 30, 31, 32], [], [0, 1, 4, 5, 6, 7, 8, 9, 10, 11, 12, 13, 14, 15, 16, 17, 18, 19, 20, 21, 22, 23, 24, 25, 26, 27, 28, 29, 30, 31, 32], []⟩
noncomputable def E90_3 (m : Nat) (ps : List Prm) (k : Kont ((List (Int × Int × Int × Int × Int × Int × Int × Int × List Int × Bool)))) : Option ((List (Int × Int × Int × Int × Int × Int × Int × Int × List Int × Bool))) :=
  match ps with
  | [.v (.int .i64 a2), .row (.pair (.int .i64) (.pair (.int .i64) (.pair (.int .i64) (.pair (.int .i64) (.pair (.int .i64) (.pair (.int .i64) (.pair (.int .i64) (.pair (.int .i64) (.pair (.sl 3 (.int .i64)) .bool))))))))) a3, .row (.pair (.int .i64) (.pair (.int .i64) (.pair (.int .i64) (.pair (.int .i64) (.pair (.int .i64) (.pair (.int .i64) (.pair (.int .i64) (.pair (.int .i64) (.pair (.sl 3 (.int .i64)) .bool))))))))) a4] => S.l10Items_l0 m (fun z12 => k (.exit 0) (⟨(vu 3 ((vl 0) :: (vu 29 []))), [], [⟨146, (.pair (.int .i64) (.pair (.int .i64) (.pair (.int .i64) (.pair (.int .i64) (.pair (.int .i64) (.pair (.int .i64) (.pair (.int .i64) (.pair (.int .i64) (.pair (.sl 3 (.int .i64)) .bool))))))))), z12, .own⟩]⟩ : St)) a2 a3 a4
  | _ => none
noncomputable def S90_3 (a2 : Int) (a3 a4 : List (Int × Int × Int × Int × Int × Int × Int × Int × List Int × Bool)) : St := (⟨((vl 0) :: (vu 2 ((vl 1) :: (vi a2) :: (vu 28 [])))), [], [⟨146, (.pair (.int .i64) (.pair (.int .i64) (.pair (.int .i64) (.pair (.int .i64) (.pair (.int .i64) (.pair (.int .i64) (.pair (.int .i64) (.pair (.int .i64) (.pair (.sl 3 (.int .i64)) .bool))))))))), a3, .ro⟩, ⟨146, (.pair (.int .i64) (.pair (.int .i64) (.pair (.int .i64) (.pair (.int .i64) (.pair (.int .i64) (.pair (.int .i64) (.pair (.int .i64) (.pair (.int .i64) (.pair (.sl 3 (.int .i64)) .bool))))))))), a4, .own⟩]⟩ : St)
theorem ev90_3 (m : Nat) (k : Kont ((List (Int × Int × Int × Int × Int × Int × Int × Int × List Int × Bool)))) (a2 : Int) (a3 a4 : List (Int × Int × Int × Int × Int × Int × Int × Int × List Int × Bool)) : evC Try.prog G90 loopNil c90_3 (S90_3 a2 a3 a4) (turn Try.prog (0, 0) H90_3 (E90_3 m) k) = E90_3 (m + 1) [.v (.int .i64 a2), .row (.pair (.int .i64) (.pair (.int .i64) (.pair (.int .i64) (.pair (.int .i64) (.pair (.int .i64) (.pair (.int .i64) (.pair (.int .i64) (.pair (.int .i64) (.pair (.sl 3 (.int .i64)) .bool))))))))) a3, .row (.pair (.int .i64) (.pair (.int .i64) (.pair (.int .i64) (.pair (.int .i64) (.pair (.int .i64) (.pair (.int .i64) (.pair (.int .i64) (.pair (.int .i64) (.pair (.sl 3 (.int .i64)) .bool))))))))) a4] k := by kernel_rfl
theorem ok90_3 (m : Nat) : LoopOk Try.prog (0, 0) c90_3 (enter Try.prog (0, 0) H90_3 (E90_3 m)) := by
  refine loop_ok (G := G90) (L := loopNil) (envCons_good good117 envNil_good) (by intro x hx; simp [show loopsOf c90_3 = [] from by kernel_rfl] at hx) (fun ps k => by unfold E90_3; split <;> rfl) (fun m ps k r h => ?_) m
  have h0 := h
  unfold E90_3 at h
  split at h
  · exact ⟨S90_3 _ _ _, by kernel_rfl, (ev90_3 m k _ _ _).trans h0⟩
  · cases h
noncomputable def L90 : LEnv ((List (Int × Int × Int × Int × Int × Int × Int × Int × List Int × Bool))) := (loopCons 3 (enter Try.prog (0, 0) H90_3 (E90_3 fu)) loopNil)
theorem lq90 : loopsOf c90 = [c90_3] := by kernel_rfl
theorem fr90_3 : firstReg c90_3 = some 3 := by kernel_rfl
theorem le90_3 : L90 3 = enter Try.prog (0, 0) H90_3 (E90_3 fu) := by kernel_rfl
theorem lm90 : ∀ x ∈ [c90_3], ∀ id, firstReg x = some id → LoopOk Try.prog (0, 0) x (L90 id) := (loops_cons fr90_3 le90_3 (ok90_3 fu) loops_nil)
theorem lp90 : ∀ x ∈ loopsOf c90, ∀ id, firstReg x = some id → LoopOk Try.prog (0, 0) x (L90 id) := loops_eq lq90 lm90
noncomputable def R90 (x : (List (Int × Int × Int × Int × Int × Int × Int × Int × List Int × Bool))) : Res := ⟨[.one (.sl 0)], [], [⟨146, (.pair (.int .i64) (.pair (.int .i64) (.pair (.int .i64) (.pair (.int .i64) (.pair (.int .i64) (.pair (.int .i64) (.pair (.int .i64) (.pair (.int .i64) (.pair (.sl 3 (.int .i64)) .bool))))))))), x, .own⟩]⟩
noncomputable def K90 (r : Res) : Option ((List (Int × Int × Int × Int × Int × Int × Int × Int × List Int × Bool))) :=
  match r with
  | ⟨[.one (.sl 0)], [], [⟨146, (.pair (.int .i64) (.pair (.int .i64) (.pair (.int .i64) (.pair (.int .i64) (.pair (.int .i64) (.pair (.int .i64) (.pair (.int .i64) (.pair (.int .i64) (.pair (.sl 3 (.int .i64)) .bool))))))))), v1, .own⟩]⟩ => some (v1)
  | _ => none
noncomputable def E90 : Fun2 := fun args bs rs =>
  match args, bs, rs with
  | [.s1 (.one (.sl 0))], [], [⟨146, (.pair (.int .i64) (.pair (.int .i64) (.pair (.int .i64) (.pair (.int .i64) (.pair (.int .i64) (.pair (.int .i64) (.pair (.int .i64) (.pair (.int .i64) (.pair (.sl 3 (.int .i64)) .bool))))))))), a1, .ro⟩] => some ⟨(List (Int × Int × Int × Int × Int × Int × Int × Int × List Int × Bool)), S.l10Items a1, R90⟩
  | _, _, _ => none
theorem ev90 (a1 : List (Int × Int × Int × Int × Int × Int × Int × Int × List Int × Bool)) : evF Try.prog G90 L90 (0, 0) [] Try.f90 c90 [vl 0] [] [⟨146, (.pair (.int .i64) (.pair (.int .i64) (.pair (.int .i64) (.pair (.int .i64) (.pair (.int .i64) (.pair (.int .i64) (.pair (.int .i64) (.pair (.int .i64) (.pair (.sl 3 (.int .i64)) .bool))))))))), a1, .ro⟩] K90 = S.l10Items a1 := by kernel_rfl
theorem good90 : Vm.Good Try.prog 90 E90 := by
  refine evF_good (G := G90) (c := c90) (envCons_good good117 envNil_good) Try.func90 (by kernel_rfl) (by kernel_rfl) (0, 0) (fun args bs rs out t h h2 => ?_)
  unfold E90 at h
  split at h
  · injection h with h
    subst h
    exact ⟨rfl, [], L90, K90, lp90, (fun r t h => by unfold K90 at h; split at h; (injection h with h; subst h; rfl); cases h), (ev90 _).trans h2⟩
  · cases h
/-! ### S.l10Copy -/
noncomputable def G98 : Env := (envCons 90 [] E90 envNil)
noncomputable def c98 : Code := bodyOf Try.f98
noncomputable def S.l10Copy (a1 a2 a3 a4 : Int) (a5 : List (Int × Int × Int × Int × Int × Int × Int × Int × List Int × Bool)) (a6 : List (Int × Int × Int)) : Option (Int × Int × Int × Int × (List (Int × Int × Int × Int × Int × Int × Int × Int × List Int × Bool)) × (List (Int × Int × Int))) :=
(Option.bind (S.l10Items a5) fun r7 =>
(bif decide ((([] : List (Int × Int × Int)).length + a6.length) * 24 ≤ 140737488355328) then
(some (a1, a2, a3, a4, r7, (([] : List (Int × Int × Int)) ++ a6)))
else
none))
noncomputable def R98 (x : Int × Int × Int × Int × (List (Int × Int × Int × Int × Int × Int × Int × Int × List Int × Bool)) × (List (Int × Int × Int))) : Res := ⟨[.agg [ai x.1, ai x.2.1, ai x.2.2.1, ai x.2.2.2.1, .sl 0, .sl 1]], [], [⟨146, (.pair (.int .i64) (.pair (.int .i64) (.pair (.int .i64) (.pair (.int .i64) (.pair (.int .i64) (.pair (.int .i64) (.pair (.int .i64) (.pair (.int .i64) (.pair (.sl 3 (.int .i64)) .bool))))))))), x.2.2.2.2.1, .own⟩, ⟨158, (.pair (.int .i64) (.pair (.int .i64) (.int .i64))), x.2.2.2.2.2, .own⟩]⟩
noncomputable def K98 (r : Res) : Option (Int × Int × Int × Int × (List (Int × Int × Int × Int × Int × Int × Int × Int × List Int × Bool)) × (List (Int × Int × Int))) :=
  match r with
  | ⟨[.agg [.val (.int .i64 v1), .val (.int .i64 v2), .val (.int .i64 v3), .val (.int .i64 v4), .sl 0, .sl 1]], [], [⟨146, (.pair (.int .i64) (.pair (.int .i64) (.pair (.int .i64) (.pair (.int .i64) (.pair (.int .i64) (.pair (.int .i64) (.pair (.int .i64) (.pair (.int .i64) (.pair (.sl 3 (.int .i64)) .bool))))))))), v5, .own⟩, ⟨158, (.pair (.int .i64) (.pair (.int .i64) (.int .i64))), v6, .own⟩]⟩ => some (v1, v2, v3, v4, v5, v6)
  | _ => none
noncomputable def E98 : Fun2 := fun args bs rs =>
  match args, bs, rs with
  | [.s1 (.agg [.val (.int .i64 a1), .val (.int .i64 a2), .val (.int .i64 a3), .val (.int .i64 a4), .sl 0, .sl 1])], [], [⟨146, (.pair (.int .i64) (.pair (.int .i64) (.pair (.int .i64) (.pair (.int .i64) (.pair (.int .i64) (.pair (.int .i64) (.pair (.int .i64) (.pair (.int .i64) (.pair (.sl 3 (.int .i64)) .bool))))))))), a5, .ro⟩, ⟨158, (.pair (.int .i64) (.pair (.int .i64) (.int .i64))), a6, .ro⟩] => some ⟨Int × Int × Int × Int × (List (Int × Int × Int × Int × Int × Int × Int × Int × List Int × Bool)) × (List (Int × Int × Int)), S.l10Copy a1 a2 a3 a4 a5 a6, R98⟩
  | _, _, _ => none
theorem ev98 (a1 a2 a3 a4 : Int) (a5 : List (Int × Int × Int × Int × Int × Int × Int × Int × List Int × Bool)) (a6 : List (Int × Int × Int)) : evF Try.prog G98 loopNil (0, 0) [] Try.f98 c98 [.s1 (.agg [ai a1, ai a2, ai a3, ai a4, .sl 0, .sl 1])] [] [⟨146, (.pair (.int .i64) (.pair (.int .i64) (.pair (.int .i64) (.pair (.int .i64) (.pair (.int .i64) (.pair (.int .i64) (.pair (.int .i64) (.pair (.int .i64) (.pair (.sl 3 (.int .i64)) .bool))))))))), a5, .ro⟩, ⟨158, (.pair (.int .i64) (.pair (.int .i64) (.int .i64))), a6, .ro⟩] K98 = S.l10Copy a1 a2 a3 a4 a5 a6 := by kernel_rfl
theorem good98 : Vm.Good Try.prog 98 E98 := by
  refine evF_good (G := G98) (c := c98) (envCons_good good90 envNil_good) Try.func98 (by kernel_rfl) (by kernel_rfl) (0, 0) (fun args bs rs out t h h2 => ?_)
  unfold E98 at h
  split at h
  · injection h with h
    subst h
    exact ⟨rfl, [], loopNil, K98, (by intro x hx; simp [show loopsOf c98 = [] from by kernel_rfl] at hx), (fun r t h => by unfold K98 at h; split at h; (injection h with h; subst h; rfl); cases h), (ev98 _ _ _ _ _ _).trans h2⟩
  · cases h
/-! ### S.BoxPut -/
noncomputable def G43 : Env := (envCons 89 [] E89 (envCons 115 [] E115 (envCons 116 [] E116 (envCons 98 [] E98 (envCons 117 [] E117 envNil)))))
noncomputable def c43 : Code := bodyOf Try.f43
noncomputable def S.BoxPut (a1 a2 a3 a4 a5 a6 a7 a8 a9 a10 : Int) (a11 : Bool) (a12 : Int) (a13 : List (Int × Int × Int × Int × Int × Int × Int × Int × List Int × Bool)) (a14 : List (Int × Int × Int)) (a15 : List Int) : Option (Int × Int × Int × Int × Bool × (List (Int × Int × Int × Int × Int × Int × Int × Int × List Int × Bool)) × (List (Int × Int × Int))) :=
(Option.bind (S.BoxOk a1 a2 a3 a4 a13 a14) fun r16 =>
(bif (!r16) then
(some (0, 0, 0, 0, false, [], []))
else
(Option.bind (S.PaneOk a5 a6 a7 a8 a9 a10 a11 a15) fun r17 =>
(bif (!r17) then
(some (0, 0, 0, 0, false, [], []))
else
(Option.bind (S.l10Rule a12) fun r18 =>
(bif (!r18) then
(some (0, 0, 0, 0, false, [], []))
else
(Option.bind (S.l10Copy a1 a2 a3 a4 a13 a14) fun r19 =>
(bif ((a13.length : Int) == a1) then
(let v21 : Int := (IntKind.wrap .i64 (r19.2.2.2.1 + 1))
(bif (decide (1000000 < v21)) then
(some (0, 0, 0, 0, false, [], []))
else
(bif (decide (1000000 < r19.2.2.1)) then
(some (0, 0, 0, 0, false, [], []))
else
(some (r19.1, r19.2.1, r19.2.2.1, v21, true, r19.2.2.2.2.1, r19.2.2.2.2.2)))))
else
(bif ((a14.length : Int) == a2) then
(let v25 : Int := (IntKind.wrap .i64 (r19.2.2.2.1 + 1))
(bif (decide (1000000 < v25)) then
(some (0, 0, 0, 0, false, [], []))
else
(bif (decide (1000000 < r19.2.2.1)) then
(some (0, 0, 0, 0, false, [], []))
else
(some (r19.1, r19.2.1, r19.2.2.1, v25, true, r19.2.2.2.2.1, r19.2.2.2.2.2)))))
else
(Option.bind (S.l08Copy a5 a6 a7 a8 a9 a10 a11 a15) fun r28 =>
(let v29 : List (Int × Int × Int × Int × Int × Int × Int × Int × List Int × Bool) := [(a3, (a12, (r28.1, (r28.2.1, (r28.2.2.1, (r28.2.2.2.1, (r28.2.2.2.2.1, (r28.2.2.2.2.2.1, (r28.2.2.2.2.2.2.2, r28.2.2.2.2.2.2.1)))))))))]
(bif decide ((r19.2.2.2.2.1.length + v29.length) * 96 ≤ 140737488355328) then
(let v31 : List (Int × Int × Int) := [(a3, (a12, a9))]
(bif decide ((r19.2.2.2.2.2.length + v31.length) * 24 ≤ 140737488355328) then
(let v33 : Int := (IntKind.wrap .i64 (r19.2.2.1 + 1))
(bif (decide (1000000 < r19.2.2.2.1)) then
(some (0, 0, 0, 0, false, [], []))
else
(bif (decide (1000000 < v33)) then
(some (0, 0, 0, 0, false, [], []))
else
(some (r19.1, r19.2.1, v33, r19.2.2.2.1, true, (r19.2.2.2.2.1 ++ v29), (r19.2.2.2.2.2 ++ v31))))))
else
none))
else
none))))))))))))
noncomputable def R43 (x : Int × Int × Int × Int × Bool × (List (Int × Int × Int × Int × Int × Int × Int × Int × List Int × Bool)) × (List (Int × Int × Int))) : Res := ⟨[.agg [ai x.1, ai x.2.1, ai x.2.2.1, ai x.2.2.2.1, .sl 0, .sl 1], .one (ab x.2.2.2.2.1)], [], [⟨146, (.pair (.int .i64) (.pair (.int .i64) (.pair (.int .i64) (.pair (.int .i64) (.pair (.int .i64) (.pair (.int .i64) (.pair (.int .i64) (.pair (.int .i64) (.pair (.sl 3 (.int .i64)) .bool))))))))), x.2.2.2.2.2.1, .own⟩, ⟨158, (.pair (.int .i64) (.pair (.int .i64) (.int .i64))), x.2.2.2.2.2.2, .own⟩]⟩
noncomputable def K43 (r : Res) : Option (Int × Int × Int × Int × Bool × (List (Int × Int × Int × Int × Int × Int × Int × Int × List Int × Bool)) × (List (Int × Int × Int))) :=
  match r with
  | ⟨[.agg [.val (.int .i64 v1), .val (.int .i64 v2), .val (.int .i64 v3), .val (.int .i64 v4), .sl 0, .sl 1], .one (.val (.bool v5))], [], [⟨146, (.pair (.int .i64) (.pair (.int .i64) (.pair (.int .i64) (.pair (.int .i64) (.pair (.int .i64) (.pair (.int .i64) (.pair (.int .i64) (.pair (.int .i64) (.pair (.sl 3 (.int .i64)) .bool))))))))), v6, .own⟩, ⟨158, (.pair (.int .i64) (.pair (.int .i64) (.int .i64))), v7, .own⟩]⟩ => some (v1, v2, v3, v4, v5, v6, v7)
  | _ => none
noncomputable def E43 : Fun2 := fun args bs rs =>
  match args, bs, rs with
  | [.s1 (.agg [.val (.int .i64 a1), .val (.int .i64 a2), .val (.int .i64 a3), .val (.int .i64 a4), .sl 0, .sl 1]), .s1 (.agg [.val (.int .i64 a5), .val (.int .i64 a6), .val (.int .i64 a7), .val (.int .i64 a8), .val (.int .i64 a9), .val (.int .i64 a10), .sl 2, .val (.bool a11)]), .s1 (.one (.val (.int .i64 a12)))], [], [⟨146, (.pair (.int .i64) (.pair (.int .i64) (.pair (.int .i64) (.pair (.int .i64) (.pair (.int .i64) (.pair (.int .i64) (.pair (.int .i64) (.pair (.int .i64) (.pair (.sl 3 (.int .i64)) .bool))))))))), a13, .ro⟩, ⟨158, (.pair (.int .i64) (.pair (.int .i64) (.int .i64))), a14, .ro⟩, ⟨3, (.int .i64), a15, .ro⟩] => some ⟨Int × Int × Int × Int × Bool × (List (Int × Int × Int × Int × Int × Int × Int × Int × List Int × Bool)) × (List (Int × Int × Int)), S.BoxPut a1 a2 a3 a4 a5 a6 a7 a8 a9 a10 a11 a12 a13 a14 a15, R43⟩
  | _, _, _ => none
theorem ev43 (a1 a2 a3 a4 a5 a6 a7 a8 a9 a10 : Int) (a11 : Bool) (a12 : Int) (a13 : List (Int × Int × Int × Int × Int × Int × Int × Int × List Int × Bool)) (a14 : List (Int × Int × Int)) (a15 : List Int) : evF Try.prog G43 loopNil (0, 0) [] Try.f43 c43 [.s1 (.agg [ai a1, ai a2, ai a3, ai a4, .sl 0, .sl 1]), .s1 (.agg [ai a5, ai a6, ai a7, ai a8, ai a9, ai a10, .sl 2, ab a11]), vi a12] [] [⟨146, (.pair (.int .i64) (.pair (.int .i64) (.pair (.int .i64) (.pair (.int .i64) (.pair (.int .i64) (.pair (.int .i64) (.pair (.int .i64) (.pair (.int .i64) (.pair (.sl 3 (.int .i64)) .bool))))))))), a13, .ro⟩, ⟨158, (.pair (.int .i64) (.pair (.int .i64) (.int .i64))), a14, .ro⟩, ⟨3, (.int .i64), a15, .ro⟩] K43 = S.BoxPut a1 a2 a3 a4 a5 a6 a7 a8 a9 a10 a11 a12 a13 a14 a15 := by kernel_rfl
theorem good43 : Vm.Good Try.prog 43 E43 := by
  refine evF_good (G := G43) (c := c43) (envCons_good good89 (envCons_good good115 (envCons_good good116 (envCons_good good98 (envCons_good good117 envNil_good))))) Try.func43 (by kernel_rfl) (by kernel_rfl) (0, 0) (fun args bs rs out t h h2 => ?_)
  unfold E43 at h
  split at h
  · injection h with h
    subst h
    exact ⟨rfl, [], loopNil, K43, (by intro x hx; simp [show loopsOf c43 = [] from by kernel_rfl] at hx), (fun r t h => by unfold K43 at h; split at h; (injection h with h; subst h; rfl); cases h), (ev43 _ _ _ _ _ _ _ _ _ _ _ _ _ _ _).trans h2⟩
  · cases h
/-! ### I.in -/
noncomputable def G178 : Env := envNil
noncomputable def c178 : Code := bodyOf Try.f178
noncomputable def I.in (a1 a2 a3 : Int) : Option Bool :=
(bif (decide (a2 ≤ a1)) then
(some (decide (a1 ≤ a3)))
else
(some false))
noncomputable def R178 (x : Bool) : Res := ⟨[.one (ab x)], [], []⟩
noncomputable def K178 (r : Res) : Option Bool :=
  match r with
  | ⟨[.one (.val (.bool v1))], [], []⟩ => some (v1)
  | _ => none
noncomputable def E178 : Fun2 := fun args bs rs =>
  match args, bs, rs with
  | [.s1 (.one (.val (.int .i64 a1))), .s1 (.one (.val (.int .i64 a2))), .s1 (.one (.val (.int .i64 a3)))], [], [] => some ⟨Bool, I.in a1 a2 a3, R178⟩
  | _, _, _ => none
theorem ev178 (a1 a2 a3 : Int) : evF Try.prog G178 loopNil (0, 0) [] Try.f178 c178 [vi a1, vi a2, vi a3] [] [] K178 = I.in a1 a2 a3 := by kernel_rfl
theorem good178 : Vm.Good Try.prog 178 E178 := by
  refine evF_good (G := G178) (c := c178) envNil_good Try.func178 (by kernel_rfl) (by kernel_rfl) (0, 0) (fun args bs rs out t h h2 => ?_)
  unfold E178 at h
  split at h
  · injection h with h
    subst h
    exact ⟨rfl, [], loopNil, K178, (by intro x hx; simp [show loopsOf c178 = [] from by kernel_rfl] at hx), (fun r t h => by unfold K178 at h; split at h; (injection h with h; subst h; rfl); cases h), (ev178 _ _ _).trans h2⟩
  · cases h
/-! ### I.isCap -/
noncomputable def G177 : Env := (envCons 178 [] E178 envNil)
noncomputable def c177 : Code := bodyOf Try.f177
noncomputable def I.isCap (a1 : Int) : Option Bool :=
(Option.bind (I.in a1 1 50) fun r2 =>
(some r2))
noncomputable def R177 (x : Bool) : Res := ⟨[.one (ab x)], [], []⟩
noncomputable def K177 (r : Res) : Option Bool :=
  match r with
  | ⟨[.one (.val (.bool v1))], [], []⟩ => some (v1)
  | _ => none
noncomputable def E177 : Fun2 := fun args bs rs =>
  match args, bs, rs with
  | [.s1 (.one (.val (.int .i64 a1)))], [], [] => some ⟨Bool, I.isCap a1, R177⟩
  | _, _, _ => none
theorem ev177 (a1 : Int) : evF Try.prog G177 loopNil (0, 0) [] Try.f177 c177 [vi a1] [] [] K177 = I.isCap a1 := by kernel_rfl
theorem good177 : Vm.Good Try.prog 177 E177 := by
  refine evF_good (G := G177) (c := c177) (envCons_good good178 envNil_good) Try.func177 (by kernel_rfl) (by kernel_rfl) (0, 0) (fun args bs rs out t h h2 => ?_)
  unfold E177 at h
  split at h
  · injection h with h
    subst h
    exact ⟨rfl, [], loopNil, K177, (by intro x hx; simp [show loopsOf c177 = [] from by kernel_rfl] at hx), (fun r t h => by unfold K177 at h; split at h; (injection h with h; subst h; rfl); cases h), (ev177 _).trans h2⟩
  · cases h
/-! ### I.isRuleNumber -/
noncomputable def G132 : Env := (envCons 178 [] E178 envNil)
noncomputable def c132 : Code := bodyOf Try.f132
noncomputable def I.isRuleNumber (a1 : Int) : Option Bool :=
(Option.bind (I.in a1 (-1) 15) fun r2 =>
(some r2))
noncomputable def R132 (x : Bool) : Res := ⟨[.one (ab x)], [], []⟩
noncomputable def K132 (r : Res) : Option Bool :=
  match r with
  | ⟨[.one (.val (.bool v1))], [], []⟩ => some (v1)
  | _ => none
noncomputable def E132 : Fun2 := fun args bs rs =>
  match args, bs, rs with
  | [.s1 (.one (.val (.int .i64 a1)))], [], [] => some ⟨Bool, I.isRuleNumber a1, R132⟩
  | _, _, _ => none
theorem ev132 (a1 : Int) : evF Try.prog G132 loopNil (0, 0) [] Try.f132 c132 [vi a1] [] [] K132 = I.isRuleNumber a1 := by kernel_rfl
theorem good132 : Vm.Good Try.prog 132 E132 := by
  refine evF_good (G := G132) (c := c132) (envCons_good good178 envNil_good) Try.func132 (by kernel_rfl) (by kernel_rfl) (0, 0) (fun args bs rs out t h h2 => ?_)
  unfold E132 at h
  split at h
  · injection h with h
    subst h
    exact ⟨rfl, [], loopNil, K132, (by intro x hx; simp [show loopsOf c132 = [] from by kernel_rfl] at hx), (fun r t h => by unfold K132 at h; split at h; (injection h with h; subst h; rfl); cases h), (ev132 _).trans h2⟩
  · cases h
/-! ### I.isId -/
noncomputable def G198 : Env := (envCons 178 [] E178 envNil)
noncomputable def c198 : Code := bodyOf Try.f198
noncomputable def I.isId (a1 : Int) : Option Bool :=
(Option.bind (I.in a1 0 3) fun r2 =>
(some r2))
noncomputable def R198 (x : Bool) : Res := ⟨[.one (ab x)], [], []⟩
noncomputable def K198 (r : Res) : Option Bool :=
  match r with
  | ⟨[.one (.val (.bool v1))], [], []⟩ => some (v1)
  | _ => none
noncomputable def E198 : Fun2 := fun args bs rs =>
  match args, bs, rs with
  | [.s1 (.one (.val (.int .i64 a1)))], [], [] => some ⟨Bool, I.isId a1, R198⟩
  | _, _, _ => none
theorem ev198 (a1 : Int) : evF Try.prog G198 loopNil (0, 0) [] Try.f198 c198 [vi a1] [] [] K198 = I.isId a1 := by kernel_rfl
theorem good198 : Vm.Good Try.prog 198 E198 := by
  refine evF_good (G := G198) (c := c198) (envCons_good good178 envNil_good) Try.func198 (by kernel_rfl) (by kernel_rfl) (0, 0) (fun args bs rs out t h h2 => ?_)
  unfold E198 at h
  split at h
  · injection h with h
    subst h
    exact ⟨rfl, [], loopNil, K198, (by intro x hx; simp [show loopsOf c198 = [] from by kernel_rfl] at hx), (fun r t h => by unfold K198 at h; split at h; (injection h with h; subst h; rfl); cases h), (ev198 _).trans h2⟩
  · cases h
/-! ### I.isKey -/
noncomputable def G199 : Env := (envCons 178 [] E178 envNil)
noncomputable def c199 : Code := bodyOf Try.f199
noncomputable def I.isKey (a1 : Int) : Option Bool :=
(Option.bind (I.in a1 0 15) fun r2 =>
(some r2))
noncomputable def R199 (x : Bool) : Res := ⟨[.one (ab x)], [], []⟩
noncomputable def K199 (r : Res) : Option Bool :=
  match r with
  | ⟨[.one (.val (.bool v1))], [], []⟩ => some (v1)
  | _ => none
noncomputable def E199 : Fun2 := fun args bs rs =>
  match args, bs, rs with
  | [.s1 (.one (.val (.int .i64 a1)))], [], [] => some ⟨Bool, I.isKey a1, R199⟩
  | _, _, _ => none
theorem ev199 (a1 : Int) : evF Try.prog G199 loopNil (0, 0) [] Try.f199 c199 [vi a1] [] [] K199 = I.isKey a1 := by kernel_rfl
theorem good199 : Vm.Good Try.prog 199 E199 := by
  refine evF_good (G := G199) (c := c199) (envCons_good good178 envNil_good) Try.func199 (by kernel_rfl) (by kernel_rfl) (0, 0) (fun args bs rs out t h h2 => ?_)
  unfold E199 at h
  split at h
  · injection h with h
    subst h
    exact ⟨rfl, [], loopNil, K199, (by intro x hx; simp [show loopsOf c199 = [] from by kernel_rfl] at hx), (fun r t h => by unfold K199 at h; split at h; (injection h with h; subst h; rfl); cases h), (ev199 _).trans h2⟩
  · cases h
/-! ### I.isWin -/
noncomputable def G200 : Env := envNil
noncomputable def c200 : Code := bodyOf Try.f200
noncomputable def I.isWin (a1 a2 : Int) : Option Bool :=
(bif (decide (0 ≤ a1)) then
(bif (decide (a1 < a2)) then
(some (decide (a2 ≤ 1100)))
else
(some false))
else
(some false))
noncomputable def R200 (x : Bool) : Res := ⟨[.one (ab x)], [], []⟩
noncomputable def K200 (r : Res) : Option Bool :=
  match r with
  | ⟨[.one (.val (.bool v1))], [], []⟩ => some (v1)
  | _ => none
noncomputable def E200 : Fun2 := fun args bs rs =>
  match args, bs, rs with
  | [.s1 (.agg [.val (.int .i64 a1), .val (.int .i64 a2)])], [], [] => some ⟨Bool, I.isWin a1 a2, R200⟩
  | _, _, _ => none
theorem ev200 (a1 a2 : Int) : evF Try.prog G200 loopNil (0, 0) [] Try.f200 c200 [.s1 (.agg [ai a1, ai a2])] [] [] K200 = I.isWin a1 a2 := by kernel_rfl
theorem good200 : Vm.Good Try.prog 200 E200 := by
  refine evF_good (G := G200) (c := c200) envNil_good Try.func200 (by kernel_rfl) (by kernel_rfl) (0, 0) (fun args bs rs out t h h2 => ?_)
  unfold E200 at h
  split at h
  · injection h with h
    subst h
    exact ⟨rfl, [], loopNil, K200, (by intro x hx; simp [show loopsOf c200 = [] from by kernel_rfl] at hx), (fun r t h => by unfold K200 at h; split at h; (injection h with h; subst h; rfl); cases h), (ev200 _ _).trans h2⟩
  · cases h
/-! ### I.isPane -/
noncomputable def G131 : Env := (envCons 198 [] E198 (envCons 199 [] E199 (envCons 200 [] E200 (envCons 178 [] E178 envNil))))
noncomputable def c131 : Code := bodyOf Try.f131
noncomputable def I.isPane (a1 a2 a3 a4 a5 a6 : Int) (a7 : Bool) (a8 : List Int) : Option Bool :=
(Option.bind (I.isId a1) fun r9 =>
(bif r9 then
(Option.bind (I.isKey a2) fun r10 =>
(bif r10 then
(Option.bind (I.isWin a3 a4) fun r11 =>
(bif r11 then
(Option.bind (I.in a5 0 15) fun r12 =>
(bif r12 then
(Option.bind (I.in a6 1 1000000) fun r13 =>
(bif r13 then
(bif (decide ((a8.length : Int) ≤ 4)) then
(some (((a8.length : Int) == 0) == a7))
else
(some false))
else
(some false)))
else
(some false)))
else
(some false)))
else
(some false)))
else
(some false)))
noncomputable def R131 (x : Bool) : Res := ⟨[.one (ab x)], [], []⟩
noncomputable def K131 (r : Res) : Option Bool :=
  match r with
  | ⟨[.one (.val (.bool v1))], [], []⟩ => some (v1)
  | _ => none
noncomputable def E131 : Fun2 := fun args bs rs =>
  match args, bs, rs with
  | [.s1 (.agg [.val (.int .i64 a1), .val (.int .i64 a2), .val (.int .i64 a3), .val (.int .i64 a4), .val (.int .i64 a5), .val (.int .i64 a6), .sl 0, .val (.bool a7)])], [], [⟨3, (.int .i64), a8, .ro⟩] => some ⟨Bool, I.isPane a1 a2 a3 a4 a5 a6 a7 a8, R131⟩
  | _, _, _ => none
theorem ev131 (a1 a2 a3 a4 a5 a6 : Int) (a7 : Bool) (a8 : List Int) : evF Try.prog G131 loopNil (0, 0) [] Try.f131 c131 [.s1 (.agg [ai a1, ai a2, ai a3, ai a4, ai a5, ai a6, .sl 0, ab a7])] [] [⟨3, (.int .i64), a8, .ro⟩] K131 = I.isPane a1 a2 a3 a4 a5 a6 a7 a8 := by kernel_rfl
theorem good131 : Vm.Good Try.prog 131 E131 := by
  refine evF_good (G := G131) (c := c131) (envCons_good good198 (envCons_good good199 (envCons_good good200 (envCons_good good178 envNil_good)))) Try.func131 (by kernel_rfl) (by kernel_rfl) (0, 0) (fun args bs rs out t h h2 => ?_)
  unfold E131 at h
  split at h
  · injection h with h
    subst h
    exact ⟨rfl, [], loopNil, K131, (by intro x hx; simp [show loopsOf c131 = [] from by kernel_rfl] at hx), (fun r t h => by unfold K131 at h; split at h; (injection h with h; subst h; rfl); cases h), (ev131 _ _ _ _ _ _ _ _).trans h2⟩
  · cases h
/-! ### I.isBox -/
noncomputable def G93 : Env := (envCons 177 [] E177 (envCons 178 [] E178 (envCons 132 [] E132 (envCons 131 [] E131 envNil))))
noncomputable def c93 : Code := bodyOf Try.f93
noncomputable def c93_6 : Code := (loopsOf c93).getD 0 .skip
noncomputable def c93_12 : Code := (loopsOf c93).getD 1 .skip
noncomputable def c93_18 : Code := (loopsOf c93).getD 2 .skip
noncomputable def I.isBox_l0 : Nat → (Bool → Int → Int → Int → Int → (List (Int × Int × Int × Int × Int × Int × Int × Int × List Int × Bool)) → (List (Int × Int × Int)) → Option Bool) → (Int → Int → Int → Int → (List (Int × Int × Int × Int × Int × Int × Int × Int × List Int × Bool)) → (List (Int × Int × Int)) → Option Bool) → Int → Int → Int → Int → Int → Int → (List (Int × Int × Int × Int × Int × Int × Int × Int × List Int × Bool)) → (List (Int × Int × Int)) → Option Bool
  | 0, _, _, _, _, _, _, _, _, _, _ => none
  | m + 1, e6_0, e6_1, a20, a21, a22, a23, a24, a25, a26, a27 =>
    (bif (decide (a21 < a20)) then
    (bif decide ((0 : Int) ≤ a21 ∧ a21 < (a26.length : Int)) then
    (let v32 : Bool := ((nthI a26 a21 ((0 : Int), ((0 : Int), ((0 : Int), ((0 : Int), ((0 : Int), ((0 : Int), ((0 : Int), ((0 : Int), ([], false)))))))))).1 != (IntKind.wrap .i64 ((IntKind.wrap .i64 (a24 - (a26.length : Int))) + a21)))
    (bif v32 then
    (e6_0 false a22 a23 a24 a25 a26 a27)
    else
    (Option.bind (I.isRuleNumber ((nthI a26 a21 ((0 : Int), ((0 : Int), ((0 : Int), ((0 : Int), ((0 : Int), ((0 : Int), ((0 : Int), ((0 : Int), ([], false)))))))))).2.1)) fun r33 =>
    (bif (!r33) then
    (e6_0 false a22 a23 a24 a25 a26 a27)
    else
    (Option.bind (I.isPane ((nthI a26 a21 ((0 : Int), ((0 : Int), ((0 : Int), ((0 : Int), ((0 : Int), ((0 : Int), ((0 : Int), ((0 : Int), ([], false)))))))))).2.2.1) ((nthI a26 a21 ((0 : Int), ((0 : Int), ((0 : Int), ((0 : Int), ((0 : Int), ((0 : Int), ((0 : Int), ((0 : Int), ([], false)))))))))).2.2.2.1) ((nthI a26 a21 ((0 : Int), ((0 : Int), ((0 : Int), ((0 : Int), ((0 : Int), ((0 : Int), ((0 : Int), ((0 : Int), ([], false)))))))))).2.2.2.2.1) ((nthI a26 a21 ((0 : Int), ((0 : Int), ((0 : Int), ((0 : Int), ((0 : Int), ((0 : Int), ((0 : Int), ((0 : Int), ([], false)))))))))).2.2.2.2.2.1) ((nthI a26 a21 ((0 : Int), ((0 : Int), ((0 : Int), ((0 : Int), ((0 : Int), ((0 : Int), ((0 : Int), ((0 : Int), ([], false)))))))))).2.2.2.2.2.2.1) ((nthI a26 a21 ((0 : Int), ((0 : Int), ((0 : Int), ((0 : Int), ((0 : Int), ((0 : Int), ((0 : Int), ((0 : Int), ([], false)))))))))).2.2.2.2.2.2.2.1) ((nthI a26 a21 ((0 : Int), ((0 : Int), ((0 : Int), ((0 : Int), ((0 : Int), ((0 : Int), ((0 : Int), ((0 : Int), ([], false)))))))))).2.2.2.2.2.2.2.2.2) ((nthI a26 a21 ((0 : Int), ((0 : Int), ((0 : Int), ((0 : Int), ((0 : Int), ((0 : Int), ((0 : Int), ((0 : Int), ([], false)))))))))).2.2.2.2.2.2.2.2.1)) fun r34 =>
    (bif (!r34) then
    (e6_0 false a22 a23 a24 a25 a26 a27)
    else
    (I.isBox_l0 m e6_0 e6_1 a20 (IntKind.wrap .i64 (a21 + 1)) a22 a23 a24 a25 a26 a27)))))))
    else
    none)
    else
    (e6_1 a22 a23 a24 a25 a26 a27))
noncomputable def I.isBox_l1 : Nat → (Bool → Int → Int → Int → Int → (List (Int × Int × Int × Int × Int × Int × Int × Int × List Int × Bool)) → (List (Int × Int × Int)) → Option Bool) → (Int → Int → Int → Int → (List (Int × Int × Int × Int × Int × Int × Int × Int × List Int × Bool)) → (List (Int × Int × Int)) → Option Bool) → Int → Int → Int → Int → Int → Int → (List (Int × Int × Int)) → (List (Int × Int × Int × Int × Int × Int × Int × Int × List Int × Bool)) → Option Bool
  | 0, _, _, _, _, _, _, _, _, _, _ => none
  | m + 1, e12_0, e12_1, a50, a51, a52, a53, a54, a55, a56, a57 =>
    (bif (decide (a51 < a50)) then
    (bif decide ((0 : Int) ≤ a51 ∧ a51 < (a56.length : Int)) then
    (let v62 : Bool := ((nthI a56 a51 ((0 : Int), ((0 : Int), (0 : Int)))).1 != (IntKind.wrap .i64 ((IntKind.wrap .i64 (a54 - (a56.length : Int))) + a51)))
    (bif v62 then
    (e12_0 false a52 a53 a54 a55 a57 a56)
    else
    (Option.bind (I.isRuleNumber ((nthI a56 a51 ((0 : Int), ((0 : Int), (0 : Int)))).2.1)) fun r63 =>
    (bif (!r63) then
    (e12_0 false a52 a53 a54 a55 a57 a56)
    else
    (Option.bind (I.in ((nthI a56 a51 ((0 : Int), ((0 : Int), (0 : Int)))).2.2) 0 15) fun r64 =>
    (bif (!r64) then
    (e12_0 false a52 a53 a54 a55 a57 a56)
    else
    (I.isBox_l1 m e12_0 e12_1 a50 (IntKind.wrap .i64 (a51 + 1)) a52 a53 a54 a55 a56 a57)))))))
    else
    none)
    else
    (e12_1 a52 a53 a54 a55 a57 a56))
noncomputable def I.isBox_l2 : Nat → (Bool → Option Bool) → (Option Bool) → Int → Int → Int → Int → Int → Int → (List (Int × Int × Int × Int × Int × Int × Int × Int × List Int × Bool)) → (List (Int × Int × Int)) → Option Bool
  | 0, _, _, _, _, _, _, _, _, _, _ => none
  | m + 1, e18_0, e18_1, a82, a83, a84, a85, a86, a87, a88, a89 =>
    (bif (decide (a83 < a82)) then
    (let v93 : Int := (IntKind.wrap .i64 ((IntKind.wrap .i64 ((a88.length : Int) - 1)) - a83))
    (bif decide ((0 : Int) ≤ v93 ∧ v93 < (a88.length : Int)) then
    (let v96 : Int := (IntKind.wrap .i64 ((IntKind.wrap .i64 ((a89.length : Int) - 1)) - a83))
    (bif decide ((0 : Int) ≤ v96 ∧ v96 < (a89.length : Int)) then
    (dup (let v97 : Bool := ((nthI a88 v93 ((0 : Int), ((0 : Int), ((0 : Int), ((0 : Int), ((0 : Int), ((0 : Int), ((0 : Int), ((0 : Int), ([], false)))))))))).2.1 != (nthI a89 v96 ((0 : Int), ((0 : Int), (0 : Int)))).2.1)
    (bif v97 then
    (e18_0 false)
    else
    (let v98 : Bool := ((nthI a88 v93 ((0 : Int), ((0 : Int), ((0 : Int), ((0 : Int), ((0 : Int), ((0 : Int), ((0 : Int), ((0 : Int), ([], false)))))))))).2.2.2.2.2.2.1 != (nthI a89 v96 ((0 : Int), ((0 : Int), (0 : Int)))).2.2)
    (bif v98 then
    (e18_0 false)
    else
    (I.isBox_l2 m e18_0 e18_1 a82 (IntKind.wrap .i64 (a83 + 1)) a84 a85 a86 a87 a88 a89))))))
    else
    none))
    else
    none))
    else
    e18_1)
noncomputable def I.isBox (a1 a2 a3 a4 : Int) (a5 : List (Int × Int × Int × Int × Int × Int × Int × Int × List Int × Bool)) (a6 : List (Int × Int × Int)) : Option Bool :=
(Option.bind (I.isCap a1) fun r7 =>
(bif (!r7) then
(some false)
else
(Option.bind (I.isCap a2) fun r8 =>
(bif (!r8) then
(some false)
else
(Option.bind (I.in a3 0 1000000) fun r9 =>
(bif (!r9) then
(some false)
else
(Option.bind (I.in a4 0 1000000) fun r10 =>
(bif (!r10) then
(some false)
else
(bif (decide (a1 < (a5.length : Int))) then
(some false)
else
(bif (decide (a2 < (a6.length : Int))) then
(some false)
else
(bif (decide (a3 < (a5.length : Int))) then
(some false)
else
(bif (decide (a3 < (a6.length : Int))) then
(some false)
else
(I.isBox_l0 fu (fun y36 y37 y38 y39 y40 y41 y42 =>
(some y36)) (fun y43 y44 y45 y46 y47 y48 =>
(I.isBox_l1 fu (fun y66 y67 y68 y69 y70 y71 y72 =>
(some y66)) (fun y73 y74 y75 y76 y77 y78 =>
(let v79 : Int := (y77.length : Int)
(let v80 : Int := (y78.length : Int)
(I.isBox_l2 fu (fun y100 =>
(some y100)) (some true) (if v80 < v79 then v80 else v79) 0 y73 y74 y75 y76 y77 y78)))) (y48.length : Int) 0 y43 y44 y45 y46 y48 y47)) (a5.length : Int) 0 a1 a2 a3 a4 a5 a6)))))))))))))
noncomputable def H93_6 : LoopH := ⟨⟨((.one (.unk)) :: (.one (.ptr 0 0)) :: (hu 61 ((.one (.sl 0)) :: hh :: hh :: (hu 104 [])))), [(31, [.hole, .hole, .hole, .hole, .sl 0, .sl 1])], [(146, (.pair (.int .i64) (.pair (.int .i64) (.pair (.int .i64) (.pair (.int .i64) (.pair (.int .i64) (.pair (.int .i64) (.pair (.int .i64) (.pair (.int .i64) (.pair (.sl 3 (.int .i64)) .bool))))))))), .ro), (158, (.pair (.int .i64) (.pair (.int .i64) (.int .i64))), .ro)]⟩, [0, 2, 3, 4, 5, 6, 7, 8, 9, 10, 11, 12, 13, 14, 15, 16, 17, 18, 19, 20, 21, 22, 23, 24, 25, 26, 27, 28, 29, 30, 31, 32, 33, 34, 35, 36, 37, 38, 39, 40, 41, 42, 43, 44, 45, 46, 47, 48, 49, 50, 51, 52, 53, 54, 55, 56, 57, 58, 59, 60, 61, 62, 66, 67, 68, 69, 70, 71, 72, 73, 74, 75, 76, 77, 78, 79, 80, 81, 82, 83, 84, 85, 86, 87, 88, 89, 90, 91, 92, 93, 94, 95, 96, 97, 98, 99, 100, 101, 102, 103, 104, 105, 106, 107, 108, 109, 110, 111, 112, 113, 114, 115, 116, 117, 118, 119, 120, 121, 122, 123, 124, 125, 126, 127, 128, 129, 130, 131, 132, 133, 134, 135, 136, 137, 138, 139, 140, 141, 142, 143, 144, 145, 146, 147, 148, 149, 150, 151, 152, 153, 154, 155, 156, 157, 158, 159, 160, 161, 162, 163, 164, 165, 166, 167, 168, 169], [], [0, 3, 4, 5, 6, 7, 8, 9, 10, 11, 12, 13, 14, 15, 16, 17, 18, 19, 20, 21, 22, 23, 24, 25, 26, 27, 28, 29, 30, 31, 32, 33, 34, 35, 36, 37, 38, 39, 40, 41, 42, 43, 44, 45, 46, 47, 48, 49, 50, 51, 52, 53, 54, 55, 56, 57, 58, 59, 60, 61, 62, 63, 64, 65, 66, 67, 68, 69, 70, 71, 72, 73, 74, 75, 76, 77, 78, 79, 80, 81, 82, 83, 84, 85, 86, 87, 88, 89, 90, 91, 92, 93, 94, 95, 96, 97, 98, 99, 100, 101, 102, 103, 104, 105, 106, 107, 108, 109, 110, 111, 112, 113, 114, 115, 116, 117, 118, 119, 120, 121, 122, 123, 124, 125, 126, 127, 128, 129, 130, 131, 132, 133, 134, 135, 136, 137, 138, 139, 140, 141, 142, 143, 144, 145, 146, 147, 148, 149, 150, 151, 152, 153, 154, 155, 156, 157, 158, 159, 160, 161, 162, 163, 164, 165, 166, 167, 168, 169], []⟩
noncomputable def E93_6 (m : Nat) (ps : List Prm) (k : Kont Bool) : Option Bool :=
  match ps with
  | [.v (.int .i64 a20), .v (.int .i64 a21), .v (.int .i64 a22), .v (.int .i64 a23), .v (.int .i64 a24), .v (.int .i64 a25), .row (.pair (.int .i64) (.pair (.int .i64) (.pair (.int .i64) (.pair (.int .i64) (.pair (.int .i64) (.pair (.int .i64) (.pair (.int .i64) (.pair (.int .i64) (.pair (.sl 3 (.int .i64)) .bool))))))))) a26, .row (.pair (.int .i64) (.pair (.int .i64) (.int .i64))) a27] => I.isBox_l0 m (fun z128 z129 z130 z131 z132 z133 z134 => k .ret (⟨((.s1 (.one (.unk))) :: (vp 0 0) :: (vb z128) :: (vu 167 [])), [(31, [ai z129, ai z130, ai z131, ai z132, .sl 0, .sl 1])], [⟨146, (.pair (.int .i64) (.pair (.int .i64) (.pair (.int .i64) (.pair (.int .i64) (.pair (.int .i64) (.pair (.int .i64) (.pair (.int .i64) (.pair (.int .i64) (.pair (.sl 3 (.int .i64)) .bool))))))))), z133, .ro⟩, ⟨158, (.pair (.int .i64) (.pair (.int .i64) (.int .i64))), z134, .ro⟩]⟩ : St)) (fun z135 z136 z137 z138 z139 z140 => k (.exit 0) (⟨((.s1 (.one (.unk))) :: (vp 0 0) :: (vu 168 [])), [(31, [ai z135, ai z136, ai z137, ai z138, .sl 0, .sl 1])], [⟨146, (.pair (.int .i64) (.pair (.int .i64) (.pair (.int .i64) (.pair (.int .i64) (.pair (.int .i64) (.pair (.int .i64) (.pair (.int .i64) (.pair (.int .i64) (.pair (.sl 3 (.int .i64)) .bool))))))))), z139, .ro⟩, ⟨158, (.pair (.int .i64) (.pair (.int .i64) (.int .i64))), z140, .ro⟩]⟩ : St)) a20 a21 a22 a23 a24 a25 a26 a27
  | _ => none
noncomputable def S93_6 (a20 a21 a22 a23 a24 a25 : Int) (a26 : List (Int × Int × Int × Int × Int × Int × Int × Int × List Int × Bool)) (a27 : List (Int × Int × Int)) : St := (⟨((.s1 (.one (.unk))) :: (vp 0 0) :: (vu 61 ((vl 0) :: (vi a20) :: (vi a21) :: (vu 104 [])))), [(31, [ai a22, ai a23, ai a24, ai a25, .sl 0, .sl 1])], [⟨146, (.pair (.int .i64) (.pair (.int .i64) (.pair (.int .i64) (.pair (.int .i64) (.pair (.int .i64) (.pair (.int .i64) (.pair (.int .i64) (.pair (.int .i64) (.pair (.sl 3 (.int .i64)) .bool))))))))), a26, .ro⟩, ⟨158, (.pair (.int .i64) (.pair (.int .i64) (.int .i64))), a27, .ro⟩]⟩ : St)
theorem ev93_6 (m : Nat) (k : Kont Bool) (a20 a21 a22 a23 a24 a25 : Int) (a26 : List (Int × Int × Int × Int × Int × Int × Int × Int × List Int × Bool)) (a27 : List (Int × Int × Int)) : evC Try.prog G93 loopNil c93_6 (S93_6 a20 a21 a22 a23 a24 a25 a26 a27) (turn Try.prog (0, 0) H93_6 (E93_6 m) k) = E93_6 (m + 1) [.v (.int .i64 a20), .v (.int .i64 a21), .v (.int .i64 a22), .v (.int .i64 a23), .v (.int .i64 a24), .v (.int .i64 a25), .row (.pair (.int .i64) (.pair (.int .i64) (.pair (.int .i64) (.pair (.int .i64) (.pair (.int .i64) (.pair (.int .i64) (.pair (.int .i64) (.pair (.int .i64) (.pair (.sl 3 (.int .i64)) .bool))))))))) a26, .row (.pair (.int .i64) (.pair (.int .i64) (.int .i64))) a27] k := by kernel_rfl
theorem ok93_6 (m : Nat) : LoopOk Try.prog (0, 0) c93_6 (enter Try.prog (0, 0) H93_6 (E93_6 m)) := by
  refine loop_ok (G := G93) (L := loopNil) (envCons_good good177 (envCons_good good178 (envCons_good good132 (envCons_good good131 envNil_good)))) (by intro x hx; simp [show loopsOf c93_6 = [] from by kernel_rfl] at hx) (fun ps k => by unfold E93_6; split <;> rfl) (fun m ps k r h => ?_) m
  have h0 := h
  unfold E93_6 at h
  split at h
  · exact ⟨S93_6 _ _ _ _ _ _ _ _, by kernel_rfl, (ev93_6 m k _ _ _ _ _ _ _ _).trans h0⟩
  · cases h
noncomputable def H93_12 : LoopH := ⟨⟨((.one (.unk)) :: (.one (.ptr 0 0)) :: (hu 93 ((.one (.sl 0)) :: hh :: hh :: (hu 72 [])))), [(31, [.hole, .hole, .hole, .hole, .sl 1, .sl 0])], [(158, (.pair (.int .i64) (.pair (.int .i64) (.int .i64))), .ro), (146, (.pair (.int .i64) (.pair (.int .i64) (.pair (.int .i64) (.pair (.int .i64) (.pair (.int .i64) (.pair (.int .i64) (.pair (.int .i64) (.pair (.int .i64) (.pair (.sl 3 (.int .i64)) .bool))))))))), .ro)]⟩, [0, 2, 3, 4, 5, 6, 7, 8, 9, 10, 11, 12, 13, 14, 15, 16, 17, 18, 19, 20, 21, 22, 23, 24, 25, 26, 27, 28, 29, 30, 31, 32, 33, 34, 35, 36, 37, 38, 39, 40, 41, 42, 43, 44, 45, 46, 47, 48, 49, 50, 51, 52, 53, 54, 55, 56, 57, 58, 59, 60, 61, 62, 63, 64, 65, 66, 67, 68, 69, 70, 71, 72, 73, 74, 75, 76, 77, 78, 79, 80, 81, 82, 83, 84, 85, 86, 87, 88, 89, 90, 91, 92, 93, 94, 98, 99, 100, 101, 102, 103, 104, 105, 106, 107, 108, 109, 110, 111, 112, 113, 114, 115, 116, 117, 118, 119, 120, 121, 122, 123, 124, 125, 126, 127, 128, 129, 130, 131, 132, 133, 134, 135, 136, 137, 138, 139, 140, 141, 142, 143, 144, 145, 146, 147, 148, 149, 150, 151, 152, 153, 154, 155, 156, 157, 158, 159, 160, 161, 162, 163, 164, 165, 166, 167, 168, 169], [], [0, 3, 4, 5, 6, 7, 8, 9, 10, 11, 12, 13, 14, 15, 16, 17, 18, 19, 20, 21, 22, 23, 24, 25, 26, 27, 28, 29, 30, 31, 32, 33, 34, 35, 36, 37, 38, 39, 40, 41, 42, 43, 44, 45, 46, 47, 48, 49, 50, 51, 52, 53, 54, 55, 56, 57, 58, 59, 60, 61, 62, 63, 64, 65, 66, 67, 68, 69, 70, 71, 72, 73, 74, 75, 76, 77, 78, 79, 80, 81, 82, 83, 84, 85, 86, 87, 88, 89, 90, 91, 92, 93, 94, 95, 96, 97, 98, 99, 100, 101, 102, 103, 104, 105, 106, 107, 108, 109, 110, 111, 112, 113, 114, 115, 116, 117, 118, 119, 120, 121, 122, 123, 124, 125, 126, 127, 128, 129, 130, 131, 132, 133, 134, 135, 136, 137, 138, 139, 140, 141, 142, 143, 144, 145, 146, 147, 148, 149, 150, 151, 152, 153, 154, 155, 156, 157, 158, 159, 160, 161, 162, 163, 164, 165, 166, 167, 168, 169], []⟩
noncomputable def E93_12 (m : Nat) (ps : List Prm) (k : Kont Bool) : Option Bool :=
  match ps with
  | [.v (.int .i64 a50), .v (.int .i64 a51), .v (.int .i64 a52), .v (.int .i64 a53), .v (.int .i64 a54), .v (.int .i64 a55), .row (.pair (.int .i64) (.pair (.int .i64) (.int .i64))) a56, .row (.pair (.int .i64) (.pair (.int .i64) (.pair (.int .i64) (.pair (.int .i64) (.pair (.int .i64) (.pair (.int .i64) (.pair (.int .i64) (.pair (.int .i64) (.pair (.sl 3 (.int .i64)) .bool))))))))) a57] => I.isBox_l1 m (fun z141 z142 z143 z144 z145 z146 z147 => k .ret (⟨((.s1 (.one (.unk))) :: (vp 0 0) :: (vb z141) :: (vu 167 [])), [(31, [ai z142, ai z143, ai z144, ai z145, .sl 0, .sl 1])], [⟨146, (.pair (.int .i64) (.pair (.int .i64) (.pair (.int .i64) (.pair (.int .i64) (.pair (.int .i64) (.pair (.int .i64) (.pair (.int .i64) (.pair (.int .i64) (.pair (.sl 3 (.int .i64)) .bool))))))))), z146, .ro⟩, ⟨158, (.pair (.int .i64) (.pair (.int .i64) (.int .i64))), z147, .ro⟩]⟩ : St)) (fun z148 z149 z150 z151 z152 z153 => k (.exit 2) (⟨((.s1 (.one (.unk))) :: (vp 0 0) :: (vu 168 [])), [(31, [ai z148, ai z149, ai z150, ai z151, .sl 0, .sl 1])], [⟨146, (.pair (.int .i64) (.pair (.int .i64) (.pair (.int .i64) (.pair (.int .i64) (.pair (.int .i64) (.pair (.int .i64) (.pair (.int .i64) (.pair (.int .i64) (.pair (.sl 3 (.int .i64)) .bool))))))))), z152, .ro⟩, ⟨158, (.pair (.int .i64) (.pair (.int .i64) (.int .i64))), z153, .ro⟩]⟩ : St)) a50 a51 a52 a53 a54 a55 a56 a57
  | _ => none
noncomputable def S93_12 (a50 a51 a52 a53 a54 a55 : Int) (a56 : List (Int × Int × Int)) (a57 : List (Int × Int × Int × Int × Int × Int × Int × Int × List Int × Bool)) : St := (⟨((.s1 (.one (.unk))) :: (vp 0 0) :: (vu 93 ((vl 0) :: (vi a50) :: (vi a51) :: (vu 72 [])))), [(31, [ai a52, ai a53, ai a54, ai a55, .sl 1, .sl 0])], [⟨158, (.pair (.int .i64) (.pair (.int .i64) (.int .i64))), a56, .ro⟩, ⟨146, (.pair (.int .i64) (.pair (.int .i64) (.pair (.int .i64) (.pair (.int .i64) (.pair (.int .i64) (.pair (.int .i64) (.pair (.int .i64) (.pair (.int .i64) (.pair (.sl 3 (.int .i64)) .bool))))))))), a57, .ro⟩]⟩ : St)
theorem ev93_12 (m : Nat) (k : Kont Bool) (a50 a51 a52 a53 a54 a55 : Int) (a56 : List (Int × Int × Int)) (a57 : List (Int × Int × Int × Int × Int × Int × Int × Int × List Int × Bool)) : evC Try.prog G93 loopNil c93_12 (S93_12 a50 a51 a52 a53 a54 a55 a56 a57) (turn Try.prog (0, 0) H93_12 (E93_12 m) k) = E93_12 (m + 1) [.v (.int .i64 a50), .v (.int .i64 a51), .v (.int .i64 a52), .v (.int .i64 a53), .v (.int .i64 a54), .v (.int .i64 a55), .row (.pair (.int .i64) (.pair (.int .i64) (.int .i64))) a56, .row (.pair (.int .i64) (.pair (.int .i64) (.pair (.int .i64) (.pair (.int .i64) (.pair (.int .i64) (.pair (.int .i64) (.pair (.int .i64) (.pair (.int .i64) (.pair (.sl 3 (.int .i64)) .bool))))))))) a57] k := by kernel_rfl
theorem ok93_12 (m : Nat) : LoopOk Try.prog (0, 0) c93_12 (enter Try.prog (0, 0) H93_12 (E93_12 m)) := by
  refine loop_ok (G := G93) (L := loopNil) (envCons_good good177 (envCons_good good178 (envCons_good good132 (envCons_good good131 envNil_good)))) (by intro x hx; simp [show loopsOf c93_12 = [] from by kernel_rfl] at hx) (fun ps k => by unfold E93_12; split <;> rfl) (fun m ps k r h => ?_) m
  have h0 := h
  unfold E93_12 at h
  split at h
  · exact ⟨S93_12 _ _ _ _ _ _ _ _, by kernel_rfl, (ev93_12 m k _ _ _ _ _ _ _ _).trans h0⟩
  · cases h
noncomputable def H93_18 : LoopH := ⟨⟨((.one (.unk)) :: (.one (.ptr 0 0)) :: (hu 130 (hh :: hh :: (hu 36 [])))), [(31, [.hole, .hole, .hole, .hole, .sl 0, .sl 1])], [(146, (.pair (.int .i64) (.pair (.int .i64) (.pair (.int .i64) (.pair (.int .i64) (.pair (.int .i64) (.pair (.int .i64) (.pair (.int .i64) (.pair (.int .i64) (.pair (.sl 3 (.int .i64)) .bool))))))))), .ro), (158, (.pair (.int .i64) (.pair (.int .i64) (.int .i64))), .ro)]⟩, [0, 2, 3, 4, 5, 6, 7, 8, 9, 10, 11, 12, 13, 14, 15, 16, 17, 18, 19, 20, 21, 22, 23, 24, 25, 26, 27, 28, 29, 30, 31, 32, 33, 34, 35, 36, 37, 38, 39, 40, 41, 42, 43, 44, 45, 46, 47, 48, 49, 50, 51, 52, 53, 54, 55, 56, 57, 58, 59, 60, 61, 62, 63, 64, 65, 66, 67, 68, 69, 70, 71, 72, 73, 74, 75, 76, 77, 78, 79, 80, 81, 82, 83, 84, 85, 86, 87, 88, 89, 90, 91, 92, 93, 94, 95, 96, 97, 98, 99, 100, 101, 102, 103, 104, 105, 106, 107, 108, 109, 110, 111, 112, 113, 114, 115, 116, 117, 118, 119, 120, 121, 122, 123, 124, 125, 126, 127, 128, 129, 130, 131, 134, 135, 136, 137, 138, 139, 140, 141, 142, 143, 144, 145, 146, 147, 148, 149, 150, 151, 152, 153, 154, 155, 156, 157, 158, 159, 160, 161, 162, 163, 164, 165, 166, 167, 168, 169], [], [0, 1, 3, 4, 5, 6, 7, 8, 9, 10, 11, 12, 13, 14, 15, 16, 17, 18, 19, 20, 21, 22, 23, 24, 25, 26, 27, 28, 29, 30, 31, 32, 33, 34, 35, 36, 37, 38, 39, 40, 41, 42, 43, 44, 45, 46, 47, 48, 49, 50, 51, 52, 53, 54, 55, 56, 57, 58, 59, 60, 61, 62, 63, 64, 65, 66, 67, 68, 69, 70, 71, 72, 73, 74, 75, 76, 77, 78, 79, 80, 81, 82, 83, 84, 85, 86, 87, 88, 89, 90, 91, 92, 93, 94, 95, 96, 97, 98, 99, 100, 101, 102, 103, 104, 105, 106, 107, 108, 109, 110, 111, 112, 113, 114, 115, 116, 117, 118, 119, 120, 121, 122, 123, 124, 125, 126, 127, 128, 129, 130, 131, 132, 133, 134, 135, 136, 137, 138, 139, 140, 141, 142, 143, 144, 145, 146, 147, 148, 149, 150, 151, 152, 153, 154, 155, 156, 157, 158, 159, 160, 161, 162, 163, 164, 165, 166, 167, 168, 169], []⟩
noncomputable def E93_18 (m : Nat) (ps : List Prm) (k : Kont Bool) : Option Bool :=
  match ps with
  | [.v (.int .i64 a82), .v (.int .i64 a83), .v (.int .i64 a84), .v (.int .i64 a85), .v (.int .i64 a86), .v (.int .i64 a87), .row (.pair (.int .i64) (.pair (.int .i64) (.pair (.int .i64) (.pair (.int .i64) (.pair (.int .i64) (.pair (.int .i64) (.pair (.int .i64) (.pair (.int .i64) (.pair (.sl 3 (.int .i64)) .bool))))))))) a88, .row (.pair (.int .i64) (.pair (.int .i64) (.int .i64))) a89] => I.isBox_l2 m (fun z154 => k .ret (⟨(vu 2 ((vb z154) :: (vu 167 []))), [], []⟩ : St)) (k (.exit 4) (⟨(vu 170 []), [], []⟩ : St)) a82 a83 a84 a85 a86 a87 a88 a89
  | _ => none
noncomputable def S93_18 (a82 a83 a84 a85 a86 a87 : Int) (a88 : List (Int × Int × Int × Int × Int × Int × Int × Int × List Int × Bool)) (a89 : List (Int × Int × Int)) : St := (⟨((.s1 (.one (.unk))) :: (vp 0 0) :: (vu 130 ((vi a82) :: (vi a83) :: (vu 36 [])))), [(31, [ai a84, ai a85, ai a86, ai a87, .sl 0, .sl 1])], [⟨146, (.pair (.int .i64) (.pair (.int .i64) (.pair (.int .i64) (.pair (.int .i64) (.pair (.int .i64) (.pair (.int .i64) (.pair (.int .i64) (.pair (.int .i64) (.pair (.sl 3 (.int .i64)) .bool))))))))), a88, .ro⟩, ⟨158, (.pair (.int .i64) (.pair (.int .i64) (.int .i64))), a89, .ro⟩]⟩ : St)
theorem ev93_18 (m : Nat) (k : Kont Bool) (a82 a83 a84 a85 a86 a87 : Int) (a88 : List (Int × Int × Int × Int × Int × Int × Int × Int × List Int × Bool)) (a89 : List (Int × Int × Int)) : evC Try.prog G93 loopNil c93_18 (S93_18 a82 a83 a84 a85 a86 a87 a88 a89) (turn Try.prog (0, 0) H93_18 (E93_18 m) k) = E93_18 (m + 1) [.v (.int .i64 a82), .v (.int .i64 a83), .v (.int .i64 a84), .v (.int .i64 a85), .v (.int .i64 a86), .v (.int .i64 a87), .row (.pair (.int .i64) (.pair (.int .i64) (.pair (.int .i64) (.pair (.int .i64) (.pair (.int .i64) (.pair (.int .i64) (.pair (.int .i64) (.pair (.int .i64) (.pair (.sl 3 (.int .i64)) .bool))))))))) a88, .row (.pair (.int .i64) (.pair (.int .i64) (.int .i64))) a89] k := by kernel_rfl
theorem ok93_18 (m : Nat) : LoopOk Try.prog (0, 0) c93_18 (enter Try.prog (0, 0) H93_18 (E93_18 m)) := by
  refine loop_ok (G := G93) (L := loopNil) (envCons_good good177 (envCons_good good178 (envCons_good good132 (envCons_good good131 envNil_good)))) (by intro x hx; simp [show loopsOf c93_18 = [] from by kernel_rfl] at hx) (fun ps k => by unfold E93_18; split <;> rfl) (fun m ps k r h => ?_) m
  have h0 := h
  unfold E93_18 at h
  split at h
  · exact ⟨S93_18 _ _ _ _ _ _ _ _, by kernel_rfl, (ev93_18 m k _ _ _ _ _ _ _ _).trans h0⟩
  · cases h
noncomputable def L93 : LEnv Bool := (loopCons 6 (enter Try.prog (0, 0) H93_6 (E93_6 fu)) (loopCons 12 (enter Try.prog (0, 0) H93_12 (E93_12 fu)) (loopCons 18 (enter Try.prog (0, 0) H93_18 (E93_18 fu)) loopNil)))
theorem lq93 : loopsOf c93 = [c93_6, c93_12, c93_18] := by kernel_rfl
theorem fr93_6 : firstReg c93_6 = some 6 := by kernel_rfl
theorem le93_6 : L93 6 = enter Try.prog (0, 0) H93_6 (E93_6 fu) := by kernel_rfl
theorem fr93_12 : firstReg c93_12 = some 12 := by kernel_rfl
theorem le93_12 : L93 12 = enter Try.prog (0, 0) H93_12 (E93_12 fu) := by kernel_rfl
theorem fr93_18 : firstReg c93_18 = some 18 := by kernel_rfl
theorem le93_18 : L93 18 = enter Try.prog (0, 0) H93_18 (E93_18 fu) := by kernel_rfl
theorem lm93 : ∀ x ∈ [c93_6, c93_12, c93_18], ∀ id, firstReg x = some id → LoopOk Try.prog (0, 0) x (L93 id) := (loops_cons fr93_6 le93_6 (ok93_6 fu) (loops_cons fr93_12 le93_12 (ok93_12 fu) (loops_cons fr93_18 le93_18 (ok93_18 fu) loops_nil)))
theorem lp93 : ∀ x ∈ loopsOf c93, ∀ id, firstReg x = some id → LoopOk Try.prog (0, 0) x (L93 id) := loops_eq lq93 lm93
noncomputable def R93 (x : Bool) : Res := ⟨[.one (ab x)], [], []⟩
noncomputable def K93 (r : Res) : Option Bool :=
  match r with
  | ⟨[.one (.val (.bool v1))], [], []⟩ => some (v1)
  | _ => none
noncomputable def E93 : Fun2 := fun args bs rs =>
  match args, bs, rs with
  | [.s1 (.agg [.val (.int .i64 a1), .val (.int .i64 a2), .val (.int .i64 a3), .val (.int .i64 a4), .sl 0, .sl 1])], [], [⟨146, (.pair (.int .i64) (.pair (.int .i64) (.pair (.int .i64) (.pair (.int .i64) (.pair (.int .i64) (.pair (.int .i64) (.pair (.int .i64) (.pair (.int .i64) (.pair (.sl 3 (.int .i64)) .bool))))))))), a5, .ro⟩, ⟨158, (.pair (.int .i64) (.pair (.int .i64) (.int .i64))), a6, .ro⟩] => some ⟨Bool, I.isBox a1 a2 a3 a4 a5 a6, R93⟩
  | _, _, _ => none
theorem ev93 (a1 a2 a3 a4 : Int) (a5 : List (Int × Int × Int × Int × Int × Int × Int × Int × List Int × Bool)) (a6 : List (Int × Int × Int)) : evF Try.prog G93 L93 (0, 0) [] Try.f93 c93 [.s1 (.agg [ai a1, ai a2, ai a3, ai a4, .sl 0, .sl 1])] [] [⟨146, (.pair (.int .i64) (.pair (.int .i64) (.pair (.int .i64) (.pair (.int .i64) (.pair (.int .i64) (.pair (.int .i64) (.pair (.int .i64) (.pair (.int .i64) (.pair (.sl 3 (.int .i64)) .bool))))))))), a5, .ro⟩, ⟨158, (.pair (.int .i64) (.pair (.int .i64) (.int .i64))), a6, .ro⟩] K93 = I.isBox a1 a2 a3 a4 a5 a6 := by kernel_rfl
theorem good93 : Vm.Good Try.prog 93 E93 := by
  refine evF_good (G := G93) (c := c93) (envCons_good good177 (envCons_good good178 (envCons_good good132 (envCons_good good131 envNil_good)))) Try.func93 (by kernel_rfl) (by kernel_rfl) (0, 0) (fun args bs rs out t h h2 => ?_)
  unfold E93 at h
  split at h
  · injection h with h
    subst h
    exact ⟨rfl, [], L93, K93, lp93, (fun r t h => by unfold K93 at h; split at h; (injection h with h; subst h; rfl); cases h), (ev93 _ _ _ _ _ _).trans h2⟩
  · cases h
/-! ### G.slices.Clone_int -/
noncomputable def G110 : Env := envNil
noncomputable def c110 : Code := bodyOf Try.f110
noncomputable def G.slices.Clone_int (a1 : List Int) : Option (List Int) :=
(bif decide (a1.length = 0) then
(same (some [])
(bif decide ((([] : List (Int)).length + a1.length) * 8 ≤ 140737488355328) then
(some (([] : List (Int)) ++ a1))
else
none))
else
(bif decide ((([] : List (Int)).length + a1.length) * 8 ≤ 140737488355328) then
(some (([] : List (Int)) ++ a1))
else
none))
noncomputable def R110 (x : List Int) : Res := ⟨[.one (.sl 0)], [], [⟨3, (.int .i64), x, .own⟩]⟩
noncomputable def K110 (r : Res) : Option (List Int) :=
  match r with
  | ⟨[.one (.sl 0)], [], [⟨3, (.int .i64), v1, .own⟩]⟩ => some (v1)
  | _ => none
noncomputable def E110 : Fun2 := fun args bs rs =>
  match args, bs, rs with
  | [.s1 (.one (.sl 0))], [], [⟨3, (.int .i64), a1, .ro⟩] => some ⟨List Int, G.slices.Clone_int a1, R110⟩
  | _, _, _ => none
theorem ev110 (a1 : List Int) : evF Try.prog G110 loopNil (0, 0) [] Try.f110 c110 [vl 0] [] [⟨3, (.int .i64), a1, .ro⟩] K110 = G.slices.Clone_int a1 := by kernel_rfl
theorem good110 : Vm.Good Try.prog 110 E110 := by
  refine evF_good (G := G110) (c := c110) envNil_good Try.func110 (by kernel_rfl) (by kernel_rfl) (0, 0) (fun args bs rs out t h h2 => ?_)
  unfold E110 at h
  split at h
  · injection h with h
    subst h
    exact ⟨rfl, [], loopNil, K110, (by intro x hx; simp [show loopsOf c110 = [] from by kernel_rfl] at hx), (fun r t h => by unfold K110 at h; split at h; (injection h with h; subst h; rfl); cases h), (ev110 _).trans h2⟩
  · cases h
/-! ### I.Pane_copied -/
noncomputable def G155 : Env := (envCons 110 [] E110 envNil)
noncomputable def c155 : Code := bodyOf Try.f155
noncomputable def I.Pane_copied (a1 a2 a3 a4 a5 a6 : Int) (a7 : Bool) (a8 : List Int) : Option (Int × Int × Int × Int × Int × Int × Bool × List Int) :=
(Option.bind (G.slices.Clone_int a8) fun r9 =>
(some (a1, a2, a3, a4, a5, a6, a7, r9)))
noncomputable def R155 (x : Int × Int × Int × Int × Int × Int × Bool × List Int) : Res := ⟨[.agg [ai x.1, ai x.2.1, ai x.2.2.1, ai x.2.2.2.1, ai x.2.2.2.2.1, ai x.2.2.2.2.2.1, .sl 0, ab x.2.2.2.2.2.2.1]], [], [⟨3, (.int .i64), x.2.2.2.2.2.2.2, .own⟩]⟩
noncomputable def K155 (r : Res) : Option (Int × Int × Int × Int × Int × Int × Bool × List Int) :=
  match r with
  | ⟨[.agg [.val (.int .i64 v1), .val (.int .i64 v2), .val (.int .i64 v3), .val (.int .i64 v4), .val (.int .i64 v5), .val (.int .i64 v6), .sl 0, .val (.bool v7)]], [], [⟨3, (.int .i64), v8, .own⟩]⟩ => some (v1, v2, v3, v4, v5, v6, v7, v8)
  | _ => none
noncomputable def E155 : Fun2 := fun args bs rs =>
  match args, bs, rs with
  | [.s1 (.agg [.val (.int .i64 a1), .val (.int .i64 a2), .val (.int .i64 a3), .val (.int .i64 a4), .val (.int .i64 a5), .val (.int .i64 a6), .sl 0, .val (.bool a7)])], [], [⟨3, (.int .i64), a8, .ro⟩] => some ⟨Int × Int × Int × Int × Int × Int × Bool × List Int, I.Pane_copied a1 a2 a3 a4 a5 a6 a7 a8, R155⟩
  | _, _, _ => none
theorem ev155 (a1 a2 a3 a4 a5 a6 : Int) (a7 : Bool) (a8 : List Int) : evF Try.prog G155 loopNil (0, 0) [] Try.f155 c155 [.s1 (.agg [ai a1, ai a2, ai a3, ai a4, ai a5, ai a6, .sl 0, ab a7])] [] [⟨3, (.int .i64), a8, .ro⟩] K155 = I.Pane_copied a1 a2 a3 a4 a5 a6 a7 a8 := by kernel_rfl
theorem good155 : Vm.Good Try.prog 155 E155 := by
  refine evF_good (G := G155) (c := c155) (envCons_good good110 envNil_good) Try.func155 (by kernel_rfl) (by kernel_rfl) (0, 0) (fun args bs rs out t h h2 => ?_)
  unfold E155 at h
  split at h
  · injection h with h
    subst h
    exact ⟨rfl, [], loopNil, K155, (by intro x hx; simp [show loopsOf c155 = [] from by kernel_rfl] at hx), (fun r t h => by unfold K155 at h; split at h; (injection h with h; subst h; rfl); cases h), (ev155 _ _ _ _ _ _ _ _).trans h2⟩
  · cases h
/-! ### I.items -/
noncomputable def G179 : Env := (envCons 155 [] E155 envNil)
noncomputable def c179 : Code := bodyOf Try.f179
noncomputable def c179_3 : Code := (loopsOf c179).getD 0 .skip
noncomputable def I.items_l0 : Nat → ((List (Int × Int × Int × Int × Int × Int × Int × Int × List Int × Bool)) → Option ((List (Int × Int × Int × Int × Int × Int × Int × Int × List Int × Bool)))) → Int → Int → (List (Int × Int × Int × Int × Int × Int × Int × Int × List Int × Bool)) → (List (Int × Int × Int × Int × Int × Int × Int × Int × List Int × Bool)) → Option ((List (Int × Int × Int × Int × Int × Int × Int × Int × List Int × Bool)))
  | 0, _, _, _, _, _ => none
  | m + 1, e3_0, a3, a4, a5, a6 =>
    (bif (decide (a4 < a3)) then
    (bif decide ((0 : Int) ≤ a4 ∧ a4 < (a6.length : Int)) then
    (Option.bind (I.Pane_copied ((nthI a6 a4 ((0 : Int), ((0 : Int), ((0 : Int), ((0 : Int), ((0 : Int), ((0 : Int), ((0 : Int), ((0 : Int), ([], false)))))))))).2.2.1) ((nthI a6 a4 ((0 : Int), ((0 : Int), ((0 : Int), ((0 : Int), ((0 : Int), ((0 : Int), ((0 : Int), ((0 : Int), ([], false)))))))))).2.2.2.1) ((nthI a6 a4 ((0 : Int), ((0 : Int), ((0 : Int), ((0 : Int), ((0 : Int), ((0 : Int), ((0 : Int), ((0 : Int), ([], false)))))))))).2.2.2.2.1) ((nthI a6 a4 ((0 : Int), ((0 : Int), ((0 : Int), ((0 : Int), ((0 : Int), ((0 : Int), ((0 : Int), ((0 : Int), ([], false)))))))))).2.2.2.2.2.1) ((nthI a6 a4 ((0 : Int), ((0 : Int), ((0 : Int), ((0 : Int), ((0 : Int), ((0 : Int), ((0 : Int), ((0 : Int), ([], false)))))))))).2.2.2.2.2.2.1) ((nthI a6 a4 ((0 : Int), ((0 : Int), ((0 : Int), ((0 : Int), ((0 : Int), ((0 : Int), ((0 : Int), ((0 : Int), ([], false)))))))))).2.2.2.2.2.2.2.1) ((nthI a6 a4 ((0 : Int), ((0 : Int), ((0 : Int), ((0 : Int), ((0 : Int), ((0 : Int), ((0 : Int), ((0 : Int), ([], false)))))))))).2.2.2.2.2.2.2.2.2) ((nthI a6 a4 ((0 : Int), ((0 : Int), ((0 : Int), ((0 : Int), ((0 : Int), ((0 : Int), ((0 : Int), ((0 : Int), ([], false)))))))))).2.2.2.2.2.2.2.2.1)) fun r8 =>
    (let v9 : List (Int × Int × Int × Int × Int × Int × Int × Int × List Int × Bool) := [((nthI a6 a4 ((0 : Int), ((0 : Int), ((0 : Int), ((0 : Int), ((0 : Int), ((0 : Int), ((0 : Int), ((0 : Int), ([], false)))))))))).1, ((nthI a6 a4 ((0 : Int), ((0 : Int), ((0 : Int), ((0 : Int), ((0 : Int), ((0 : Int), ((0 : Int), ((0 : Int), ([], false)))))))))).2.1, (r8.1, (r8.2.1, (r8.2.2.1, (r8.2.2.2.1, (r8.2.2.2.2.1, (r8.2.2.2.2.2.1, (r8.2.2.2.2.2.2.2, r8.2.2.2.2.2.2.1)))))))))]
    (bif decide ((a5.length + v9.length) * 96 ≤ 140737488355328) then
    (I.items_l0 m e3_0 a3 (IntKind.wrap .i64 (a4 + 1)) (a5 ++ v9) a6)
    else
    none)))
    else
    none)
    else
    (e3_0 a5))
noncomputable def I.items (a1 : List (Int × Int × Int × Int × Int × Int × Int × Int × List Int × Bool)) : Option ((List (Int × Int × Int × Int × Int × Int × Int × Int × List Int × Bool))) :=
(I.items_l0 fu (fun y11 =>
(some y11)) (a1.length : Int) 0 [] a1)
noncomputable def H179_3 : LoopH := ⟨⟨(hu 3 ((.one (.sl 0)) :: (hu 3 ((.one (.sl 1)) :: hh :: hh :: (hu 16 []))))), [], [(146, (.pair (.int .i64) (.pair (.int .i64) (.pair (.int .i64) (.pair (.int .i64) (.pair (.int .i64) (.pair (.int .i64) (.pair (.int .i64) (.pair (.int .i64) (.pair (.sl 3 (.int .i64)) .bool))))))))), .own), (146, (.pair (.int .i64) (.pair (.int .i64) (.pair (.int .i64) (.pair (.int .i64) (.pair (.int .i64) (.pair (.int .i64) (.pair (.int .i64) (.pair (.int .i64) (.pair (.sl 3 (.int .i64)) .bool))))))))), .ro)]⟩, [0, 1, 2, 4, 5, 6, 10, 11, 12, 13, 14, 15, 16, 17, 18, 19, 20, 21, 22, 23, 24, 25], [], [0, 1, 4, 5, 6, 7, 8, 9, 10, 11, 12, 13, 14, 15, 16, 17, 18, 19, 20, 21, 22, 23, 24, 25], []⟩
noncomputable def E179_3 (m : Nat) (ps : List Prm) (k : Kont ((List (Int × Int × Int × Int × Int × Int × Int × Int × List Int × Bool)))) : Option ((List (Int × Int × Int × Int × Int × Int × Int × Int × List Int × Bool))) :=
  match ps with
  | [.v (.int .i64 a3), .v (.int .i64 a4), .row (.pair (.int .i64) (.pair (.int .i64) (.pair (.int .i64) (.pair (.int .i64) (.pair (.int .i64) (.pair (.int .i64) (.pair (.int .i64) (.pair (.int .i64) (.pair (.sl 3 (.int .i64)) .bool))))))))) a5, .row (.pair (.int .i64) (.pair (.int .i64) (.pair (.int .i64) (.pair (.int .i64) (.pair (.int .i64) (.pair (.int .i64) (.pair (.int .i64) (.pair (.int .i64) (.pair (.sl 3 (.int .i64)) .bool))))))))) a6] => I.items_l0 m (fun z13 => k (.exit 0) (⟨(vu 3 ((vl 0) :: (vu 22 []))), [], [⟨146, (.pair (.int .i64) (.pair (.int .i64) (.pair (.int .i64) (.pair (.int .i64) (.pair (.int .i64) (.pair (.int .i64) (.pair (.int .i64) (.pair (.int .i64) (.pair (.sl 3 (.int .i64)) .bool))))))))), z13, .own⟩]⟩ : St)) a3 a4 a5 a6
  | _ => none
noncomputable def S179_3 (a3 a4 : Int) (a5 a6 : List (Int × Int × Int × Int × Int × Int × Int × Int × List Int × Bool)) : St := (⟨(vu 3 ((vl 0) :: (vu 3 ((vl 1) :: (vi a3) :: (vi a4) :: (vu 16 []))))), [], [⟨146, (.pair (.int .i64) (.pair (.int .i64) (.pair (.int .i64) (.pair (.int .i64) (.pair (.int .i64) (.pair (.int .i64) (.pair (.int .i64) (.pair (.int .i64) (.pair (.sl 3 (.int .i64)) .bool))))))))), a5, .own⟩, ⟨146, (.pair (.int .i64) (.pair (.int .i64) (.pair (.int .i64) (.pair (.int .i64) (.pair (.int .i64) (.pair (.int .i64) (.pair (.int .i64) (.pair (.int .i64) (.pair (.sl 3 (.int .i64)) .bool))))))))), a6, .ro⟩]⟩ : St)
theorem ev179_3 (m : Nat) (k : Kont ((List (Int × Int × Int × Int × Int × Int × Int × Int × List Int × Bool)))) (a3 a4 : Int) (a5 a6 : List (Int × Int × Int × Int × Int × Int × Int × Int × List Int × Bool)) : evC Try.prog G179 loopNil c179_3 (S179_3 a3 a4 a5 a6) (turn Try.prog (0, 0) H179_3 (E179_3 m) k) = E179_3 (m + 1) [.v (.int .i64 a3), .v (.int .i64 a4), .row (.pair (.int .i64) (.pair (.int .i64) (.pair (.int .i64) (.pair (.int .i64) (.pair (.int .i64) (.pair (.int .i64) (.pair (.int .i64) (.pair (.int .i64) (.pair (.sl 3 (.int .i64)) .bool))))))))) a5, .row (.pair (.int .i64) (.pair (.int .i64) (.pair (.int .i64) (.pair (.int .i64) (.pair (.int .i64) (.pair (.int .i64) (.pair (.int .i64) (.pair (.int .i64) (.pair (.sl 3 (.int .i64)) .bool))))))))) a6] k := by kernel_rfl
theorem ok179_3 (m : Nat) : LoopOk Try.prog (0, 0) c179_3 (enter Try.prog (0, 0) H179_3 (E179_3 m)) := by
  refine loop_ok (G := G179) (L := loopNil) (envCons_good good155 envNil_good) (by intro x hx; simp [show loopsOf c179_3 = [] from by kernel_rfl] at hx) (fun ps k => by unfold E179_3; split <;> rfl) (fun m ps k r h => ?_) m
  have h0 := h
  unfold E179_3 at h
  split at h
  · exact ⟨S179_3 _ _ _ _, by kernel_rfl, (ev179_3 m k _ _ _ _).trans h0⟩
  · cases h
noncomputable def L179 : LEnv ((List (Int × Int × Int × Int × Int × Int × Int × Int × List Int × Bool))) := (loopCons 3 (enter Try.prog (0, 0) H179_3 (E179_3 fu)) loopNil)
theorem lq179 : loopsOf c179 = [c179_3] := by kernel_rfl
theorem fr179_3 : firstReg c179_3 = some 3 := by kernel_rfl
theorem le179_3 : L179 3 = enter Try.prog (0, 0) H179_3 (E179_3 fu) := by kernel_rfl
theorem lm179 : ∀ x ∈ [c179_3], ∀ id, firstReg x = some id → LoopOk Try.prog (0, 0) x (L179 id) := (loops_cons fr179_3 le179_3 (ok179_3 fu) loops_nil)
theorem lp179 : ∀ x ∈ loopsOf c179, ∀ id, firstReg x = some id → LoopOk Try.prog (0, 0) x (L179 id) := loops_eq lq179 lm179
noncomputable def R179 (x : (List (Int × Int × Int × Int × Int × Int × Int × Int × List Int × Bool))) : Res := ⟨[.one (.sl 0)], [], [⟨146, (.pair (.int .i64) (.pair (.int .i64) (.pair (.int .i64) (.pair (.int .i64) (.pair (.int .i64) (.pair (.int .i64) (.pair (.int .i64) (.pair (.int .i64) (.pair (.sl 3 (.int .i64)) .bool))))))))), x, .own⟩]⟩
noncomputable def K179 (r : Res) : Option ((List (Int × Int × Int × Int × Int × Int × Int × Int × List Int × Bool))) :=
  match r with
  | ⟨[.one (.sl 0)], [], [⟨146, (.pair (.int .i64) (.pair (.int .i64) (.pair (.int .i64) (.pair (.int .i64) (.pair (.int .i64) (.pair (.int .i64) (.pair (.int .i64) (.pair (.int .i64) (.pair (.sl 3 (.int .i64)) .bool))))))))), v1, .own⟩]⟩ => some (v1)
  | _ => none
noncomputable def E179 : Fun2 := fun args bs rs =>
  match args, bs, rs with
  | [.s1 (.one (.sl 0))], [], [⟨146, (.pair (.int .i64) (.pair (.int .i64) (.pair (.int .i64) (.pair (.int .i64) (.pair (.int .i64) (.pair (.int .i64) (.pair (.int .i64) (.pair (.int .i64) (.pair (.sl 3 (.int .i64)) .bool))))))))), a1, .ro⟩] => some ⟨(List (Int × Int × Int × Int × Int × Int × Int × Int × List Int × Bool)), I.items a1, R179⟩
  | _, _, _ => none
theorem ev179 (a1 : List (Int × Int × Int × Int × Int × Int × Int × Int × List Int × Bool)) : evF Try.prog G179 L179 (0, 0) [] Try.f179 c179 [vl 0] [] [⟨146, (.pair (.int .i64) (.pair (.int .i64) (.pair (.int .i64) (.pair (.int .i64) (.pair (.int .i64) (.pair (.int .i64) (.pair (.int .i64) (.pair (.int .i64) (.pair (.sl 3 (.int .i64)) .bool))))))))), a1, .ro⟩] K179 = I.items a1 := by kernel_rfl
theorem good179 : Vm.Good Try.prog 179 E179 := by
  refine evF_good (G := G179) (c := c179) (envCons_good good155 envNil_good) Try.func179 (by kernel_rfl) (by kernel_rfl) (0, 0) (fun args bs rs out t h h2 => ?_)
  unfold E179 at h
  split at h
  · injection h with h
    subst h
    exact ⟨rfl, [], L179, K179, lp179, (fun r t h => by unfold K179 at h; split at h; (injection h with h; subst h; rfl); cases h), (ev179 _).trans h2⟩
  · cases h
/-! ### G.slices.Clone_Rec -/
noncomputable def G180 : Env := envNil
noncomputable def c180 : Code := bodyOf Try.f180
noncomputable def G.slices.Clone_Rec (a1 : List (Int × Int × Int)) : Option ((List (Int × Int × Int))) :=
(bif decide (a1.length = 0) then
(same (some [])
(bif decide ((([] : List (Int × Int × Int)).length + a1.length) * 24 ≤ 140737488355328) then
(some (([] : List (Int × Int × Int)) ++ a1))
else
none))
else
(bif decide ((([] : List (Int × Int × Int)).length + a1.length) * 24 ≤ 140737488355328) then
(some (([] : List (Int × Int × Int)) ++ a1))
else
none))
noncomputable def R180 (x : (List (Int × Int × Int))) : Res := ⟨[.one (.sl 0)], [], [⟨158, (.pair (.int .i64) (.pair (.int .i64) (.int .i64))), x, .own⟩]⟩
noncomputable def K180 (r : Res) : Option ((List (Int × Int × Int))) :=
  match r with
  | ⟨[.one (.sl 0)], [], [⟨158, (.pair (.int .i64) (.pair (.int .i64) (.int .i64))), v1, .own⟩]⟩ => some (v1)
  | _ => none
noncomputable def E180 : Fun2 := fun args bs rs =>
  match args, bs, rs with
  | [.s1 (.one (.sl 0))], [], [⟨158, (.pair (.int .i64) (.pair (.int .i64) (.int .i64))), a1, .ro⟩] => some ⟨(List (Int × Int × Int)), G.slices.Clone_Rec a1, R180⟩
  | _, _, _ => none
theorem ev180 (a1 : List (Int × Int × Int)) : evF Try.prog G180 loopNil (0, 0) [] Try.f180 c180 [vl 0] [] [⟨158, (.pair (.int .i64) (.pair (.int .i64) (.int .i64))), a1, .ro⟩] K180 = G.slices.Clone_Rec a1 := by kernel_rfl
theorem good180 : Vm.Good Try.prog 180 E180 := by
  refine evF_good (G := G180) (c := c180) envNil_good Try.func180 (by kernel_rfl) (by kernel_rfl) (0, 0) (fun args bs rs out t h h2 => ?_)
  unfold E180 at h
  split at h
  · injection h with h
    subst h
    exact ⟨rfl, [], loopNil, K180, (by intro x hx; simp [show loopsOf c180 = [] from by kernel_rfl] at hx), (fun r t h => by unfold K180 at h; split at h; (injection h with h; subst h; rfl); cases h), (ev180 _).trans h2⟩
  · cases h
/-! ### I.Box_copied -/
noncomputable def G99 : Env := (envCons 179 [] E179 (envCons 180 [] E180 envNil))
noncomputable def c99 : Code := bodyOf Try.f99
noncomputable def I.Box_copied (a1 a2 a3 a4 : Int) (a5 : List (Int × Int × Int × Int × Int × Int × Int × Int × List Int × Bool)) (a6 : List (Int × Int × Int)) : Option (Int × Int × Int × Int × (List (Int × Int × Int × Int × Int × Int × Int × Int × List Int × Bool)) × (List (Int × Int × Int))) :=
(Option.bind (I.items a5) fun r7 =>
(Option.bind (G.slices.Clone_Rec a6) fun r8 =>
(some (a1, a2, a3, a4, r7, r8))))
noncomputable def R99 (x : Int × Int × Int × Int × (List (Int × Int × Int × Int × Int × Int × Int × Int × List Int × Bool)) × (List (Int × Int × Int))) : Res := ⟨[.agg [ai x.1, ai x.2.1, ai x.2.2.1, ai x.2.2.2.1, .sl 0, .sl 1]], [], [⟨146, (.pair (.int .i64) (.pair (.int .i64) (.pair (.int .i64) (.pair (.int .i64) (.pair (.int .i64) (.pair (.int .i64) (.pair (.int .i64) (.pair (.int .i64) (.pair (.sl 3 (.int .i64)) .bool))))))))), x.2.2.2.2.1, .own⟩, ⟨158, (.pair (.int .i64) (.pair (.int .i64) (.int .i64))), x.2.2.2.2.2, .own⟩]⟩
noncomputable def K99 (r : Res) : Option (Int × Int × Int × Int × (List (Int × Int × Int × Int × Int × Int × Int × Int × List Int × Bool)) × (List (Int × Int × Int))) :=
  match r with
  | ⟨[.agg [.val (.int .i64 v1), .val (.int .i64 v2), .val (.int .i64 v3), .val (.int .i64 v4), .sl 0, .sl 1]], [], [⟨146, (.pair (.int .i64) (.pair (.int .i64) (.pair (.int .i64) (.pair (.int .i64) (.pair (.int .i64) (.pair (.int .i64) (.pair (.int .i64) (.pair (.int .i64) (.pair (.sl 3 (.int .i64)) .bool))))))))), v5, .own⟩, ⟨158, (.pair (.int .i64) (.pair (.int .i64) (.int .i64))), v6, .own⟩]⟩ => some (v1, v2, v3, v4, v5, v6)
  | _ => none
noncomputable def E99 : Fun2 := fun args bs rs =>
  match args, bs, rs with
  | [.s1 (.agg [.val (.int .i64 a1), .val (.int .i64 a2), .val (.int .i64 a3), .val (.int .i64 a4), .sl 0, .sl 1])], [], [⟨146, (.pair (.int .i64) (.pair (.int .i64) (.pair (.int .i64) (.pair (.int .i64) (.pair (.int .i64) (.pair (.int .i64) (.pair (.int .i64) (.pair (.int .i64) (.pair (.sl 3 (.int .i64)) .bool))))))))), a5, .ro⟩, ⟨158, (.pair (.int .i64) (.pair (.int .i64) (.int .i64))), a6, .ro⟩] => some ⟨Int × Int × Int × Int × (List (Int × Int × Int × Int × Int × Int × Int × Int × List Int × Bool)) × (List (Int × Int × Int)), I.Box_copied a1 a2 a3 a4 a5 a6, R99⟩
  | _, _, _ => none
theorem ev99 (a1 a2 a3 a4 : Int) (a5 : List (Int × Int × Int × Int × Int × Int × Int × Int × List Int × Bool)) (a6 : List (Int × Int × Int)) : evF Try.prog G99 loopNil (0, 0) [] Try.f99 c99 [.s1 (.agg [ai a1, ai a2, ai a3, ai a4, .sl 0, .sl 1])] [] [⟨146, (.pair (.int .i64) (.pair (.int .i64) (.pair (.int .i64) (.pair (.int .i64) (.pair (.int .i64) (.pair (.int .i64) (.pair (.int .i64) (.pair (.int .i64) (.pair (.sl 3 (.int .i64)) .bool))))))))), a5, .ro⟩, ⟨158, (.pair (.int .i64) (.pair (.int .i64) (.int .i64))), a6, .ro⟩] K99 = I.Box_copied a1 a2 a3 a4 a5 a6 := by kernel_rfl
theorem good99 : Vm.Good Try.prog 99 E99 := by
  refine evF_good (G := G99) (c := c99) (envCons_good good179 (envCons_good good180 envNil_good)) Try.func99 (by kernel_rfl) (by kernel_rfl) (0, 0) (fun args bs rs out t h h2 => ?_)
  unfold E99 at h
  split at h
  · injection h with h
    subst h
    exact ⟨rfl, [], loopNil, K99, (by intro x hx; simp [show loopsOf c99 = [] from by kernel_rfl] at hx), (fun r t h => by unfold K99 at h; split at h; (injection h with h; subst h; rfl); cases h), (ev99 _ _ _ _ _ _).trans h2⟩
  · cases h
/-! ### I.Box_put -/
noncomputable def G133 : Env := (envCons 155 [] E155 envNil)
noncomputable def c133 : Code := bodyOf Try.f133
noncomputable def I.Box_put (a1 a2 a3 a4 a5 a6 : Int) (a7 : Bool) (a8 a9 a10 a11 a12 : Int) (a13 : List (Int × Int × Int × Int × Int × Int × Int × Int × List Int × Bool)) (a14 : List (Int × Int × Int)) (a15 : List Int) : Option (Bool × Int × Int × Int × Int × (List (Int × Int × Int × Int × Int × Int × Int × Int × List Int × Bool)) × (List (Int × Int × Int)) × (List (Int × Int × Int × Int × Int × Int × Int × Int × List Int × Bool)) × (List (Int × Int × Int))) :=
(bif (decide (a9 ≤ (a13.length : Int))) then
(let v18 : Int := (IntKind.wrap .i64 (a12 + 1))
(some ((decide (v18 ≤ 1000000)), a9, a10, a11, v18, a13, a14, a13, a14)))
else
(bif (decide (a10 ≤ (a14.length : Int))) then
(let v22 : Int := (IntKind.wrap .i64 (a12 + 1))
(some ((decide (v22 ≤ 1000000)), a9, a10, a11, v22, a13, a14, a13, a14)))
else
(Option.bind (I.Pane_copied a1 a2 a3 a4 a5 a6 a7 a15) fun r24 =>
(let v25 : List (Int × Int × Int × Int × Int × Int × Int × Int × List Int × Bool) := [(a11, (a8, (r24.1, (r24.2.1, (r24.2.2.1, (r24.2.2.2.1, (r24.2.2.2.2.1, (r24.2.2.2.2.2.1, (r24.2.2.2.2.2.2.2, r24.2.2.2.2.2.2.1)))))))))]
(bif decide ((a13.length + v25.length) * 96 ≤ 140737488355328) then
(let v26 : List (Int × Int × Int) := [(a11, (a8, a5))]
(bif decide ((a14.length + v26.length) * 24 ≤ 140737488355328) then
(let v27 : Int := (IntKind.wrap .i64 (a11 + 1))
(some ((decide (v27 ≤ 1000000)), a9, a10, v27, a12, a13, a14, (a13 ++ v25), (a14 ++ v26))))
else
none))
else
none)))))
noncomputable def R133 (x : Bool × Int × Int × Int × Int × (List (Int × Int × Int × Int × Int × Int × Int × Int × List Int × Bool)) × (List (Int × Int × Int)) × (List (Int × Int × Int × Int × Int × Int × Int × Int × List Int × Bool)) × (List (Int × Int × Int))) : Res := ⟨[.one (ab x.1)], [(31, [ai x.2.1, ai x.2.2.1, ai x.2.2.2.1, ai x.2.2.2.2.1, .sl 2, .sl 3])], [⟨146, (.pair (.int .i64) (.pair (.int .i64) (.pair (.int .i64) (.pair (.int .i64) (.pair (.int .i64) (.pair (.int .i64) (.pair (.int .i64) (.pair (.int .i64) (.pair (.sl 3 (.int .i64)) .bool))))))))), x.2.2.2.2.2.1, .dead⟩, ⟨158, (.pair (.int .i64) (.pair (.int .i64) (.int .i64))), x.2.2.2.2.2.2.1, .dead⟩, ⟨146, (.pair (.int .i64) (.pair (.int .i64) (.pair (.int .i64) (.pair (.int .i64) (.pair (.int .i64) (.pair (.int .i64) (.pair (.int .i64) (.pair (.int .i64) (.pair (.sl 3 (.int .i64)) .bool))))))))), x.2.2.2.2.2.2.2.1, .own⟩, ⟨158, (.pair (.int .i64) (.pair (.int .i64) (.int .i64))), x.2.2.2.2.2.2.2.2, .own⟩]⟩
noncomputable def K133 (r : Res) : Option (Bool × Int × Int × Int × Int × (List (Int × Int × Int × Int × Int × Int × Int × Int × List Int × Bool)) × (List (Int × Int × Int)) × (List (Int × Int × Int × Int × Int × Int × Int × Int × List Int × Bool)) × (List (Int × Int × Int))) :=
  match r with
  | ⟨[.one (.val (.bool v1))], [(31, [.val (.int .i64 v2), .val (.int .i64 v3), .val (.int .i64 v4), .val (.int .i64 v5), .sl 2, .sl 3])], [⟨146, (.pair (.int .i64) (.pair (.int .i64) (.pair (.int .i64) (.pair (.int .i64) (.pair (.int .i64) (.pair (.int .i64) (.pair (.int .i64) (.pair (.int .i64) (.pair (.sl 3 (.int .i64)) .bool))))))))), v6, .dead⟩, ⟨158, (.pair (.int .i64) (.pair (.int .i64) (.int .i64))), v7, .dead⟩, ⟨146, (.pair (.int .i64) (.pair (.int .i64) (.pair (.int .i64) (.pair (.int .i64) (.pair (.int .i64) (.pair (.int .i64) (.pair (.int .i64) (.pair (.int .i64) (.pair (.sl 3 (.int .i64)) .bool))))))))), v8, .own⟩, ⟨158, (.pair (.int .i64) (.pair (.int .i64) (.int .i64))), v9, .own⟩]⟩ => some (v1, v2, v3, v4, v5, v6, v7, v8, v9)
  | _ => none
noncomputable def E133 : Fun2 := fun args bs rs =>
  match args, bs, rs with
  | [.s1 (.one (.ptr 0 0)), .s1 (.agg [.val (.int .i64 a1), .val (.int .i64 a2), .val (.int .i64 a3), .val (.int .i64 a4), .val (.int .i64 a5), .val (.int .i64 a6), .sl 2, .val (.bool a7)]), .s1 (.one (.val (.int .i64 a8)))], [(31, [.val (.int .i64 a9), .val (.int .i64 a10), .val (.int .i64 a11), .val (.int .i64 a12), .sl 0, .sl 1])], [⟨146, (.pair (.int .i64) (.pair (.int .i64) (.pair (.int .i64) (.pair (.int .i64) (.pair (.int .i64) (.pair (.int .i64) (.pair (.int .i64) (.pair (.int .i64) (.pair (.sl 3 (.int .i64)) .bool))))))))), a13, .own⟩, ⟨158, (.pair (.int .i64) (.pair (.int .i64) (.int .i64))), a14, .own⟩, ⟨3, (.int .i64), a15, .ro⟩] => some ⟨Bool × Int × Int × Int × Int × (List (Int × Int × Int × Int × Int × Int × Int × Int × List Int × Bool)) × (List (Int × Int × Int)) × (List (Int × Int × Int × Int × Int × Int × Int × Int × List Int × Bool)) × (List (Int × Int × Int)), I.Box_put a1 a2 a3 a4 a5 a6 a7 a8 a9 a10 a11 a12 a13 a14 a15, R133⟩
  | _, _, _ => none
theorem ev133 (a1 a2 a3 a4 a5 a6 : Int) (a7 : Bool) (a8 a9 a10 a11 a12 : Int) (a13 : List (Int × Int × Int × Int × Int × Int × Int × Int × List Int × Bool)) (a14 : List (Int × Int × Int)) (a15 : List Int) : evF Try.prog G133 loopNil (1, 2) [0, 1] Try.f133 c133 [vp 0 0, .s1 (.agg [ai a1, ai a2, ai a3, ai a4, ai a5, ai a6, .sl 2, ab a7]), vi a8] [(31, [ai a9, ai a10, ai a11, ai a12, .sl 0, .sl 1])] [⟨146, (.pair (.int .i64) (.pair (.int .i64) (.pair (.int .i64) (.pair (.int .i64) (.pair (.int .i64) (.pair (.int .i64) (.pair (.int .i64) (.pair (.int .i64) (.pair (.sl 3 (.int .i64)) .bool))))))))), a13, .own⟩, ⟨158, (.pair (.int .i64) (.pair (.int .i64) (.int .i64))), a14, .own⟩, ⟨3, (.int .i64), a15, .ro⟩] K133 = I.Box_put a1 a2 a3 a4 a5 a6 a7 a8 a9 a10 a11 a12 a13 a14 a15 := by kernel_rfl
theorem good133 : Vm.Good Try.prog 133 E133 := by
  refine evF_good (G := G133) (c := c133) (envCons_good good155 envNil_good) Try.func133 (by kernel_rfl) (by kernel_rfl) (1, 2) (fun args bs rs out t h h2 => ?_)
  unfold E133 at h
  split at h
  · injection h with h
    subst h
    exact ⟨rfl, [0, 1], loopNil, K133, (by intro x hx; simp [show loopsOf c133 = [] from by kernel_rfl] at hx), (fun r t h => by unfold K133 at h; split at h; (injection h with h; subst h; rfl); cases h), (ev133 _ _ _ _ _ _ _ _ _ _ _ _ _ _ _).trans h2⟩
  · cases h
/-! ### I.BoxPuts -/
noncomputable def G60 : Env := (envCons 93 [] E93 (envCons 99 [] E99 (envCons 131 [] E131 (envCons 132 [] E132 (envCons 133 [] E133 envNil)))))
noncomputable def c60 : Code := bodyOf Try.f60
noncomputable def c60_5 : Code := (loopsOf c60).getD 0 .skip
noncomputable def I.BoxPuts_l0 : Nat → (Bool → Int → Int → Int → Int → Int → Int → Int → Int → (List (Int × Int × Int × Int × Int × Int × Int × Int × List Int × Bool)) → (List (Int × Int × Int)) → Option (Int × Int × Int × Int × Bool × (List (Int × Int × Int × Int × Int × Int × Int × Int × List Int × Bool)) × (List (Int × Int × Int)))) → (Int → Int → Int → Int → Int → Int → Int → Int → (List (Int × Int × Int × Int × Int × Int × Int × Int × List Int × Bool)) → (List (Int × Int × Int)) → Option (Int × Int × Int × Int × Bool × (List (Int × Int × Int × Int × Int × Int × Int × Int × List Int × Bool)) × (List (Int × Int × Int)))) → Int → Int → Int → Int → Int → Int → Int → Int → Int → Int → Int → (List (Int × Int × Int × Int × Int × Int × List Int × Bool)) → (List (Int × Int × Int × Int × Int × Int × Int × Int × List Int × Bool)) → (List (Int × Int × Int)) → Option (Int × Int × Int × Int × Bool × (List (Int × Int × Int × Int × Int × Int × Int × Int × List Int × Bool)) × (List (Int × Int × Int)))
  | 0, _, _, _, _, _, _, _, _, _, _, _, _, _, _, _, _ => none
  | m + 1, e5_0, e5_1, a12, a13, a14, a15, a16, a17, a18, a19, a20, a21, a22, a23, a24, a25 =>
    (bif (decide (a14 < a13)) then
    (bif decide ((0 : Int) ≤ a14 ∧ a14 < (a23.length : Int)) then
    (Option.bind (I.isPane ((nthI a23 a14 ((0 : Int), ((0 : Int), ((0 : Int), ((0 : Int), ((0 : Int), ((0 : Int), ([], false)))))))).1) ((nthI a23 a14 ((0 : Int), ((0 : Int), ((0 : Int), ((0 : Int), ((0 : Int), ((0 : Int), ([], false)))))))).2.1) ((nthI a23 a14 ((0 : Int), ((0 : Int), ((0 : Int), ((0 : Int), ((0 : Int), ((0 : Int), ([], false)))))))).2.2.1) ((nthI a23 a14 ((0 : Int), ((0 : Int), ((0 : Int), ((0 : Int), ((0 : Int), ((0 : Int), ([], false)))))))).2.2.2.1) ((nthI a23 a14 ((0 : Int), ((0 : Int), ((0 : Int), ((0 : Int), ((0 : Int), ((0 : Int), ([], false)))))))).2.2.2.2.1) ((nthI a23 a14 ((0 : Int), ((0 : Int), ((0 : Int), ((0 : Int), ((0 : Int), ((0 : Int), ([], false)))))))).2.2.2.2.2.1) ((nthI a23 a14 ((0 : Int), ((0 : Int), ((0 : Int), ((0 : Int), ((0 : Int), ((0 : Int), ([], false)))))))).2.2.2.2.2.2.2) ((nthI a23 a14 ((0 : Int), ((0 : Int), ((0 : Int), ((0 : Int), ((0 : Int), ((0 : Int), ([], false)))))))).2.2.2.2.2.2.1)) fun r27 =>
    (bif (!r27) then
    (e5_0 false 0 0 0 0 a19 a20 a21 a22 a24 a25)
    else
    (Option.bind (I.isRuleNumber a12) fun r28 =>
    (bif (!r28) then
    (e5_0 false 0 0 0 0 a19 a20 a21 a22 a24 a25)
    else
    (Option.bind (I.Box_put ((nthI a23 a14 ((0 : Int), ((0 : Int), ((0 : Int), ((0 : Int), ((0 : Int), ((0 : Int), ([], false)))))))).1) ((nthI a23 a14 ((0 : Int), ((0 : Int), ((0 : Int), ((0 : Int), ((0 : Int), ((0 : Int), ([], false)))))))).2.1) ((nthI a23 a14 ((0 : Int), ((0 : Int), ((0 : Int), ((0 : Int), ((0 : Int), ((0 : Int), ([], false)))))))).2.2.1) ((nthI a23 a14 ((0 : Int), ((0 : Int), ((0 : Int), ((0 : Int), ((0 : Int), ((0 : Int), ([], false)))))))).2.2.2.1) ((nthI a23 a14 ((0 : Int), ((0 : Int), ((0 : Int), ((0 : Int), ((0 : Int), ((0 : Int), ([], false)))))))).2.2.2.2.1) ((nthI a23 a14 ((0 : Int), ((0 : Int), ((0 : Int), ((0 : Int), ((0 : Int), ((0 : Int), ([], false)))))))).2.2.2.2.2.1) ((nthI a23 a14 ((0 : Int), ((0 : Int), ((0 : Int), ((0 : Int), ((0 : Int), ((0 : Int), ([], false)))))))).2.2.2.2.2.2.2) a12 a19 a20 a21 a22 a24 a25 ((nthI a23 a14 ((0 : Int), ((0 : Int), ((0 : Int), ((0 : Int), ((0 : Int), ((0 : Int), ([], false)))))))).2.2.2.2.2.2.1)) fun r29 =>
    (bif (!r29.1) then
    (e5_0 false 0 0 0 0 r29.2.1 r29.2.2.1 r29.2.2.2.1 r29.2.2.2.2.1 r29.2.2.2.2.2.2.2.1 r29.2.2.2.2.2.2.2.2)
    else
    (I.BoxPuts_l0 m e5_0 e5_1 a12 a13 (IntKind.wrap .i64 (a14 + 1)) a15 a16 a17 a18 r29.2.1 r29.2.2.1 r29.2.2.2.1 r29.2.2.2.2.1 a23 r29.2.2.2.2.2.2.2.1 r29.2.2.2.2.2.2.2.2)))))))
    else
    none)
    else
    (e5_1 a15 a16 a17 a18 a19 a20 a21 a22 a24 a25))
noncomputable def I.BoxPuts (a1 a2 a3 a4 a5 : Int) (a6 : List (Int × Int × Int × Int × Int × Int × Int × Int × List Int × Bool)) (a7 : List (Int × Int × Int)) (a8 : List (Int × Int × Int × Int × Int × Int × List Int × Bool)) : Option (Int × Int × Int × Int × Bool × (List (Int × Int × Int × Int × Int × Int × Int × Int × List Int × Bool)) × (List (Int × Int × Int))) :=
(Option.bind (I.isBox a1 a2 a3 a4 a6 a7) fun r9 =>
(bif (!r9) then
(some (0, 0, 0, 0, false, [], []))
else
(Option.bind (I.Box_copied a1 a2 a3 a4 a6 a7) fun r10 =>
(I.BoxPuts_l0 fu (fun y31 y32 y33 y34 y35 y36 y37 y38 y39 y40 y41 =>
(some (y32, y33, y34, y35, y31, [], []))) (fun y42 y43 y44 y45 y46 y47 y48 y49 y50 y51 =>
(some (y46, y47, y48, y49, true, y50, y51))) a5 (a8.length : Int) 0 0 0 0 0 r10.1 r10.2.1 r10.2.2.1 r10.2.2.2.1 a8 r10.2.2.2.2.1 r10.2.2.2.2.2))))
noncomputable def H60_5 : LoopH := ⟨⟨(hu 2 (hh :: (hu 3 ((.one (.ptr 0 0)) :: (.one (.unk)) :: (.one (.ptr 1 0)) :: (hu 8 ((.one (.sl 0)) :: hh :: hh :: (hu 20 []))))))), [(31, [.hole, .hole, .hole, .hole, .hole, .hole]), (31, [.hole, .hole, .hole, .hole, .sl 1, .sl 2])], [(68, (.pair (.int .i64) (.pair (.int .i64) (.pair (.int .i64) (.pair (.int .i64) (.pair (.int .i64) (.pair (.int .i64) (.pair (.sl 3 (.int .i64)) .bool))))))), .ro), (146, (.pair (.int .i64) (.pair (.int .i64) (.pair (.int .i64) (.pair (.int .i64) (.pair (.int .i64) (.pair (.int .i64) (.pair (.int .i64) (.pair (.int .i64) (.pair (.sl 3 (.int .i64)) .bool))))))))), .own), (158, (.pair (.int .i64) (.pair (.int .i64) (.int .i64))), .own)]⟩, [0, 1, 3, 4, 5, 7, 9, 10, 11, 12, 13, 14, 15, 16, 20, 21, 22, 23, 24, 25, 26, 27, 28, 29, 30, 31, 32, 33, 34, 35, 36, 37, 38, 39], [], [0, 1, 2, 3, 4, 5, 9, 10, 11, 12, 13, 14, 15, 16, 17, 18, 19, 20, 21, 22, 23, 24, 25, 26, 27, 28, 29, 30, 31, 32, 33, 34, 35, 36, 37, 38, 39], []⟩
noncomputable def E60_5 (m : Nat) (ps : List Prm) (k : Kont (Int × Int × Int × Int × Bool × (List (Int × Int × Int × Int × Int × Int × Int × Int × List Int × Bool)) × (List (Int × Int × Int)))) : Option (Int × Int × Int × Int × Bool × (List (Int × Int × Int × Int × Int × Int × Int × Int × List Int × Bool)) × (List (Int × Int × Int))) :=
  match ps with
  | [.v (.int .i64 a12), .v (.int .i64 a13), .v (.int .i64 a14), .v (.int .i64 a15), .v (.int .i64 a16), .v (.int .i64 a17), .v (.int .i64 a18), .v (.slice none 0 0), .v (.slice none 0 0), .v (.int .i64 a19), .v (.int .i64 a20), .v (.int .i64 a21), .v (.int .i64 a22), .row (.pair (.int .i64) (.pair (.int .i64) (.pair (.int .i64) (.pair (.int .i64) (.pair (.int .i64) (.pair (.int .i64) (.pair (.sl 3 (.int .i64)) .bool))))))) a23, .row (.pair (.int .i64) (.pair (.int .i64) (.pair (.int .i64) (.pair (.int .i64) (.pair (.int .i64) (.pair (.int .i64) (.pair (.int .i64) (.pair (.int .i64) (.pair (.sl 3 (.int .i64)) .bool))))))))) a24, .row (.pair (.int .i64) (.pair (.int .i64) (.int .i64))) a25] => I.BoxPuts_l0 m (fun z73 z74 z75 z76 z77 z78 z79 z80 z81 z82 z83 => k .ret (⟨(vu 6 ((vp 0 0) :: (vb z73) :: (vp 1 0) :: (vu 31 []))), [(31, [ai z74, ai z75, ai z76, ai z77, .val (.slice none 0 0), .val (.slice none 0 0)]), (31, [ai z78, ai z79, ai z80, ai z81, .sl 0, .sl 1])], [⟨146, (.pair (.int .i64) (.pair (.int .i64) (.pair (.int .i64) (.pair (.int .i64) (.pair (.int .i64) (.pair (.int .i64) (.pair (.int .i64) (.pair (.int .i64) (.pair (.sl 3 (.int .i64)) .bool))))))))), z82, .own⟩, ⟨158, (.pair (.int .i64) (.pair (.int .i64) (.int .i64))), z83, .own⟩]⟩ : St)) (fun z84 z85 z86 z87 z88 z89 z90 z91 z92 z93 => k (.exit 0) (⟨(vu 6 ((vp 0 0) :: (.s1 (.one (.unk))) :: (vp 1 0) :: (vu 31 []))), [(31, [ai z84, ai z85, ai z86, ai z87, .val (.slice none 0 0), .val (.slice none 0 0)]), (31, [ai z88, ai z89, ai z90, ai z91, .sl 0, .sl 1])], [⟨146, (.pair (.int .i64) (.pair (.int .i64) (.pair (.int .i64) (.pair (.int .i64) (.pair (.int .i64) (.pair (.int .i64) (.pair (.int .i64) (.pair (.int .i64) (.pair (.sl 3 (.int .i64)) .bool))))))))), z92, .own⟩, ⟨158, (.pair (.int .i64) (.pair (.int .i64) (.int .i64))), z93, .own⟩]⟩ : St)) a12 a13 a14 a15 a16 a17 a18 a19 a20 a21 a22 a23 a24 a25
  | _ => none
noncomputable def S60_5 (a12 a13 a14 a15 a16 a17 a18 a19 a20 a21 a22 : Int) (a23 : List (Int × Int × Int × Int × Int × Int × List Int × Bool)) (a24 : List (Int × Int × Int × Int × Int × Int × Int × Int × List Int × Bool)) (a25 : List (Int × Int × Int)) : St := (⟨(vu 2 ((vi a12) :: (vu 3 ((vp 0 0) :: (.s1 (.one (.unk))) :: (vp 1 0) :: (vu 8 ((vl 0) :: (vi a13) :: (vi a14) :: (vu 20 []))))))), [(31, [ai a15, ai a16, ai a17, ai a18, .val (.slice none 0 0), .val (.slice none 0 0)]), (31, [ai a19, ai a20, ai a21, ai a22, .sl 1, .sl 2])], [⟨68, (.pair (.int .i64) (.pair (.int .i64) (.pair (.int .i64) (.pair (.int .i64) (.pair (.int .i64) (.pair (.int .i64) (.pair (.sl 3 (.int .i64)) .bool))))))), a23, .ro⟩, ⟨146, (.pair (.int .i64) (.pair (.int .i64) (.pair (.int .i64) (.pair (.int .i64) (.pair (.int .i64) (.pair (.int .i64) (.pair (.int .i64) (.pair (.int .i64) (.pair (.sl 3 (.int .i64)) .bool))))))))), a24, .own⟩, ⟨158, (.pair (.int .i64) (.pair (.int .i64) (.int .i64))), a25, .own⟩]⟩ : St)
theorem ev60_5 (m : Nat) (k : Kont (Int × Int × Int × Int × Bool × (List (Int × Int × Int × Int × Int × Int × Int × Int × List Int × Bool)) × (List (Int × Int × Int)))) (a12 a13 a14 a15 a16 a17 a18 a19 a20 a21 a22 : Int) (a23 : List (Int × Int × Int × Int × Int × Int × List Int × Bool)) (a24 : List (Int × Int × Int × Int × Int × Int × Int × Int × List Int × Bool)) (a25 : List (Int × Int × Int)) : evC Try.prog G60 loopNil c60_5 (S60_5 a12 a13 a14 a15 a16 a17 a18 a19 a20 a21 a22 a23 a24 a25) (turn Try.prog (0, 0) H60_5 (E60_5 m) k) = E60_5 (m + 1) [.v (.int .i64 a12), .v (.int .i64 a13), .v (.int .i64 a14), .v (.int .i64 a15), .v (.int .i64 a16), .v (.int .i64 a17), .v (.int .i64 a18), .v (.slice none 0 0), .v (.slice none 0 0), .v (.int .i64 a19), .v (.int .i64 a20), .v (.int .i64 a21), .v (.int .i64 a22), .row (.pair (.int .i64) (.pair (.int .i64) (.pair (.int .i64) (.pair (.int .i64) (.pair (.int .i64) (.pair (.int .i64) (.pair (.sl 3 (.int .i64)) .bool))))))) a23, .row (.pair (.int .i64) (.pair (.int .i64) (.pair (.int .i64) (.pair (.int .i64) (.pair (.int .i64) (.pair (.int .i64) (.pair (.int .i64) (.pair (.int .i64) (.pair (.sl 3 (.int .i64)) .bool))))))))) a24, .row (.pair (.int .i64) (.pair (.int .i64) (.int .i64))) a25] k := by kernel_rfl
theorem ok60_5 (m : Nat) : LoopOk Try.prog (0, 0) c60_5 (enter Try.prog (0, 0) H60_5 (E60_5 m)) := by
  refine loop_ok (G := G60) (L := loopNil) (envCons_good good93 (envCons_good good99 (envCons_good good131 (envCons_good good132 (envCons_good good133 envNil_good))))) (by intro x hx; simp [show loopsOf c60_5 = [] from by kernel_rfl] at hx) (fun ps k => by unfold E60_5; split <;> rfl) (fun m ps k r h => ?_) m
  have h0 := h
  unfold E60_5 at h
  split at h
  · exact ⟨S60_5 _ _ _ _ _ _ _ _ _ _ _ _ _ _, by kernel_rfl, (ev60_5 m k _ _ _ _ _ _ _ _ _ _ _ _ _ _).trans h0⟩
  · cases h
noncomputable def L60 : LEnv (Int × Int × Int × Int × Bool × (List (Int × Int × Int × Int × Int × Int × Int × Int × List Int × Bool)) × (List (Int × Int × Int))) := (loopCons 5 (enter Try.prog (0, 0) H60_5 (E60_5 fu)) loopNil)
theorem lq60 : loopsOf c60 = [c60_5] := by kernel_rfl
theorem fr60_5 : firstReg c60_5 = some 5 := by kernel_rfl
theorem le60_5 : L60 5 = enter Try.prog (0, 0) H60_5 (E60_5 fu) := by kernel_rfl
theorem lm60 : ∀ x ∈ [c60_5], ∀ id, firstReg x = some id → LoopOk Try.prog (0, 0) x (L60 id) := (loops_cons fr60_5 le60_5 (ok60_5 fu) loops_nil)
theorem lp60 : ∀ x ∈ loopsOf c60, ∀ id, firstReg x = some id → LoopOk Try.prog (0, 0) x (L60 id) := loops_eq lq60 lm60
noncomputable def R60 (x : Int × Int × Int × Int × Bool × (List (Int × Int × Int × Int × Int × Int × Int × Int × List Int × Bool)) × (List (Int × Int × Int))) : Res := ⟨[.agg [ai x.1, ai x.2.1, ai x.2.2.1, ai x.2.2.2.1, .sl 0, .sl 1], .one (ab x.2.2.2.2.1)], [], [⟨146, (.pair (.int .i64) (.pair (.int .i64) (.pair (.int .i64) (.pair (.int .i64) (.pair (.int .i64) (.pair (.int .i64) (.pair (.int .i64) (.pair (.int .i64) (.pair (.sl 3 (.int .i64)) .bool))))))))), x.2.2.2.2.2.1, .own⟩, ⟨158, (.pair (.int .i64) (.pair (.int .i64) (.int .i64))), x.2.2.2.2.2.2, .own⟩]⟩
noncomputable def K60 (r : Res) : Option (Int × Int × Int × Int × Bool × (List (Int × Int × Int × Int × Int × Int × Int × Int × List Int × Bool)) × (List (Int × Int × Int))) :=
  match r with
  | ⟨[.agg [.val (.int .i64 v1), .val (.int .i64 v2), .val (.int .i64 v3), .val (.int .i64 v4), .sl 0, .sl 1], .one (.val (.bool v5))], [], [⟨146, (.pair (.int .i64) (.pair (.int .i64) (.pair (.int .i64) (.pair (.int .i64) (.pair (.int .i64) (.pair (.int .i64) (.pair (.int .i64) (.pair (.int .i64) (.pair (.sl 3 (.int .i64)) .bool))))))))), v6, .own⟩, ⟨158, (.pair (.int .i64) (.pair (.int .i64) (.int .i64))), v7, .own⟩]⟩ => some (v1, v2, v3, v4, v5, v6, v7)
  | _ => none
noncomputable def E60 : Fun2 := fun args bs rs =>
  match args, bs, rs with
  | [.s1 (.agg [.val (.int .i64 a1), .val (.int .i64 a2), .val (.int .i64 a3), .val (.int .i64 a4), .sl 0, .sl 1]), .s1 (.one (.sl 2)), .s1 (.one (.val (.int .i64 a5)))], [], [⟨146, (.pair (.int .i64) (.pair (.int .i64) (.pair (.int .i64) (.pair (.int .i64) (.pair (.int .i64) (.pair (.int .i64) (.pair (.int .i64) (.pair (.int .i64) (.pair (.sl 3 (.int .i64)) .bool))))))))), a6, .ro⟩, ⟨158, (.pair (.int .i64) (.pair (.int .i64) (.int .i64))), a7, .ro⟩, ⟨68, (.pair (.int .i64) (.pair (.int .i64) (.pair (.int .i64) (.pair (.int .i64) (.pair (.int .i64) (.pair (.int .i64) (.pair (.sl 3 (.int .i64)) .bool))))))), a8, .ro⟩] => some ⟨Int × Int × Int × Int × Bool × (List (Int × Int × Int × Int × Int × Int × Int × Int × List Int × Bool)) × (List (Int × Int × Int)), I.BoxPuts a1 a2 a3 a4 a5 a6 a7 a8, R60⟩
  | _, _, _ => none
theorem ev60 (a1 a2 a3 a4 a5 : Int) (a6 : List (Int × Int × Int × Int × Int × Int × Int × Int × List Int × Bool)) (a7 : List (Int × Int × Int)) (a8 : List (Int × Int × Int × Int × Int × Int × List Int × Bool)) : evF Try.prog G60 L60 (0, 0) [] Try.f60 c60 [.s1 (.agg [ai a1, ai a2, ai a3, ai a4, .sl 0, .sl 1]), vl 2, vi a5] [] [⟨146, (.pair (.int .i64) (.pair (.int .i64) (.pair (.int .i64) (.pair (.int .i64) (.pair (.int .i64) (.pair (.int .i64) (.pair (.int .i64) (.pair (.int .i64) (.pair (.sl 3 (.int .i64)) .bool))))))))), a6, .ro⟩, ⟨158, (.pair (.int .i64) (.pair (.int .i64) (.int .i64))), a7, .ro⟩, ⟨68, (.pair (.int .i64) (.pair (.int .i64) (.pair (.int .i64) (.pair (.int .i64) (.pair (.int .i64) (.pair (.int .i64) (.pair (.sl 3 (.int .i64)) .bool))))))), a8, .ro⟩] K60 = I.BoxPuts a1 a2 a3 a4 a5 a6 a7 a8 := by kernel_rfl
theorem good60 : Vm.Good Try.prog 60 E60 := by
  refine evF_good (G := G60) (c := c60) (envCons_good good93 (envCons_good good99 (envCons_good good131 (envCons_good good132 (envCons_good good133 envNil_good))))) Try.func60 (by kernel_rfl) (by kernel_rfl) (0, 0) (fun args bs rs out t h h2 => ?_)
  unfold E60 at h
  split at h
  · injection h with h
    subst h
    exact ⟨rfl, [], L60, K60, lp60, (fun r t h => by unfold K60 at h; split at h; (injection h with h; subst h; rfl); cases h), (ev60 _ _ _ _ _ _ _ _).trans h2⟩
  · cases h
/-! ### I.BoxPut -/
noncomputable def G45 : Env := (envCons 60 [] E60 envNil)
noncomputable def c45 : Code := bodyOf Try.f45
noncomputable def I.BoxPut (a1 a2 a3 a4 a5 a6 a7 a8 a9 a10 : Int) (a11 : Bool) (a12 : Int) (a13 : List (Int × Int × Int × Int × Int × Int × Int × Int × List Int × Bool)) (a14 : List (Int × Int × Int)) (a15 : List Int) : Option (Int × Int × Int × Int × Bool × (List (Int × Int × Int × Int × Int × Int × Int × Int × List Int × Bool)) × (List (Int × Int × Int))) :=
(Option.bind (I.BoxPuts a1 a2 a3 a4 a12 a13 a14 [(a5, (a6, (a7, (a8, (a9, (a10, (a15, a11)))))))]) fun r17 =>
(some (r17.1, r17.2.1, r17.2.2.1, r17.2.2.2.1, r17.2.2.2.2.1, r17.2.2.2.2.2.1, r17.2.2.2.2.2.2)))
noncomputable def R45 (x : Int × Int × Int × Int × Bool × (List (Int × Int × Int × Int × Int × Int × Int × Int × List Int × Bool)) × (List (Int × Int × Int))) : Res := ⟨[.agg [ai x.1, ai x.2.1, ai x.2.2.1, ai x.2.2.2.1, .sl 0, .sl 1], .one (ab x.2.2.2.2.1)], [], [⟨146, (.pair (.int .i64) (.pair (.int .i64) (.pair (.int .i64) (.pair (.int .i64) (.pair (.int .i64) (.pair (.int .i64) (.pair (.int .i64) (.pair (.int .i64) (.pair (.sl 3 (.int .i64)) .bool))))))))), x.2.2.2.2.2.1, .own⟩, ⟨158, (.pair (.int .i64) (.pair (.int .i64) (.int .i64))), x.2.2.2.2.2.2, .own⟩]⟩
noncomputable def K45 (r : Res) : Option (Int × Int × Int × Int × Bool × (List (Int × Int × Int × Int × Int × Int × Int × Int × List Int × Bool)) × (List (Int × Int × Int))) :=
  match r with
  | ⟨[.agg [.val (.int .i64 v1), .val (.int .i64 v2), .val (.int .i64 v3), .val (.int .i64 v4), .sl 0, .sl 1], .one (.val (.bool v5))], [], [⟨146, (.pair (.int .i64) (.pair (.int .i64) (.pair (.int .i64) (.pair (.int .i64) (.pair (.int .i64) (.pair (.int .i64) (.pair (.int .i64) (.pair (.int .i64) (.pair (.sl 3 (.int .i64)) .bool))))))))), v6, .own⟩, ⟨158, (.pair (.int .i64) (.pair (.int .i64) (.int .i64))), v7, .own⟩]⟩ => some (v1, v2, v3, v4, v5, v6, v7)
  | _ => none
noncomputable def E45 : Fun2 := fun args bs rs =>
  match args, bs, rs with
  | [.s1 (.agg [.val (.int .i64 a1), .val (.int .i64 a2), .val (.int .i64 a3), .val (.int .i64 a4), .sl 0, .sl 1]), .s1 (.agg [.val (.int .i64 a5), .val (.int .i64 a6), .val (.int .i64 a7), .val (.int .i64 a8), .val (.int .i64 a9), .val (.int .i64 a10), .sl 2, .val (.bool a11)]), .s1 (.one (.val (.int .i64 a12)))], [], [⟨146, (.pair (.int .i64) (.pair (.int .i64) (.pair (.int .i64) (.pair (.int .i64) (.pair (.int .i64) (.pair (.int .i64) (.pair (.int .i64) (.pair (.int .i64) (.pair (.sl 3 (.int .i64)) .bool))))))))), a13, .ro⟩, ⟨158, (.pair (.int .i64) (.pair (.int .i64) (.int .i64))), a14, .ro⟩, ⟨3, (.int .i64), a15, .ro⟩] => some ⟨Int × Int × Int × Int × Bool × (List (Int × Int × Int × Int × Int × Int × Int × Int × List Int × Bool)) × (List (Int × Int × Int)), I.BoxPut a1 a2 a3 a4 a5 a6 a7 a8 a9 a10 a11 a12 a13 a14 a15, R45⟩
  | _, _, _ => none
theorem ev45 (a1 a2 a3 a4 a5 a6 a7 a8 a9 a10 : Int) (a11 : Bool) (a12 : Int) (a13 : List (Int × Int × Int × Int × Int × Int × Int × Int × List Int × Bool)) (a14 : List (Int × Int × Int)) (a15 : List Int) : evF Try.prog G45 loopNil (0, 0) [] Try.f45 c45 [.s1 (.agg [ai a1, ai a2, ai a3, ai a4, .sl 0, .sl 1]), .s1 (.agg [ai a5, ai a6, ai a7, ai a8, ai a9, ai a10, .sl 2, ab a11]), vi a12] [] [⟨146, (.pair (.int .i64) (.pair (.int .i64) (.pair (.int .i64) (.pair (.int .i64) (.pair (.int .i64) (.pair (.int .i64) (.pair (.int .i64) (.pair (.int .i64) (.pair (.sl 3 (.int .i64)) .bool))))))))), a13, .ro⟩, ⟨158, (.pair (.int .i64) (.pair (.int .i64) (.int .i64))), a14, .ro⟩, ⟨3, (.int .i64), a15, .ro⟩] K45 = I.BoxPut a1 a2 a3 a4 a5 a6 a7 a8 a9 a10 a11 a12 a13 a14 a15 := by kernel_rfl
theorem good45 : Vm.Good Try.prog 45 E45 := by
  refine evF_good (G := G45) (c := c45) (envCons_good good60 envNil_good) Try.func45 (by kernel_rfl) (by kernel_rfl) (0, 0) (fun args bs rs out t h h2 => ?_)
  unfold E45 at h
  split at h
  · injection h with h
    subst h
    exact ⟨rfl, [], loopNil, K45, (by intro x hx; simp [show loopsOf c45 = [] from by kernel_rfl] at hx), (fun r t h => by unfold K45 at h; split at h; (injection h with h; subst h; rfl); cases h), (ev45 _ _ _ _ _ _ _ _ _ _ _ _ _ _ _).trans h2⟩
  · cases h
/-! ### L.eqIntS -/
noncomputable def G119 : Env := envNil
noncomputable def c119 : Code := bodyOf Try.f119
noncomputable def c119_4 : Code := (loopsOf c119).getD 0 .skip
noncomputable def L.eqIntS_l0 : Nat → (Bool → Option Bool) → (Option Bool) → Int → List Int → List Int → Option Bool
  | 0, _, _, _, _, _ => none
  | m + 1, e4_0, e4_1, a5, a6, a7 =>
    (bif (decide (a5 < (a6.length : Int))) then
    (bif decide ((0 : Int) ≤ a5 ∧ a5 < (a6.length : Int)) then
    (bif decide ((0 : Int) ≤ a5 ∧ a5 < (a7.length : Int)) then
    (bif ((nthI a6 a5 (0 : Int)) != (nthI a7 a5 (0 : Int))) then
    (e4_0 false)
    else
    (L.eqIntS_l0 m e4_0 e4_1 (IntKind.wrap .i64 (a5 + 1)) a6 a7))
    else
    none)
    else
    none)
    else
    e4_1)
noncomputable def L.eqIntS (a1 a2 : List Int) : Option Bool :=
(bif ((a1.length : Int) != (a2.length : Int)) then
(some false)
else
(L.eqIntS_l0 fu (fun y12 =>
(some y12)) (some true) 0 a1 a2))
noncomputable def H119_4 : LoopH := ⟨⟨((.one (.sl 0)) :: (.one (.sl 1)) :: (hu 3 (hh :: (hu 20 [])))), [], [(3, (.int .i64), .ro), (3, (.int .i64), .ro)]⟩, [2, 3, 4, 6, 7, 8, 9, 10, 11, 12, 13, 14, 15, 16, 17, 18, 19, 20, 21, 22, 23, 24, 25], [], [0, 1, 2, 3, 5, 6, 7, 8, 9, 10, 11, 12, 13, 14, 15, 16, 17, 18, 19, 20, 21, 22, 23, 24, 25], []⟩
noncomputable def E119_4 (m : Nat) (ps : List Prm) (k : Kont Bool) : Option Bool :=
  match ps with
  | [.v (.int .i64 a5), .row (.int .i64) a6, .row (.int .i64) a7] => L.eqIntS_l0 m (fun z14 => k .ret (⟨(vu 4 ((vb z14) :: (vu 21 []))), [], []⟩ : St)) (k (.exit 0) (⟨(vu 26 []), [], []⟩ : St)) a5 a6 a7
  | _ => none
noncomputable def S119_4 (a5 : Int) (a6 a7 : List Int) : St := (⟨((vl 0) :: (vl 1) :: (vu 3 ((vi a5) :: (vu 20 [])))), [], [⟨3, (.int .i64), a6, .ro⟩, ⟨3, (.int .i64), a7, .ro⟩]⟩ : St)
theorem ev119_4 (m : Nat) (k : Kont Bool) (a5 : Int) (a6 a7 : List Int) : evC Try.prog G119 loopNil c119_4 (S119_4 a5 a6 a7) (turn Try.prog (0, 0) H119_4 (E119_4 m) k) = E119_4 (m + 1) [.v (.int .i64 a5), .row (.int .i64) a6, .row (.int .i64) a7] k := by kernel_rfl
theorem ok119_4 (m : Nat) : LoopOk Try.prog (0, 0) c119_4 (enter Try.prog (0, 0) H119_4 (E119_4 m)) := by
  refine loop_ok (G := G119) (L := loopNil) envNil_good (by intro x hx; simp [show loopsOf c119_4 = [] from by kernel_rfl] at hx) (fun ps k => by unfold E119_4; split <;> rfl) (fun m ps k r h => ?_) m
  have h0 := h
  unfold E119_4 at h
  split at h
  · exact ⟨S119_4 _ _ _, by kernel_rfl, (ev119_4 m k _ _ _).trans h0⟩
  · cases h
noncomputable def L119 : LEnv Bool := (loopCons 4 (enter Try.prog (0, 0) H119_4 (E119_4 fu)) loopNil)
theorem lq119 : loopsOf c119 = [c119_4] := by kernel_rfl
theorem fr119_4 : firstReg c119_4 = some 4 := by kernel_rfl
theorem le119_4 : L119 4 = enter Try.prog (0, 0) H119_4 (E119_4 fu) := by kernel_rfl
theorem lm119 : ∀ x ∈ [c119_4], ∀ id, firstReg x = some id → LoopOk Try.prog (0, 0) x (L119 id) := (loops_cons fr119_4 le119_4 (ok119_4 fu) loops_nil)
theorem lp119 : ∀ x ∈ loopsOf c119, ∀ id, firstReg x = some id → LoopOk Try.prog (0, 0) x (L119 id) := loops_eq lq119 lm119
noncomputable def R119 (x : Bool) : Res := ⟨[.one (ab x)], [], []⟩
noncomputable def K119 (r : Res) : Option Bool :=
  match r with
  | ⟨[.one (.val (.bool v1))], [], []⟩ => some (v1)
  | _ => none
noncomputable def E119 : Fun2 := fun args bs rs =>
  match args, bs, rs with
  | [.s1 (.one (.sl 0)), .s1 (.one (.sl 1))], [], [⟨3, (.int .i64), a1, .ro⟩, ⟨3, (.int .i64), a2, .ro⟩] => some ⟨Bool, L.eqIntS a1 a2, R119⟩
  | _, _, _ => none
theorem ev119 (a1 a2 : List Int) : evF Try.prog G119 L119 (0, 0) [] Try.f119 c119 [vl 0, vl 1] [] [⟨3, (.int .i64), a1, .ro⟩, ⟨3, (.int .i64), a2, .ro⟩] K119 = L.eqIntS a1 a2 := by kernel_rfl
theorem good119 : Vm.Good Try.prog 119 E119 := by
  refine evF_good (G := G119) (c := c119) envNil_good Try.func119 (by kernel_rfl) (by kernel_rfl) (0, 0) (fun args bs rs out t h h2 => ?_)
  unfold E119 at h
  split at h
  · injection h with h
    subst h
    exact ⟨rfl, [], L119, K119, lp119, (fun r t h => by unfold K119 at h; split at h; (injection h with h; subst h; rfl); cases h), (ev119 _ _).trans h2⟩
  · cases h
/-! ### L.eqPane -/
noncomputable def G46 : Env := (envCons 119 [] E119 envNil)
noncomputable def c46 : Code := bodyOf Try.f46
noncomputable def L.eqPane (a1 a2 a3 a4 a5 a6 : Int) (a7 : Bool) (a8 a9 a10 a11 a12 a13 : Int) (a14 : Bool) (a15 a16 : List Int) : Option Bool :=
(bif (a1 != a8) then
(some false)
else
(bif (a2 != a9) then
(some false)
else
(bif (a3 != a10) then
(some false)
else
(bif (a4 != a11) then
(some false)
else
(bif (a5 != a12) then
(some false)
else
(bif (a6 != a13) then
(some false)
else
(Option.bind (L.eqIntS a15 a16) fun r17 =>
(bif (!r17) then
(some false)
else
(bif (!(a7 == a14)) then
(some false)
else
(some true))))))))))
noncomputable def R46 (x : Bool) : Res := ⟨[.one (ab x)], [], []⟩
noncomputable def K46 (r : Res) : Option Bool :=
  match r with
  | ⟨[.one (.val (.bool v1))], [], []⟩ => some (v1)
  | _ => none
noncomputable def E46 : Fun2 := fun args bs rs =>
  match args, bs, rs with
  | [.s1 (.agg [.val (.int .i64 a1), .val (.int .i64 a2), .val (.int .i64 a3), .val (.int .i64 a4), .val (.int .i64 a5), .val (.int .i64 a6), .sl 0, .val (.bool a7)]), .s1 (.agg [.val (.int .i64 a8), .val (.int .i64 a9), .val (.int .i64 a10), .val (.int .i64 a11), .val (.int .i64 a12), .val (.int .i64 a13), .sl 1, .val (.bool a14)])], [], [⟨3, (.int .i64), a15, .ro⟩, ⟨3, (.int .i64), a16, .ro⟩] => some ⟨Bool, L.eqPane a1 a2 a3 a4 a5 a6 a7 a8 a9 a10 a11 a12 a13 a14 a15 a16, R46⟩
  | _, _, _ => none
theorem ev46 (a1 a2 a3 a4 a5 a6 : Int) (a7 : Bool) (a8 a9 a10 a11 a12 a13 : Int) (a14 : Bool) (a15 a16 : List Int) : evF Try.prog G46 loopNil (0, 0) [] Try.f46 c46 [.s1 (.agg [ai a1, ai a2, ai a3, ai a4, ai a5, ai a6, .sl 0, ab a7]), .s1 (.agg [ai a8, ai a9, ai a10, ai a11, ai a12, ai a13, .sl 1, ab a14])] [] [⟨3, (.int .i64), a15, .ro⟩, ⟨3, (.int .i64), a16, .ro⟩] K46 = L.eqPane a1 a2 a3 a4 a5 a6 a7 a8 a9 a10 a11 a12 a13 a14 a15 a16 := by kernel_rfl
theorem good46 : Vm.Good Try.prog 46 E46 := by
  refine evF_good (G := G46) (c := c46) (envCons_good good119 envNil_good) Try.func46 (by kernel_rfl) (by kernel_rfl) (0, 0) (fun args bs rs out t h h2 => ?_)
  unfold E46 at h
  split at h
  · injection h with h
    subst h
    exact ⟨rfl, [], loopNil, K46, (by intro x hx; simp [show loopsOf c46 = [] from by kernel_rfl] at hx), (fun r t h => by unfold K46 at h; split at h; (injection h with h; subst h; rfl); cases h), (ev46 _ _ _ _ _ _ _ _ _ _ _ _ _ _ _ _).trans h2⟩
  · cases h
/-! ### L.eqItem -/
noncomputable def G95 : Env := (envCons 46 [] E46 envNil)
noncomputable def c95 : Code := bodyOf Try.f95
noncomputable def L.eqItem (a1 a2 a3 a4 a5 a6 a7 a8 : Int) (a9 : Bool) (a10 a11 a12 a13 a14 a15 a16 a17 : Int) (a18 : Bool) (a19 a20 : List Int) : Option Bool :=
(bif (a1 != a10) then
(some false)
else
(bif (a2 != a11) then
(some false)
else
(Option.bind (L.eqPane a3 a4 a5 a6 a7 a8 a9 a12 a13 a14 a15 a16 a17 a18 a19 a20) fun r21 =>
(bif (!r21) then
(some false)
else
(some true)))))
noncomputable def R95 (x : Bool) : Res := ⟨[.one (ab x)], [], []⟩
noncomputable def K95 (r : Res) : Option Bool :=
  match r with
  | ⟨[.one (.val (.bool v1))], [], []⟩ => some (v1)
  | _ => none
noncomputable def E95 : Fun2 := fun args bs rs =>
  match args, bs, rs with
  | [.s1 (.agg [.val (.int .i64 a1), .val (.int .i64 a2), .val (.int .i64 a3), .val (.int .i64 a4), .val (.int .i64 a5), .val (.int .i64 a6), .val (.int .i64 a7), .val (.int .i64 a8), .sl 0, .val (.bool a9)]), .s1 (.agg [.val (.int .i64 a10), .val (.int .i64 a11), .val (.int .i64 a12), .val (.int .i64 a13), .val (.int .i64 a14), .val (.int .i64 a15), .val (.int .i64 a16), .val (.int .i64 a17), .sl 1, .val (.bool a18)])], [], [⟨3, (.int .i64), a19, .ro⟩, ⟨3, (.int .i64), a20, .ro⟩] => some ⟨Bool, L.eqItem a1 a2 a3 a4 a5 a6 a7 a8 a9 a10 a11 a12 a13 a14 a15 a16 a17 a18 a19 a20, R95⟩
  | _, _, _ => none
theorem ev95 (a1 a2 a3 a4 a5 a6 a7 a8 : Int) (a9 : Bool) (a10 a11 a12 a13 a14 a15 a16 a17 : Int) (a18 : Bool) (a19 a20 : List Int) : evF Try.prog G95 loopNil (0, 0) [] Try.f95 c95 [.s1 (.agg [ai a1, ai a2, ai a3, ai a4, ai a5, ai a6, ai a7, ai a8, .sl 0, ab a9]), .s1 (.agg [ai a10, ai a11, ai a12, ai a13, ai a14, ai a15, ai a16, ai a17, .sl 1, ab a18])] [] [⟨3, (.int .i64), a19, .ro⟩, ⟨3, (.int .i64), a20, .ro⟩] K95 = L.eqItem a1 a2 a3 a4 a5 a6 a7 a8 a9 a10 a11 a12 a13 a14 a15 a16 a17 a18 a19 a20 := by kernel_rfl
theorem good95 : Vm.Good Try.prog 95 E95 := by
  refine evF_good (G := G95) (c := c95) (envCons_good good46 envNil_good) Try.func95 (by kernel_rfl) (by kernel_rfl) (0, 0) (fun args bs rs out t h h2 => ?_)
  unfold E95 at h
  split at h
  · injection h with h
    subst h
    exact ⟨rfl, [], loopNil, K95, (by intro x hx; simp [show loopsOf c95 = [] from by kernel_rfl] at hx), (fun r t h => by unfold K95 at h; split at h; (injection h with h; subst h; rfl); cases h), (ev95 _ _ _ _ _ _ _ _ _ _ _ _ _ _ _ _ _ _ _ _).trans h2⟩
  · cases h
/-! ### L.eqItemS -/
noncomputable def G18 : Env := (envCons 95 [] E95 envNil)
noncomputable def c18 : Code := bodyOf Try.f18
noncomputable def c18_4 : Code := (loopsOf c18).getD 0 .skip
noncomputable def L.eqItemS_l0 : Nat → (Bool → Option Bool) → (Option Bool) → Int → (List (Int × Int × Int × Int × Int × Int × Int × Int × List Int × Bool)) → (List (Int × Int × Int × Int × Int × Int × Int × Int × List Int × Bool)) → Option Bool
  | 0, _, _, _, _, _ => none
  | m + 1, e4_0, e4_1, a5, a6, a7 =>
    (bif (decide (a5 < (a6.length : Int))) then
    (bif decide ((0 : Int) ≤ a5 ∧ a5 < (a6.length : Int)) then
    (bif decide ((0 : Int) ≤ a5 ∧ a5 < (a7.length : Int)) then
    (Option.bind (L.eqItem ((nthI a6 a5 ((0 : Int), ((0 : Int), ((0 : Int), ((0 : Int), ((0 : Int), ((0 : Int), ((0 : Int), ((0 : Int), ([], false)))))))))).1) ((nthI a6 a5 ((0 : Int), ((0 : Int), ((0 : Int), ((0 : Int), ((0 : Int), ((0 : Int), ((0 : Int), ((0 : Int), ([], false)))))))))).2.1) ((nthI a6 a5 ((0 : Int), ((0 : Int), ((0 : Int), ((0 : Int), ((0 : Int), ((0 : Int), ((0 : Int), ((0 : Int), ([], false)))))))))).2.2.1) ((nthI a6 a5 ((0 : Int), ((0 : Int), ((0 : Int), ((0 : Int), ((0 : Int), ((0 : Int), ((0 : Int), ((0 : Int), ([], false)))))))))).2.2.2.1) ((nthI a6 a5 ((0 : Int), ((0 : Int), ((0 : Int), ((0 : Int), ((0 : Int), ((0 : Int), ((0 : Int), ((0 : Int), ([], false)))))))))).2.2.2.2.1) ((nthI a6 a5 ((0 : Int), ((0 : Int), ((0 : Int), ((0 : Int), ((0 : Int), ((0 : Int), ((0 : Int), ((0 : Int), ([], false)))))))))).2.2.2.2.2.1) ((nthI a6 a5 ((0 : Int), ((0 : Int), ((0 : Int), ((0 : Int), ((0 : Int), ((0 : Int), ((0 : Int), ((0 : Int), ([], false)))))))))).2.2.2.2.2.2.1) ((nthI a6 a5 ((0 : Int), ((0 : Int), ((0 : Int), ((0 : Int), ((0 : Int), ((0 : Int), ((0 : Int), ((0 : Int), ([], false)))))))))).2.2.2.2.2.2.2.1) ((nthI a6 a5 ((0 : Int), ((0 : Int), ((0 : Int), ((0 : Int), ((0 : Int), ((0 : Int), ((0 : Int), ((0 : Int), ([], false)))))))))).2.2.2.2.2.2.2.2.2) ((nthI a7 a5 ((0 : Int), ((0 : Int), ((0 : Int), ((0 : Int), ((0 : Int), ((0 : Int), ((0 : Int), ((0 : Int), ([], false)))))))))).1) ((nthI a7 a5 ((0 : Int), ((0 : Int), ((0 : Int), ((0 : Int), ((0 : Int), ((0 : Int), ((0 : Int), ((0 : Int), ([], false)))))))))).2.1) ((nthI a7 a5 ((0 : Int), ((0 : Int), ((0 : Int), ((0 : Int), ((0 : Int), ((0 : Int), ((0 : Int), ((0 : Int), ([], false)))))))))).2.2.1) ((nthI a7 a5 ((0 : Int), ((0 : Int), ((0 : Int), ((0 : Int), ((0 : Int), ((0 : Int), ((0 : Int), ((0 : Int), ([], false)))))))))).2.2.2.1) ((nthI a7 a5 ((0 : Int), ((0 : Int), ((0 : Int), ((0 : Int), ((0 : Int), ((0 : Int), ((0 : Int), ((0 : Int), ([], false)))))))))).2.2.2.2.1) ((nthI a7 a5 ((0 : Int), ((0 : Int), ((0 : Int), ((0 : Int), ((0 : Int), ((0 : Int), ((0 : Int), ((0 : Int), ([], false)))))))))).2.2.2.2.2.1) ((nthI a7 a5 ((0 : Int), ((0 : Int), ((0 : Int), ((0 : Int), ((0 : Int), ((0 : Int), ((0 : Int), ((0 : Int), ([], false)))))))))).2.2.2.2.2.2.1) ((nthI a7 a5 ((0 : Int), ((0 : Int), ((0 : Int), ((0 : Int), ((0 : Int), ((0 : Int), ((0 : Int), ((0 : Int), ([], false)))))))))).2.2.2.2.2.2.2.1) ((nthI a7 a5 ((0 : Int), ((0 : Int), ((0 : Int), ((0 : Int), ((0 : Int), ((0 : Int), ((0 : Int), ((0 : Int), ([], false)))))))))).2.2.2.2.2.2.2.2.2) ((nthI a6 a5 ((0 : Int), ((0 : Int), ((0 : Int), ((0 : Int), ((0 : Int), ((0 : Int), ((0 : Int), ((0 : Int), ([], false)))))))))).2.2.2.2.2.2.2.2.1) ((nthI a7 a5 ((0 : Int), ((0 : Int), ((0 : Int), ((0 : Int), ((0 : Int), ((0 : Int), ((0 : Int), ((0 : Int), ([], false)))))))))).2.2.2.2.2.2.2.2.1)) fun r10 =>
    (bif (!r10) then
    (e4_0 false)
    else
    (L.eqItemS_l0 m e4_0 e4_1 (IntKind.wrap .i64 (a5 + 1)) a6 a7)))
    else
    none)
    else
    none)
    else
    e4_1)
noncomputable def L.eqItemS (a1 a2 : List (Int × Int × Int × Int × Int × Int × Int × Int × List Int × Bool)) : Option Bool :=
(bif ((a1.length : Int) != (a2.length : Int)) then
(some false)
else
(L.eqItemS_l0 fu (fun y12 =>
(some y12)) (some true) 0 a1 a2))
noncomputable def H18_4 : LoopH := ⟨⟨((.one (.sl 0)) :: (.one (.sl 1)) :: (hu 3 (hh :: (hu 21 [])))), [], [(146, (.pair (.int .i64) (.pair (.int .i64) (.pair (.int .i64) (.pair (.int .i64) (.pair (.int .i64) (.pair (.int .i64) (.pair (.int .i64) (.pair (.int .i64) (.pair (.sl 3 (.int .i64)) .bool))))))))), .ro), (146, (.pair (.int .i64) (.pair (.int .i64) (.pair (.int .i64) (.pair (.int .i64) (.pair (.int .i64) (.pair (.int .i64) (.pair (.int .i64) (.pair (.int .i64) (.pair (.sl 3 (.int .i64)) .bool))))))))), .ro)]⟩, [2, 3, 4, 6, 7, 8, 9, 10, 11, 12, 13, 14, 15, 16, 17, 18, 19, 20, 21, 22, 23, 24, 25, 26], [], [0, 1, 2, 3, 5, 6, 7, 8, 9, 10, 11, 12, 13, 14, 15, 16, 17, 18, 19, 20, 21, 22, 23, 24, 25, 26], []⟩
noncomputable def E18_4 (m : Nat) (ps : List Prm) (k : Kont Bool) : Option Bool :=
  match ps with
  | [.v (.int .i64 a5), .row (.pair (.int .i64) (.pair (.int .i64) (.pair (.int .i64) (.pair (.int .i64) (.pair (.int .i64) (.pair (.int .i64) (.pair (.int .i64) (.pair (.int .i64) (.pair (.sl 3 (.int .i64)) .bool))))))))) a6, .row (.pair (.int .i64) (.pair (.int .i64) (.pair (.int .i64) (.pair (.int .i64) (.pair (.int .i64) (.pair (.int .i64) (.pair (.int .i64) (.pair (.int .i64) (.pair (.sl 3 (.int .i64)) .bool))))))))) a7] => L.eqItemS_l0 m (fun z14 => k .ret (⟨(vu 4 ((vb z14) :: (vu 22 []))), [], []⟩ : St)) (k (.exit 0) (⟨(vu 27 []), [], []⟩ : St)) a5 a6 a7
  | _ => none
noncomputable def S18_4 (a5 : Int) (a6 a7 : List (Int × Int × Int × Int × Int × Int × Int × Int × List Int × Bool)) : St := (⟨((vl 0) :: (vl 1) :: (vu 3 ((vi a5) :: (vu 21 [])))), [], [⟨146, (.pair (.int .i64) (.pair (.int .i64) (.pair (.int .i64) (.pair (.int .i64) (.pair (.int .i64) (.pair (.int .i64) (.pair (.int .i64) (.pair (.int .i64) (.pair (.sl 3 (.int .i64)) .bool))))))))), a6, .ro⟩, ⟨146, (.pair (.int .i64) (.pair (.int .i64) (.pair (.int .i64) (.pair (.int .i64) (.pair (.int .i64) (.pair (.int .i64) (.pair (.int .i64) (.pair (.int .i64) (.pair (.sl 3 (.int .i64)) .bool))))))))), a7, .ro⟩]⟩ : St)
theorem ev18_4 (m : Nat) (k : Kont Bool) (a5 : Int) (a6 a7 : List (Int × Int × Int × Int × Int × Int × Int × Int × List Int × Bool)) : evC Try.prog G18 loopNil c18_4 (S18_4 a5 a6 a7) (turn Try.prog (0, 0) H18_4 (E18_4 m) k) = E18_4 (m + 1) [.v (.int .i64 a5), .row (.pair (.int .i64) (.pair (.int .i64) (.pair (.int .i64) (.pair (.int .i64) (.pair (.int .i64) (.pair (.int .i64) (.pair (.int .i64) (.pair (.int .i64) (.pair (.sl 3 (.int .i64)) .bool))))))))) a6, .row (.pair (.int .i64) (.pair (.int .i64) (.pair (.int .i64) (.pair (.int .i64) (.pair (.int .i64) (.pair (.int .i64) (.pair (.int .i64) (.pair (.int .i64) (.pair (.sl 3 (.int .i64)) .bool))))))))) a7] k := by kernel_rfl
theorem ok18_4 (m : Nat) : LoopOk Try.prog (0, 0) c18_4 (enter Try.prog (0, 0) H18_4 (E18_4 m)) := by
  refine loop_ok (G := G18) (L := loopNil) (envCons_good good95 envNil_good) (by intro x hx; simp [show loopsOf c18_4 = [] from by kernel_rfl] at hx) (fun ps k => by unfold E18_4; split <;> rfl) (fun m ps k r h => ?_) m
  have h0 := h
  unfold E18_4 at h
  split at h
  · exact ⟨S18_4 _ _ _, by kernel_rfl, (ev18_4 m k _ _ _).trans h0⟩
  · cases h
noncomputable def L18 : LEnv Bool := (loopCons 4 (enter Try.prog (0, 0) H18_4 (E18_4 fu)) loopNil)
theorem lq18 : loopsOf c18 = [c18_4] := by kernel_rfl
theorem fr18_4 : firstReg c18_4 = some 4 := by kernel_rfl
theorem le18_4 : L18 4 = enter Try.prog (0, 0) H18_4 (E18_4 fu) := by kernel_rfl
theorem lm18 : ∀ x ∈ [c18_4], ∀ id, firstReg x = some id → LoopOk Try.prog (0, 0) x (L18 id) := (loops_cons fr18_4 le18_4 (ok18_4 fu) loops_nil)
theorem lp18 : ∀ x ∈ loopsOf c18, ∀ id, firstReg x = some id → LoopOk Try.prog (0, 0) x (L18 id) := loops_eq lq18 lm18
noncomputable def R18 (x : Bool) : Res := ⟨[.one (ab x)], [], []⟩
noncomputable def K18 (r : Res) : Option Bool :=
  match r with
  | ⟨[.one (.val (.bool v1))], [], []⟩ => some (v1)
  | _ => none
noncomputable def E18 : Fun2 := fun args bs rs =>
  match args, bs, rs with
  | [.s1 (.one (.sl 0)), .s1 (.one (.sl 1))], [], [⟨146, (.pair (.int .i64) (.pair (.int .i64) (.pair (.int .i64) (.pair (.int .i64) (.pair (.int .i64) (.pair (.int .i64) (.pair (.int .i64) (.pair (.int .i64) (.pair (.sl 3 (.int .i64)) .bool))))))))), a1, .ro⟩, ⟨146, (.pair (.int .i64) (.pair (.int .i64) (.pair (.int .i64) (.pair (.int .i64) (.pair (.int .i64) (.pair (.int .i64) (.pair (.int .i64) (.pair (.int .i64) (.pair (.sl 3 (.int .i64)) .bool))))))))), a2, .ro⟩] => some ⟨Bool, L.eqItemS a1 a2, R18⟩
  | _, _, _ => none
theorem ev18 (a1 a2 : List (Int × Int × Int × Int × Int × Int × Int × Int × List Int × Bool)) : evF Try.prog G18 L18 (0, 0) [] Try.f18 c18 [vl 0, vl 1] [] [⟨146, (.pair (.int .i64) (.pair (.int .i64) (.pair (.int .i64) (.pair (.int .i64) (.pair (.int .i64) (.pair (.int .i64) (.pair (.int .i64) (.pair (.int .i64) (.pair (.sl 3 (.int .i64)) .bool))))))))), a1, .ro⟩, ⟨146, (.pair (.int .i64) (.pair (.int .i64) (.pair (.int .i64) (.pair (.int .i64) (.pair (.int .i64) (.pair (.int .i64) (.pair (.int .i64) (.pair (.int .i64) (.pair (.sl 3 (.int .i64)) .bool))))))))), a2, .ro⟩] K18 = L.eqItemS a1 a2 := by kernel_rfl
theorem good18 : Vm.Good Try.prog 18 E18 := by
  refine evF_good (G := G18) (c := c18) (envCons_good good95 envNil_good) Try.func18 (by kernel_rfl) (by kernel_rfl) (0, 0) (fun args bs rs out t h h2 => ?_)
  unfold E18 at h
  split at h
  · injection h with h
    subst h
    exact ⟨rfl, [], L18, K18, lp18, (fun r t h => by unfold K18 at h; split at h; (injection h with h; subst h; rfl); cases h), (ev18 _ _).trans h2⟩
  · cases h
/-! ### L.eqRec -/
noncomputable def G101 : Env := envNil
noncomputable def c101 : Code := bodyOf Try.f101
noncomputable def L.eqRec (a1 a2 a3 a4 a5 a6 : Int) : Option Bool :=
(bif (a1 != a4) then
(some false)
else
(bif (a2 != a5) then
(some false)
else
(bif (a3 != a6) then
(some false)
else
(some true))))
noncomputable def R101 (x : Bool) : Res := ⟨[.one (ab x)], [], []⟩
noncomputable def K101 (r : Res) : Option Bool :=
  match r with
  | ⟨[.one (.val (.bool v1))], [], []⟩ => some (v1)
  | _ => none
noncomputable def E101 : Fun2 := fun args bs rs =>
  match args, bs, rs with
  | [.s1 (.agg [.val (.int .i64 a1), .val (.int .i64 a2), .val (.int .i64 a3)]), .s1 (.agg [.val (.int .i64 a4), .val (.int .i64 a5), .val (.int .i64 a6)])], [], [] => some ⟨Bool, L.eqRec a1 a2 a3 a4 a5 a6, R101⟩
  | _, _, _ => none
theorem ev101 (a1 a2 a3 a4 a5 a6 : Int) : evF Try.prog G101 loopNil (0, 0) [] Try.f101 c101 [.s1 (.agg [ai a1, ai a2, ai a3]), .s1 (.agg [ai a4, ai a5, ai a6])] [] [] K101 = L.eqRec a1 a2 a3 a4 a5 a6 := by kernel_rfl
theorem good101 : Vm.Good Try.prog 101 E101 := by
  refine evF_good (G := G101) (c := c101) envNil_good Try.func101 (by kernel_rfl) (by kernel_rfl) (0, 0) (fun args bs rs out t h h2 => ?_)
  unfold E101 at h
  split at h
  · injection h with h
    subst h
    exact ⟨rfl, [], loopNil, K101, (by intro x hx; simp [show loopsOf c101 = [] from by kernel_rfl] at hx), (fun r t h => by unfold K101 at h; split at h; (injection h with h; subst h; rfl); cases h), (ev101 _ _ _ _ _ _).trans h2⟩
  · cases h
/-! ### L.eqRecS -/
noncomputable def G25 : Env := (envCons 101 [] E101 envNil)
noncomputable def c25 : Code := bodyOf Try.f25
noncomputable def c25_4 : Code := (loopsOf c25).getD 0 .skip
noncomputable def L.eqRecS_l0 : Nat → (Bool → Option Bool) → (Option Bool) → Int → (List (Int × Int × Int)) → (List (Int × Int × Int)) → Option Bool
  | 0, _, _, _, _, _ => none
  | m + 1, e4_0, e4_1, a5, a6, a7 =>
    (bif (decide (a5 < (a6.length : Int))) then
    (bif decide ((0 : Int) ≤ a5 ∧ a5 < (a6.length : Int)) then
    (bif decide ((0 : Int) ≤ a5 ∧ a5 < (a7.length : Int)) then
    (Option.bind (L.eqRec ((nthI a6 a5 ((0 : Int), ((0 : Int), (0 : Int)))).1) ((nthI a6 a5 ((0 : Int), ((0 : Int), (0 : Int)))).2.1) ((nthI a6 a5 ((0 : Int), ((0 : Int), (0 : Int)))).2.2) ((nthI a7 a5 ((0 : Int), ((0 : Int), (0 : Int)))).1) ((nthI a7 a5 ((0 : Int), ((0 : Int), (0 : Int)))).2.1) ((nthI a7 a5 ((0 : Int), ((0 : Int), (0 : Int)))).2.2)) fun r10 =>
    (bif (!r10) then
    (e4_0 false)
    else
    (L.eqRecS_l0 m e4_0 e4_1 (IntKind.wrap .i64 (a5 + 1)) a6 a7)))
    else
    none)
    else
    none)
    else
    e4_1)
noncomputable def L.eqRecS (a1 a2 : List (Int × Int × Int)) : Option Bool :=
(bif ((a1.length : Int) != (a2.length : Int)) then
(some false)
else
(L.eqRecS_l0 fu (fun y12 =>
(some y12)) (some true) 0 a1 a2))
noncomputable def H25_4 : LoopH := ⟨⟨((.one (.sl 0)) :: (.one (.sl 1)) :: (hu 3 (hh :: (hu 21 [])))), [], [(158, (.pair (.int .i64) (.pair (.int .i64) (.int .i64))), .ro), (158, (.pair (.int .i64) (.pair (.int .i64) (.int .i64))), .ro)]⟩, [2, 3, 4, 6, 7, 8, 9, 10, 11, 12, 13, 14, 15, 16, 17, 18, 19, 20, 21, 22, 23, 24, 25, 26], [], [0, 1, 2, 3, 5, 6, 7, 8, 9, 10, 11, 12, 13, 14, 15, 16, 17, 18, 19, 20, 21, 22, 23, 24, 25, 26], []⟩
noncomputable def E25_4 (m : Nat) (ps : List Prm) (k : Kont Bool) : Option Bool :=
  match ps with
  | [.v (.int .i64 a5), .row (.pair (.int .i64) (.pair (.int .i64) (.int .i64))) a6, .row (.pair (.int .i64) (.pair (.int .i64) (.int .i64))) a7] => L.eqRecS_l0 m (fun z14 => k .ret (⟨(vu 4 ((vb z14) :: (vu 22 []))), [], []⟩ : St)) (k (.exit 0) (⟨(vu 27 []), [], []⟩ : St)) a5 a6 a7
  | _ => none
noncomputable def S25_4 (a5 : Int) (a6 a7 : List (Int × Int × Int)) : St := (⟨((vl 0) :: (vl 1) :: (vu 3 ((vi a5) :: (vu 21 [])))), [], [⟨158, (.pair (.int .i64) (.pair (.int .i64) (.int .i64))), a6, .ro⟩, ⟨158, (.pair (.int .i64) (.pair (.int .i64) (.int .i64))), a7, .ro⟩]⟩ : St)
theorem ev25_4 (m : Nat) (k : Kont Bool) (a5 : Int) (a6 a7 : List (Int × Int × Int)) : evC Try.prog G25 loopNil c25_4 (S25_4 a5 a6 a7) (turn Try.prog (0, 0) H25_4 (E25_4 m) k) = E25_4 (m + 1) [.v (.int .i64 a5), .row (.pair (.int .i64) (.pair (.int .i64) (.int .i64))) a6, .row (.pair (.int .i64) (.pair (.int .i64) (.int .i64))) a7] k := by kernel_rfl
theorem ok25_4 (m : Nat) : LoopOk Try.prog (0, 0) c25_4 (enter Try.prog (0, 0) H25_4 (E25_4 m)) := by
  refine loop_ok (G := G25) (L := loopNil) (envCons_good good101 envNil_good) (by intro x hx; simp [show loopsOf c25_4 = [] from by kernel_rfl] at hx) (fun ps k => by unfold E25_4; split <;> rfl) (fun m ps k r h => ?_) m
  have h0 := h
  unfold E25_4 at h
  split at h
  · exact ⟨S25_4 _ _ _, by kernel_rfl, (ev25_4 m k _ _ _).trans h0⟩
  · cases h
noncomputable def L25 : LEnv Bool := (loopCons 4 (enter Try.prog (0, 0) H25_4 (E25_4 fu)) loopNil)
theorem lq25 : loopsOf c25 = [c25_4] := by kernel_rfl
theorem fr25_4 : firstReg c25_4 = some 4 := by kernel_rfl
theorem le25_4 : L25 4 = enter Try.prog (0, 0) H25_4 (E25_4 fu) := by kernel_rfl
theorem lm25 : ∀ x ∈ [c25_4], ∀ id, firstReg x = some id → LoopOk Try.prog (0, 0) x (L25 id) := (loops_cons fr25_4 le25_4 (ok25_4 fu) loops_nil)
theorem lp25 : ∀ x ∈ loopsOf c25, ∀ id, firstReg x = some id → LoopOk Try.prog (0, 0) x (L25 id) := loops_eq lq25 lm25
noncomputable def R25 (x : Bool) : Res := ⟨[.one (ab x)], [], []⟩
noncomputable def K25 (r : Res) : Option Bool :=
  match r with
  | ⟨[.one (.val (.bool v1))], [], []⟩ => some (v1)
  | _ => none
noncomputable def E25 : Fun2 := fun args bs rs =>
  match args, bs, rs with
  | [.s1 (.one (.sl 0)), .s1 (.one (.sl 1))], [], [⟨158, (.pair (.int .i64) (.pair (.int .i64) (.int .i64))), a1, .ro⟩, ⟨158, (.pair (.int .i64) (.pair (.int .i64) (.int .i64))), a2, .ro⟩] => some ⟨Bool, L.eqRecS a1 a2, R25⟩
  | _, _, _ => none
theorem ev25 (a1 a2 : List (Int × Int × Int)) : evF Try.prog G25 L25 (0, 0) [] Try.f25 c25 [vl 0, vl 1] [] [⟨158, (.pair (.int .i64) (.pair (.int .i64) (.int .i64))), a1, .ro⟩, ⟨158, (.pair (.int .i64) (.pair (.int .i64) (.int .i64))), a2, .ro⟩] K25 = L.eqRecS a1 a2 := by kernel_rfl
theorem good25 : Vm.Good Try.prog 25 E25 := by
  refine evF_good (G := G25) (c := c25) (envCons_good good101 envNil_good) Try.func25 (by kernel_rfl) (by kernel_rfl) (0, 0) (fun args bs rs out t h h2 => ?_)
  unfold E25 at h
  split at h
  · injection h with h
    subst h
    exact ⟨rfl, [], L25, K25, lp25, (fun r t h => by unfold K25 at h; split at h; (injection h with h; subst h; rfl); cases h), (ev25 _ _).trans h2⟩
  · cases h
/-! ### L.eqBox -/
noncomputable def G19 : Env := (envCons 18 [] E18 (envCons 25 [] E25 envNil))
noncomputable def c19 : Code := bodyOf Try.f19
noncomputable def L.eqBox (a1 a2 a3 a4 a5 a6 a7 a8 : Int) (a9 : List (Int × Int × Int × Int × Int × Int × Int × Int × List Int × Bool)) (a10 : List (Int × Int × Int)) (a11 : List (Int × Int × Int × Int × Int × Int × Int × Int × List Int × Bool)) (a12 : List (Int × Int × Int)) : Option Bool :=
(bif (a1 != a5) then
(some false)
else
(bif (a2 != a6) then
(some false)
else
(bif (a3 != a7) then
(some false)
else
(bif (a4 != a8) then
(some false)
else
(Option.bind (L.eqItemS a9 a11) fun r13 =>
(bif (!r13) then
(some false)
else
(Option.bind (L.eqRecS a10 a12) fun r14 =>
(bif (!r14) then
(some false)
else
(some true)))))))))
noncomputable def R19 (x : Bool) : Res := ⟨[.one (ab x)], [], []⟩
noncomputable def K19 (r : Res) : Option Bool :=
  match r with
  | ⟨[.one (.val (.bool v1))], [], []⟩ => some (v1)
  | _ => none
noncomputable def E19 : Fun2 := fun args bs rs =>
  match args, bs, rs with
  | [.s1 (.agg [.val (.int .i64 a1), .val (.int .i64 a2), .val (.int .i64 a3), .val (.int .i64 a4), .sl 0, .sl 1]), .s1 (.agg [.val (.int .i64 a5), .val (.int .i64 a6), .val (.int .i64 a7), .val (.int .i64 a8), .sl 2, .sl 3])], [], [⟨146, (.pair (.int .i64) (.pair (.int .i64) (.pair (.int .i64) (.pair (.int .i64) (.pair (.int .i64) (.pair (.int .i64) (.pair (.int .i64) (.pair (.int .i64) (.pair (.sl 3 (.int .i64)) .bool))))))))), a9, .ro⟩, ⟨158, (.pair (.int .i64) (.pair (.int .i64) (.int .i64))), a10, .ro⟩, ⟨146, (.pair (.int .i64) (.pair (.int .i64) (.pair (.int .i64) (.pair (.int .i64) (.pair (.int .i64) (.pair (.int .i64) (.pair (.int .i64) (.pair (.int .i64) (.pair (.sl 3 (.int .i64)) .bool))))))))), a11, .ro⟩, ⟨158, (.pair (.int .i64) (.pair (.int .i64) (.int .i64))), a12, .ro⟩] => some ⟨Bool, L.eqBox a1 a2 a3 a4 a5 a6 a7 a8 a9 a10 a11 a12, R19⟩
  | _, _, _ => none
theorem ev19 (a1 a2 a3 a4 a5 a6 a7 a8 : Int) (a9 : List (Int × Int × Int × Int × Int × Int × Int × Int × List Int × Bool)) (a10 : List (Int × Int × Int)) (a11 : List (Int × Int × Int × Int × Int × Int × Int × Int × List Int × Bool)) (a12 : List (Int × Int × Int)) : evF Try.prog G19 loopNil (0, 0) [] Try.f19 c19 [.s1 (.agg [ai a1, ai a2, ai a3, ai a4, .sl 0, .sl 1]), .s1 (.agg [ai a5, ai a6, ai a7, ai a8, .sl 2, .sl 3])] [] [⟨146, (.pair (.int .i64) (.pair (.int .i64) (.pair (.int .i64) (.pair (.int .i64) (.pair (.int .i64) (.pair (.int .i64) (.pair (.int .i64) (.pair (.int .i64) (.pair (.sl 3 (.int .i64)) .bool))))))))), a9, .ro⟩, ⟨158, (.pair (.int .i64) (.pair (.int .i64) (.int .i64))), a10, .ro⟩, ⟨146, (.pair (.int .i64) (.pair (.int .i64) (.pair (.int .i64) (.pair (.int .i64) (.pair (.int .i64) (.pair (.int .i64) (.pair (.int .i64) (.pair (.int .i64) (.pair (.sl 3 (.int .i64)) .bool))))))))), a11, .ro⟩, ⟨158, (.pair (.int .i64) (.pair (.int .i64) (.int .i64))), a12, .ro⟩] K19 = L.eqBox a1 a2 a3 a4 a5 a6 a7 a8 a9 a10 a11 a12 := by kernel_rfl
theorem good19 : Vm.Good Try.prog 19 E19 := by
  refine evF_good (G := G19) (c := c19) (envCons_good good18 (envCons_good good25 envNil_good)) Try.func19 (by kernel_rfl) (by kernel_rfl) (0, 0) (fun args bs rs out t h h2 => ?_)
  unfold E19 at h
  split at h
  · injection h with h
    subst h
    exact ⟨rfl, [], loopNil, K19, (by intro x hx; simp [show loopsOf c19 = [] from by kernel_rfl] at hx), (fun r t h => by unfold K19 at h; split at h; (injection h with h; subst h; rfl); cases h), (ev19 _ _ _ _ _ _ _ _ _ _ _ _).trans h2⟩
  · cases h
/-! ### L.markIntS -/
noncomputable def G96 : Env := envNil
noncomputable def c96 : Code := bodyOf Try.f96
noncomputable def c96_2 : Code := (loopsOf c96).getD 0 .skip
noncomputable def L.markIntS_l0 : Nat → (Int → List Int → Option (Int × List Int)) → Int → Int → List Int → Option (Int × List Int)
  | 0, _, _, _, _ => none
  | m + 1, e2_0, a3, a4, a5 =>
    (bif (decide (a4 < (a5.length : Int))) then
    (bif decide ((0 : Int) ≤ a4 ∧ a4 < (a5.length : Int)) then
    (L.markIntS_l0 m e2_0 (IntKind.wrap .i64 (a3 + 1)) (IntKind.wrap .i64 (a4 + 1)) (a5.set (Int.toNat a4) a3))
    else
    none)
    else
    (e2_0 a3 a5))
noncomputable def L.markIntS (a1 : Int) (a2 : List Int) : Option (Int × List Int) :=
(L.markIntS_l0 fu (fun y11 y12 =>
(some (y11, y12))) a1 0 a2)
noncomputable def H96_2 : LoopH := ⟨⟨((.one (.sl 0)) :: hh :: (hu 3 (hh :: (hu 13 [])))), [], [(3, (.int .i64), .own)]⟩, [2, 3, 4, 6, 7, 8, 9, 10, 11, 12, 13, 14, 15, 16, 17, 18], [], [0, 2, 3, 5, 6, 7, 8, 9, 10, 11, 12, 13, 14, 15, 16, 17, 18], []⟩
noncomputable def E96_2 (m : Nat) (ps : List Prm) (k : Kont (Int × List Int)) : Option (Int × List Int) :=
  match ps with
  | [.v (.int .i64 a3), .v (.int .i64 a4), .row (.int .i64) a5] => L.markIntS_l0 m (fun z15 z16 => k (.exit 0) (⟨((.s1 (.one (.unk))) :: (vi z15) :: (vu 17 [])), [], [⟨3, (.int .i64), z16, .own⟩]⟩ : St)) a3 a4 a5
  | _ => none
noncomputable def S96_2 (a3 a4 : Int) (a5 : List Int) : St := (⟨((vl 0) :: (vi a3) :: (vu 3 ((vi a4) :: (vu 13 [])))), [], [⟨3, (.int .i64), a5, .own⟩]⟩ : St)
theorem ev96_2 (m : Nat) (k : Kont (Int × List Int)) (a3 a4 : Int) (a5 : List Int) : evC Try.prog G96 loopNil c96_2 (S96_2 a3 a4 a5) (turn Try.prog (0, 1) H96_2 (E96_2 m) k) = E96_2 (m + 1) [.v (.int .i64 a3), .v (.int .i64 a4), .row (.int .i64) a5] k := by kernel_rfl
theorem ok96_2 (m : Nat) : LoopOk Try.prog (0, 1) c96_2 (enter Try.prog (0, 1) H96_2 (E96_2 m)) := by
  refine loop_ok (G := G96) (L := loopNil) envNil_good (by intro x hx; simp [show loopsOf c96_2 = [] from by kernel_rfl] at hx) (fun ps k => by unfold E96_2; split <;> rfl) (fun m ps k r h => ?_) m
  have h0 := h
  unfold E96_2 at h
  split at h
  · exact ⟨S96_2 _ _ _, by kernel_rfl, (ev96_2 m k _ _ _).trans h0⟩
  · cases h
noncomputable def L96 : LEnv (Int × List Int) := (loopCons 2 (enter Try.prog (0, 1) H96_2 (E96_2 fu)) loopNil)
theorem lq96 : loopsOf c96 = [c96_2] := by kernel_rfl
theorem fr96_2 : firstReg c96_2 = some 2 := by kernel_rfl
theorem le96_2 : L96 2 = enter Try.prog (0, 1) H96_2 (E96_2 fu) := by kernel_rfl
theorem lm96 : ∀ x ∈ [c96_2], ∀ id, firstReg x = some id → LoopOk Try.prog (0, 1) x (L96 id) := (loops_cons fr96_2 le96_2 (ok96_2 fu) loops_nil)
theorem lp96 : ∀ x ∈ loopsOf c96, ∀ id, firstReg x = some id → LoopOk Try.prog (0, 1) x (L96 id) := loops_eq lq96 lm96
noncomputable def R96 (x : Int × List Int) : Res := ⟨[.one (ai x.1)], [], [⟨3, (.int .i64), x.2, .own⟩]⟩
noncomputable def K96 (r : Res) : Option (Int × List Int) :=
  match r with
  | ⟨[.one (.val (.int .i64 v1))], [], [⟨3, (.int .i64), v2, .own⟩]⟩ => some (v1, v2)
  | _ => none
noncomputable def E96 : Fun2 := fun args bs rs =>
  match args, bs, rs with
  | [.s1 (.one (.sl 0)), .s1 (.one (.val (.int .i64 a1)))], [], [⟨3, (.int .i64), a2, .own⟩] => some ⟨Int × List Int, L.markIntS a1 a2, R96⟩
  | _, _, _ => none
theorem ev96 (a1 : Int) (a2 : List Int) : evF Try.prog G96 L96 (0, 1) [] Try.f96 c96 [vl 0, vi a1] [] [⟨3, (.int .i64), a2, .own⟩] K96 = L.markIntS a1 a2 := by kernel_rfl
theorem good96 : Vm.Good Try.prog 96 E96 := by
  refine evF_good (G := G96) (c := c96) envNil_good Try.func96 (by kernel_rfl) (by kernel_rfl) (0, 1) (fun args bs rs out t h h2 => ?_)
  unfold E96 at h
  split at h
  · injection h with h
    subst h
    exact ⟨rfl, [], L96, K96, lp96, (fun r t h => by unfold K96 at h; split at h; (injection h with h; subst h; rfl); cases h), (ev96 _ _).trans h2⟩
  · cases h
/-! ### L.markItemS -/
noncomputable def G21 : Env := (envCons 96 [0] E96 envNil)
noncomputable def c21 : Code := bodyOf Try.f21
noncomputable def c21_2 : Code := (loopsOf c21).getD 0 .skip
noncomputable def L.markItemS_l0 : Nat → (Int → (List (Int × Int × Int × Int × Int × Int × Int × Int × List Int × Bool)) → Option (Int × (List (Int × Int × Int × Int × Int × Int × Int × Int × List Int × Bool)))) → Int → Int → (List (Int × Int × Int × Int × Int × Int × Int × Int × List Int × Bool)) → Option (Int × (List (Int × Int × Int × Int × Int × Int × Int × Int × List Int × Bool)))
  | 0, _, _, _, _ => none
  | m + 1, e2_0, a3, a4, a5 =>
    (bif (decide (a4 < (a5.length : Int))) then
    (bif decide ((0 : Int) ≤ a4 ∧ a4 < (a5.length : Int)) then
    (let v8 : List (Int × Int × Int × Int × Int × Int × Int × Int × List Int × Bool) := (a5.set (Int.toNat a4) (a3, (nthI a5 a4 ((0 : Int), ((0 : Int), ((0 : Int), ((0 : Int), ((0 : Int), ((0 : Int), ((0 : Int), ((0 : Int), ([], false)))))))))).2))
    (let v9 : Int := (IntKind.wrap .i64 (a3 + 1))
    (bif decide ((0 : Int) ≤ a4 ∧ a4 < (v8.length : Int)) then
    (let v10 : List (Int × Int × Int × Int × Int × Int × Int × Int × List Int × Bool) := (v8.set (Int.toNat a4) ((nthI v8 a4 ((0 : Int), ((0 : Int), ((0 : Int), ((0 : Int), ((0 : Int), ((0 : Int), ((0 : Int), ((0 : Int), ([], false)))))))))).1, (v9, (nthI v8 a4 ((0 : Int), ((0 : Int), ((0 : Int), ((0 : Int), ((0 : Int), ((0 : Int), ((0 : Int), ((0 : Int), ([], false)))))))))).2.2)))
    (let v11 : Int := (IntKind.wrap .i64 (v9 + 1))
    (bif decide ((0 : Int) ≤ a4 ∧ a4 < (v10.length : Int)) then
    (let v12 : List (Int × Int × Int × Int × Int × Int × Int × Int × List Int × Bool) := (v10.set (Int.toNat a4) ((nthI v10 a4 ((0 : Int), ((0 : Int), ((0 : Int), ((0 : Int), ((0 : Int), ((0 : Int), ((0 : Int), ((0 : Int), ([], false)))))))))).1, ((nthI v10 a4 ((0 : Int), ((0 : Int), ((0 : Int), ((0 : Int), ((0 : Int), ((0 : Int), ((0 : Int), ((0 : Int), ([], false)))))))))).2.1, (v11, (nthI v10 a4 ((0 : Int), ((0 : Int), ((0 : Int), ((0 : Int), ((0 : Int), ((0 : Int), ((0 : Int), ((0 : Int), ([], false)))))))))).2.2.2))))
    (let v13 : Int := (IntKind.wrap .i64 (v11 + 1))
    (bif decide ((0 : Int) ≤ a4 ∧ a4 < (v12.length : Int)) then
    (let v14 : List (Int × Int × Int × Int × Int × Int × Int × Int × List Int × Bool) := (v12.set (Int.toNat a4) ((nthI v12 a4 ((0 : Int), ((0 : Int), ((0 : Int), ((0 : Int), ((0 : Int), ((0 : Int), ((0 : Int), ((0 : Int), ([], false)))))))))).1, ((nthI v12 a4 ((0 : Int), ((0 : Int), ((0 : Int), ((0 : Int), ((0 : Int), ((0 : Int), ((0 : Int), ((0 : Int), ([], false)))))))))).2.1, ((nthI v12 a4 ((0 : Int), ((0 : Int), ((0 : Int), ((0 : Int), ((0 : Int), ((0 : Int), ((0 : Int), ((0 : Int), ([], false)))))))))).2.2.1, (v13, (nthI v12 a4 ((0 : Int), ((0 : Int), ((0 : Int), ((0 : Int), ((0 : Int), ((0 : Int), ((0 : Int), ((0 : Int), ([], false)))))))))).2.2.2.2)))))
    (let v15 : Int := (IntKind.wrap .i64 (v13 + 1))
    (bif decide ((0 : Int) ≤ a4 ∧ a4 < (v14.length : Int)) then
    (let v16 : List (Int × Int × Int × Int × Int × Int × Int × Int × List Int × Bool) := (v14.set (Int.toNat a4) ((nthI v14 a4 ((0 : Int), ((0 : Int), ((0 : Int), ((0 : Int), ((0 : Int), ((0 : Int), ((0 : Int), ((0 : Int), ([], false)))))))))).1, ((nthI v14 a4 ((0 : Int), ((0 : Int), ((0 : Int), ((0 : Int), ((0 : Int), ((0 : Int), ((0 : Int), ((0 : Int), ([], false)))))))))).2.1, ((nthI v14 a4 ((0 : Int), ((0 : Int), ((0 : Int), ((0 : Int), ((0 : Int), ((0 : Int), ((0 : Int), ((0 : Int), ([], false)))))))))).2.2.1, ((nthI v14 a4 ((0 : Int), ((0 : Int), ((0 : Int), ((0 : Int), ((0 : Int), ((0 : Int), ((0 : Int), ((0 : Int), ([], false)))))))))).2.2.2.1, (v15, (nthI v14 a4 ((0 : Int), ((0 : Int), ((0 : Int), ((0 : Int), ((0 : Int), ((0 : Int), ((0 : Int), ((0 : Int), ([], false)))))))))).2.2.2.2.2))))))
    (let v17 : Int := (IntKind.wrap .i64 (v15 + 1))
    (bif decide ((0 : Int) ≤ a4 ∧ a4 < (v16.length : Int)) then
    (let v18 : List (Int × Int × Int × Int × Int × Int × Int × Int × List Int × Bool) := (v16.set (Int.toNat a4) ((nthI v16 a4 ((0 : Int), ((0 : Int), ((0 : Int), ((0 : Int), ((0 : Int), ((0 : Int), ((0 : Int), ((0 : Int), ([], false)))))))))).1, ((nthI v16 a4 ((0 : Int), ((0 : Int), ((0 : Int), ((0 : Int), ((0 : Int), ((0 : Int), ((0 : Int), ((0 : Int), ([], false)))))))))).2.1, ((nthI v16 a4 ((0 : Int), ((0 : Int), ((0 : Int), ((0 : Int), ((0 : Int), ((0 : Int), ((0 : Int), ((0 : Int), ([], false)))))))))).2.2.1, ((nthI v16 a4 ((0 : Int), ((0 : Int), ((0 : Int), ((0 : Int), ((0 : Int), ((0 : Int), ((0 : Int), ((0 : Int), ([], false)))))))))).2.2.2.1, ((nthI v16 a4 ((0 : Int), ((0 : Int), ((0 : Int), ((0 : Int), ((0 : Int), ((0 : Int), ((0 : Int), ((0 : Int), ([], false)))))))))).2.2.2.2.1, (v17, (nthI v16 a4 ((0 : Int), ((0 : Int), ((0 : Int), ((0 : Int), ((0 : Int), ((0 : Int), ((0 : Int), ((0 : Int), ([], false)))))))))).2.2.2.2.2.2)))))))
    (let v19 : Int := (IntKind.wrap .i64 (v17 + 1))
    (bif decide ((0 : Int) ≤ a4 ∧ a4 < (v18.length : Int)) then
    (let v20 : List (Int × Int × Int × Int × Int × Int × Int × Int × List Int × Bool) := (v18.set (Int.toNat a4) ((nthI v18 a4 ((0 : Int), ((0 : Int), ((0 : Int), ((0 : Int), ((0 : Int), ((0 : Int), ((0 : Int), ((0 : Int), ([], false)))))))))).1, ((nthI v18 a4 ((0 : Int), ((0 : Int), ((0 : Int), ((0 : Int), ((0 : Int), ((0 : Int), ((0 : Int), ((0 : Int), ([], false)))))))))).2.1, ((nthI v18 a4 ((0 : Int), ((0 : Int), ((0 : Int), ((0 : Int), ((0 : Int), ((0 : Int), ((0 : Int), ((0 : Int), ([], false)))))))))).2.2.1, ((nthI v18 a4 ((0 : Int), ((0 : Int), ((0 : Int), ((0 : Int), ((0 : Int), ((0 : Int), ((0 : Int), ((0 : Int), ([], false)))))))))).2.2.2.1, ((nthI v18 a4 ((0 : Int), ((0 : Int), ((0 : Int), ((0 : Int), ((0 : Int), ((0 : Int), ((0 : Int), ((0 : Int), ([], false)))))))))).2.2.2.2.1, ((nthI v18 a4 ((0 : Int), ((0 : Int), ((0 : Int), ((0 : Int), ((0 : Int), ((0 : Int), ((0 : Int), ((0 : Int), ([], false)))))))))).2.2.2.2.2.1, (v19, (nthI v18 a4 ((0 : Int), ((0 : Int), ((0 : Int), ((0 : Int), ((0 : Int), ((0 : Int), ((0 : Int), ((0 : Int), ([], false)))))))))).2.2.2.2.2.2.2))))))))
    (let v21 : Int := (IntKind.wrap .i64 (v19 + 1))
    (bif decide ((0 : Int) ≤ a4 ∧ a4 < (v20.length : Int)) then
    (let v22 : List (Int × Int × Int × Int × Int × Int × Int × Int × List Int × Bool) := (v20.set (Int.toNat a4) ((nthI v20 a4 ((0 : Int), ((0 : Int), ((0 : Int), ((0 : Int), ((0 : Int), ((0 : Int), ((0 : Int), ((0 : Int), ([], false)))))))))).1, ((nthI v20 a4 ((0 : Int), ((0 : Int), ((0 : Int), ((0 : Int), ((0 : Int), ((0 : Int), ((0 : Int), ((0 : Int), ([], false)))))))))).2.1, ((nthI v20 a4 ((0 : Int), ((0 : Int), ((0 : Int), ((0 : Int), ((0 : Int), ((0 : Int), ((0 : Int), ((0 : Int), ([], false)))))))))).2.2.1, ((nthI v20 a4 ((0 : Int), ((0 : Int), ((0 : Int), ((0 : Int), ((0 : Int), ((0 : Int), ((0 : Int), ((0 : Int), ([], false)))))))))).2.2.2.1, ((nthI v20 a4 ((0 : Int), ((0 : Int), ((0 : Int), ((0 : Int), ((0 : Int), ((0 : Int), ((0 : Int), ((0 : Int), ([], false)))))))))).2.2.2.2.1, ((nthI v20 a4 ((0 : Int), ((0 : Int), ((0 : Int), ((0 : Int), ((0 : Int), ((0 : Int), ((0 : Int), ((0 : Int), ([], false)))))))))).2.2.2.2.2.1, ((nthI v20 a4 ((0 : Int), ((0 : Int), ((0 : Int), ((0 : Int), ((0 : Int), ((0 : Int), ((0 : Int), ((0 : Int), ([], false)))))))))).2.2.2.2.2.2.1, (v21, (nthI v20 a4 ((0 : Int), ((0 : Int), ((0 : Int), ((0 : Int), ((0 : Int), ((0 : Int), ((0 : Int), ((0 : Int), ([], false)))))))))).2.2.2.2.2.2.2.2)))))))))
    (bif decide ((0 : Int) ≤ a4 ∧ a4 < (v22.length : Int)) then
    (Option.bind (L.markIntS (IntKind.wrap .i64 (v21 + 1)) ((nthI v22 a4 ((0 : Int), ((0 : Int), ((0 : Int), ((0 : Int), ((0 : Int), ((0 : Int), ((0 : Int), ((0 : Int), ([], false)))))))))).2.2.2.2.2.2.2.2.1)) fun r24 =>
    (let v25 : List (Int × Int × Int × Int × Int × Int × Int × Int × List Int × Bool) := (v22.set (Int.toNat a4) ((nthI v22 a4 ((0 : Int), ((0 : Int), ((0 : Int), ((0 : Int), ((0 : Int), ((0 : Int), ((0 : Int), ((0 : Int), ([], false)))))))))).1, ((nthI v22 a4 ((0 : Int), ((0 : Int), ((0 : Int), ((0 : Int), ((0 : Int), ((0 : Int), ((0 : Int), ((0 : Int), ([], false)))))))))).2.1, ((nthI v22 a4 ((0 : Int), ((0 : Int), ((0 : Int), ((0 : Int), ((0 : Int), ((0 : Int), ((0 : Int), ((0 : Int), ([], false)))))))))).2.2.1, ((nthI v22 a4 ((0 : Int), ((0 : Int), ((0 : Int), ((0 : Int), ((0 : Int), ((0 : Int), ((0 : Int), ((0 : Int), ([], false)))))))))).2.2.2.1, ((nthI v22 a4 ((0 : Int), ((0 : Int), ((0 : Int), ((0 : Int), ((0 : Int), ((0 : Int), ((0 : Int), ((0 : Int), ([], false)))))))))).2.2.2.2.1, ((nthI v22 a4 ((0 : Int), ((0 : Int), ((0 : Int), ((0 : Int), ((0 : Int), ((0 : Int), ((0 : Int), ((0 : Int), ([], false)))))))))).2.2.2.2.2.1, ((nthI v22 a4 ((0 : Int), ((0 : Int), ((0 : Int), ((0 : Int), ((0 : Int), ((0 : Int), ((0 : Int), ((0 : Int), ([], false)))))))))).2.2.2.2.2.2.1, ((nthI v22 a4 ((0 : Int), ((0 : Int), ((0 : Int), ((0 : Int), ((0 : Int), ((0 : Int), ((0 : Int), ((0 : Int), ([], false)))))))))).2.2.2.2.2.2.2.1, (r24.2, (nthI v22 a4 ((0 : Int), ((0 : Int), ((0 : Int), ((0 : Int), ((0 : Int), ((0 : Int), ((0 : Int), ((0 : Int), ([], false)))))))))).2.2.2.2.2.2.2.2.2))))))))))
    (bif decide (3 = 0) then
    none
    else
    (bif decide ((0 : Int) ≤ a4 ∧ a4 < (v25.length : Int)) then
    (let v27 : List (Int × Int × Int × Int × Int × Int × Int × Int × List Int × Bool) := (v25.set (Int.toNat a4) ((nthI v25 a4 ((0 : Int), ((0 : Int), ((0 : Int), ((0 : Int), ((0 : Int), ((0 : Int), ((0 : Int), ((0 : Int), ([], false)))))))))).1, ((nthI v25 a4 ((0 : Int), ((0 : Int), ((0 : Int), ((0 : Int), ((0 : Int), ((0 : Int), ((0 : Int), ((0 : Int), ([], false)))))))))).2.1, ((nthI v25 a4 ((0 : Int), ((0 : Int), ((0 : Int), ((0 : Int), ((0 : Int), ((0 : Int), ((0 : Int), ((0 : Int), ([], false)))))))))).2.2.1, ((nthI v25 a4 ((0 : Int), ((0 : Int), ((0 : Int), ((0 : Int), ((0 : Int), ((0 : Int), ((0 : Int), ((0 : Int), ([], false)))))))))).2.2.2.1, ((nthI v25 a4 ((0 : Int), ((0 : Int), ((0 : Int), ((0 : Int), ((0 : Int), ((0 : Int), ((0 : Int), ((0 : Int), ([], false)))))))))).2.2.2.2.1, ((nthI v25 a4 ((0 : Int), ((0 : Int), ((0 : Int), ((0 : Int), ((0 : Int), ((0 : Int), ((0 : Int), ((0 : Int), ([], false)))))))))).2.2.2.2.2.1, ((nthI v25 a4 ((0 : Int), ((0 : Int), ((0 : Int), ((0 : Int), ((0 : Int), ((0 : Int), ((0 : Int), ((0 : Int), ([], false)))))))))).2.2.2.2.2.2.1, ((nthI v25 a4 ((0 : Int), ((0 : Int), ((0 : Int), ((0 : Int), ((0 : Int), ((0 : Int), ((0 : Int), ((0 : Int), ([], false)))))))))).2.2.2.2.2.2.2.1, ((nthI v25 a4 ((0 : Int), ((0 : Int), ((0 : Int), ((0 : Int), ((0 : Int), ((0 : Int), ((0 : Int), ((0 : Int), ([], false)))))))))).2.2.2.2.2.2.2.2.1, ((Int.tmod r24.1 3) == 0)))))))))))
    (L.markItemS_l0 m e2_0 (IntKind.wrap .i64 (r24.1 + 1)) (IntKind.wrap .i64 (a4 + 1)) v27))
    else
    none))))
    else
    none))
    else
    none)))
    else
    none)))
    else
    none)))
    else
    none)))
    else
    none)))
    else
    none)))
    else
    none)))
    else
    none)
    else
    (e2_0 a3 a5))
noncomputable def L.markItemS (a1 : Int) (a2 : List (Int × Int × Int × Int × Int × Int × Int × Int × List Int × Bool)) : Option (Int × (List (Int × Int × Int × Int × Int × Int × Int × Int × List Int × Bool))) :=
(L.markItemS_l0 fu (fun y30 y31 =>
(some (y30, y31))) a1 0 a2)
noncomputable def H21_2 : LoopH := ⟨⟨((.one (.sl 0)) :: hh :: (hu 3 (hh :: (hu 87 [])))), [], [(146, (.pair (.int .i64) (.pair (.int .i64) (.pair (.int .i64) (.pair (.int .i64) (.pair (.int .i64) (.pair (.int .i64) (.pair (.int .i64) (.pair (.int .i64) (.pair (.sl 3 (.int .i64)) .bool))))))))), .own)]⟩, [2, 3, 4, 6, 7, 8, 9, 10, 11, 12, 13, 14, 15, 16, 17, 18, 19, 20, 21, 22, 23, 24, 25, 26, 27, 28, 29, 30, 31, 32, 33, 34, 35, 36, 37, 38, 39, 40, 41, 42, 43, 44, 45, 46, 47, 48, 49, 50, 51, 52, 53, 54, 55, 56, 57, 58, 59, 60, 61, 62, 63, 64, 65, 66, 67, 68, 69, 70, 71, 72, 73, 74, 75, 76, 77, 78, 79, 80, 81, 82, 83, 84, 85, 86, 87, 88, 89, 90, 91, 92], [], [0, 2, 3, 5, 6, 7, 8, 9, 10, 11, 12, 13, 14, 15, 16, 17, 18, 19, 20, 21, 22, 23, 24, 25, 26, 27, 28, 29, 30, 31, 32, 33, 34, 35, 36, 37, 38, 39, 40, 41, 42, 43, 44, 45, 46, 47, 48, 49, 50, 51, 52, 53, 54, 55, 56, 57, 58, 59, 60, 61, 62, 63, 64, 65, 66, 67, 68, 69, 70, 71, 72, 73, 74, 75, 76, 77, 78, 79, 80, 81, 82, 83, 84, 85, 86, 87, 88, 89, 90, 91, 92], []⟩
noncomputable def E21_2 (m : Nat) (ps : List Prm) (k : Kont (Int × (List (Int × Int × Int × Int × Int × Int × Int × Int × List Int × Bool)))) : Option (Int × (List (Int × Int × Int × Int × Int × Int × Int × Int × List Int × Bool))) :=
  match ps with
  | [.v (.int .i64 a3), .v (.int .i64 a4), .row (.pair (.int .i64) (.pair (.int .i64) (.pair (.int .i64) (.pair (.int .i64) (.pair (.int .i64) (.pair (.int .i64) (.pair (.int .i64) (.pair (.int .i64) (.pair (.sl 3 (.int .i64)) .bool))))))))) a5] => L.markItemS_l0 m (fun z34 z35 => k (.exit 0) (⟨((.s1 (.one (.unk))) :: (vi z34) :: (vu 91 [])), [], [⟨146, (.pair (.int .i64) (.pair (.int .i64) (.pair (.int .i64) (.pair (.int .i64) (.pair (.int .i64) (.pair (.int .i64) (.pair (.int .i64) (.pair (.int .i64) (.pair (.sl 3 (.int .i64)) .bool))))))))), z35, .own⟩]⟩ : St)) a3 a4 a5
  | _ => none
noncomputable def S21_2 (a3 a4 : Int) (a5 : List (Int × Int × Int × Int × Int × Int × Int × Int × List Int × Bool)) : St := (⟨((vl 0) :: (vi a3) :: (vu 3 ((vi a4) :: (vu 87 [])))), [], [⟨146, (.pair (.int .i64) (.pair (.int .i64) (.pair (.int .i64) (.pair (.int .i64) (.pair (.int .i64) (.pair (.int .i64) (.pair (.int .i64) (.pair (.int .i64) (.pair (.sl 3 (.int .i64)) .bool))))))))), a5, .own⟩]⟩ : St)
theorem ev21_2 (m : Nat) (k : Kont (Int × (List (Int × Int × Int × Int × Int × Int × Int × Int × List Int × Bool)))) (a3 a4 : Int) (a5 : List (Int × Int × Int × Int × Int × Int × Int × Int × List Int × Bool)) : evC Try.prog G21 loopNil c21_2 (S21_2 a3 a4 a5) (turn Try.prog (0, 1) H21_2 (E21_2 m) k) = E21_2 (m + 1) [.v (.int .i64 a3), .v (.int .i64 a4), .row (.pair (.int .i64) (.pair (.int .i64) (.pair (.int .i64) (.pair (.int .i64) (.pair (.int .i64) (.pair (.int .i64) (.pair (.int .i64) (.pair (.int .i64) (.pair (.sl 3 (.int .i64)) .bool))))))))) a5] k := by kernel_rfl
theorem ok21_2 (m : Nat) : LoopOk Try.prog (0, 1) c21_2 (enter Try.prog (0, 1) H21_2 (E21_2 m)) := by
  refine loop_ok (G := G21) (L := loopNil) (envCons_good good96 envNil_good) (by intro x hx; simp [show loopsOf c21_2 = [] from by kernel_rfl] at hx) (fun ps k => by unfold E21_2; split <;> rfl) (fun m ps k r h => ?_) m
  have h0 := h
  unfold E21_2 at h
  split at h
  · exact ⟨S21_2 _ _ _, by kernel_rfl, (ev21_2 m k _ _ _).trans h0⟩
  · cases h
noncomputable def L21 : LEnv (Int × (List (Int × Int × Int × Int × Int × Int × Int × Int × List Int × Bool))) := (loopCons 2 (enter Try.prog (0, 1) H21_2 (E21_2 fu)) loopNil)
theorem lq21 : loopsOf c21 = [c21_2] := by kernel_rfl
theorem fr21_2 : firstReg c21_2 = some 2 := by kernel_rfl
theorem le21_2 : L21 2 = enter Try.prog (0, 1) H21_2 (E21_2 fu) := by kernel_rfl
theorem lm21 : ∀ x ∈ [c21_2], ∀ id, firstReg x = some id → LoopOk Try.prog (0, 1) x (L21 id) := (loops_cons fr21_2 le21_2 (ok21_2 fu) loops_nil)
theorem lp21 : ∀ x ∈ loopsOf c21, ∀ id, firstReg x = some id → LoopOk Try.prog (0, 1) x (L21 id) := loops_eq lq21 lm21
noncomputable def R21 (x : Int × (List (Int × Int × Int × Int × Int × Int × Int × Int × List Int × Bool))) : Res := ⟨[.one (ai x.1)], [], [⟨146, (.pair (.int .i64) (.pair (.int .i64) (.pair (.int .i64) (.pair (.int .i64) (.pair (.int .i64) (.pair (.int .i64) (.pair (.int .i64) (.pair (.int .i64) (.pair (.sl 3 (.int .i64)) .bool))))))))), x.2, .own⟩]⟩
noncomputable def K21 (r : Res) : Option (Int × (List (Int × Int × Int × Int × Int × Int × Int × Int × List Int × Bool))) :=
  match r with
  | ⟨[.one (.val (.int .i64 v1))], [], [⟨146, (.pair (.int .i64) (.pair (.int .i64) (.pair (.int .i64) (.pair (.int .i64) (.pair (.int .i64) (.pair (.int .i64) (.pair (.int .i64) (.pair (.int .i64) (.pair (.sl 3 (.int .i64)) .bool))))))))), v2, .own⟩]⟩ => some (v1, v2)
  | _ => none
noncomputable def E21 : Fun2 := fun args bs rs =>
  match args, bs, rs with
  | [.s1 (.one (.sl 0)), .s1 (.one (.val (.int .i64 a1)))], [], [⟨146, (.pair (.int .i64) (.pair (.int .i64) (.pair (.int .i64) (.pair (.int .i64) (.pair (.int .i64) (.pair (.int .i64) (.pair (.int .i64) (.pair (.int .i64) (.pair (.sl 3 (.int .i64)) .bool))))))))), a2, .own⟩] => some ⟨Int × (List (Int × Int × Int × Int × Int × Int × Int × Int × List Int × Bool)), L.markItemS a1 a2, R21⟩
  | _, _, _ => none
theorem ev21 (a1 : Int) (a2 : List (Int × Int × Int × Int × Int × Int × Int × Int × List Int × Bool)) : evF Try.prog G21 L21 (0, 1) [] Try.f21 c21 [vl 0, vi a1] [] [⟨146, (.pair (.int .i64) (.pair (.int .i64) (.pair (.int .i64) (.pair (.int .i64) (.pair (.int .i64) (.pair (.int .i64) (.pair (.int .i64) (.pair (.int .i64) (.pair (.sl 3 (.int .i64)) .bool))))))))), a2, .own⟩] K21 = L.markItemS a1 a2 := by kernel_rfl
theorem good21 : Vm.Good Try.prog 21 E21 := by
  refine evF_good (G := G21) (c := c21) (envCons_good good96 envNil_good) Try.func21 (by kernel_rfl) (by kernel_rfl) (0, 1) (fun args bs rs out t h h2 => ?_)
  unfold E21 at h
  split at h
  · injection h with h
    subst h
    exact ⟨rfl, [], L21, K21, lp21, (fun r t h => by unfold K21 at h; split at h; (injection h with h; subst h; rfl); cases h), (ev21 _ _).trans h2⟩
  · cases h
/-! ### L.markRecS -/
noncomputable def G26 : Env := envNil
noncomputable def c26 : Code := bodyOf Try.f26
noncomputable def c26_2 : Code := (loopsOf c26).getD 0 .skip
noncomputable def L.markRecS_l0 : Nat → (Int → (List (Int × Int × Int)) → Option (Int × (List (Int × Int × Int)))) → Int → Int → (List (Int × Int × Int)) → Option (Int × (List (Int × Int × Int)))
  | 0, _, _, _, _ => none
  | m + 1, e2_0, a3, a4, a5 =>
    (bif (decide (a4 < (a5.length : Int))) then
    (bif decide ((0 : Int) ≤ a4 ∧ a4 < (a5.length : Int)) then
    (let v8 : List (Int × Int × Int) := (a5.set (Int.toNat a4) (a3, (nthI a5 a4 ((0 : Int), ((0 : Int), (0 : Int)))).2))
    (let v9 : Int := (IntKind.wrap .i64 (a3 + 1))
    (bif decide ((0 : Int) ≤ a4 ∧ a4 < (v8.length : Int)) then
    (let v10 : List (Int × Int × Int) := (v8.set (Int.toNat a4) ((nthI v8 a4 ((0 : Int), ((0 : Int), (0 : Int)))).1, (v9, (nthI v8 a4 ((0 : Int), ((0 : Int), (0 : Int)))).2.2)))
    (let v11 : Int := (IntKind.wrap .i64 (v9 + 1))
    (bif decide ((0 : Int) ≤ a4 ∧ a4 < (v10.length : Int)) then
    (let v12 : List (Int × Int × Int) := (v10.set (Int.toNat a4) ((nthI v10 a4 ((0 : Int), ((0 : Int), (0 : Int)))).1, ((nthI v10 a4 ((0 : Int), ((0 : Int), (0 : Int)))).2.1, v11)))
    (L.markRecS_l0 m e2_0 (IntKind.wrap .i64 (v11 + 1)) (IntKind.wrap .i64 (a4 + 1)) v12))
    else
    none)))
    else
    none)))
    else
    none)
    else
    (e2_0 a3 a5))
noncomputable def L.markRecS (a1 : Int) (a2 : List (Int × Int × Int)) : Option (Int × (List (Int × Int × Int))) :=
(L.markRecS_l0 fu (fun y15 y16 =>
(some (y15, y16))) a1 0 a2)
noncomputable def H26_2 : LoopH := ⟨⟨((.one (.sl 0)) :: hh :: (hu 3 (hh :: (hu 28 [])))), [], [(158, (.pair (.int .i64) (.pair (.int .i64) (.int .i64))), .own)]⟩, [2, 3, 4, 6, 7, 8, 9, 10, 11, 12, 13, 14, 15, 16, 17, 18, 19, 20, 21, 22, 23, 24, 25, 26, 27, 28, 29, 30, 31, 32, 33], [], [0, 2, 3, 5, 6, 7, 8, 9, 10, 11, 12, 13, 14, 15, 16, 17, 18, 19, 20, 21, 22, 23, 24, 25, 26, 27, 28, 29, 30, 31, 32, 33], []⟩
noncomputable def E26_2 (m : Nat) (ps : List Prm) (k : Kont (Int × (List (Int × Int × Int)))) : Option (Int × (List (Int × Int × Int))) :=
  match ps with
  | [.v (.int .i64 a3), .v (.int .i64 a4), .row (.pair (.int .i64) (.pair (.int .i64) (.int .i64))) a5] => L.markRecS_l0 m (fun z19 z20 => k (.exit 0) (⟨((.s1 (.one (.unk))) :: (vi z19) :: (vu 32 [])), [], [⟨158, (.pair (.int .i64) (.pair (.int .i64) (.int .i64))), z20, .own⟩]⟩ : St)) a3 a4 a5
  | _ => none
noncomputable def S26_2 (a3 a4 : Int) (a5 : List (Int × Int × Int)) : St := (⟨((vl 0) :: (vi a3) :: (vu 3 ((vi a4) :: (vu 28 [])))), [], [⟨158, (.pair (.int .i64) (.pair (.int .i64) (.int .i64))), a5, .own⟩]⟩ : St)
theorem ev26_2 (m : Nat) (k : Kont (Int × (List (Int × Int × Int)))) (a3 a4 : Int) (a5 : List (Int × Int × Int)) : evC Try.prog G26 loopNil c26_2 (S26_2 a3 a4 a5) (turn Try.prog (0, 1) H26_2 (E26_2 m) k) = E26_2 (m + 1) [.v (.int .i64 a3), .v (.int .i64 a4), .row (.pair (.int .i64) (.pair (.int .i64) (.int .i64))) a5] k := by kernel_rfl
theorem ok26_2 (m : Nat) : LoopOk Try.prog (0, 1) c26_2 (enter Try.prog (0, 1) H26_2 (E26_2 m)) := by
  refine loop_ok (G := G26) (L := loopNil) envNil_good (by intro x hx; simp [show loopsOf c26_2 = [] from by kernel_rfl] at hx) (fun ps k => by unfold E26_2; split <;> rfl) (fun m ps k r h => ?_) m
  have h0 := h
  unfold E26_2 at h
  split at h
  · exact ⟨S26_2 _ _ _, by kernel_rfl, (ev26_2 m k _ _ _).trans h0⟩
  · cases h
noncomputable def L26 : LEnv (Int × (List (Int × Int × Int))) := (loopCons 2 (enter Try.prog (0, 1) H26_2 (E26_2 fu)) loopNil)
theorem lq26 : loopsOf c26 = [c26_2] := by kernel_rfl
theorem fr26_2 : firstReg c26_2 = some 2 := by kernel_rfl
theorem le26_2 : L26 2 = enter Try.prog (0, 1) H26_2 (E26_2 fu) := by kernel_rfl
theorem lm26 : ∀ x ∈ [c26_2], ∀ id, firstReg x = some id → LoopOk Try.prog (0, 1) x (L26 id) := (loops_cons fr26_2 le26_2 (ok26_2 fu) loops_nil)
theorem lp26 : ∀ x ∈ loopsOf c26, ∀ id, firstReg x = some id → LoopOk Try.prog (0, 1) x (L26 id) := loops_eq lq26 lm26
noncomputable def R26 (x : Int × (List (Int × Int × Int))) : Res := ⟨[.one (ai x.1)], [], [⟨158, (.pair (.int .i64) (.pair (.int .i64) (.int .i64))), x.2, .own⟩]⟩
noncomputable def K26 (r : Res) : Option (Int × (List (Int × Int × Int))) :=
  match r with
  | ⟨[.one (.val (.int .i64 v1))], [], [⟨158, (.pair (.int .i64) (.pair (.int .i64) (.int .i64))), v2, .own⟩]⟩ => some (v1, v2)
  | _ => none
noncomputable def E26 : Fun2 := fun args bs rs =>
  match args, bs, rs with
  | [.s1 (.one (.sl 0)), .s1 (.one (.val (.int .i64 a1)))], [], [⟨158, (.pair (.int .i64) (.pair (.int .i64) (.int .i64))), a2, .own⟩] => some ⟨Int × (List (Int × Int × Int)), L.markRecS a1 a2, R26⟩
  | _, _, _ => none
theorem ev26 (a1 : Int) (a2 : List (Int × Int × Int)) : evF Try.prog G26 L26 (0, 1) [] Try.f26 c26 [vl 0, vi a1] [] [⟨158, (.pair (.int .i64) (.pair (.int .i64) (.int .i64))), a2, .own⟩] K26 = L.markRecS a1 a2 := by kernel_rfl
theorem good26 : Vm.Good Try.prog 26 E26 := by
  refine evF_good (G := G26) (c := c26) envNil_good Try.func26 (by kernel_rfl) (by kernel_rfl) (0, 1) (fun args bs rs out t h h2 => ?_)
  unfold E26 at h
  split at h
  · injection h with h
    subst h
    exact ⟨rfl, [], L26, K26, lp26, (fun r t h => by unfold K26 at h; split at h; (injection h with h; subst h; rfl); cases h), (ev26 _ _).trans h2⟩
  · cases h
/-! ### L.markBox -/
noncomputable def G20 : Env := (envCons 21 [0] E21 (envCons 26 [0] E26 envNil))
noncomputable def c20 : Code := bodyOf Try.f20
noncomputable def L.markBox (a1 a2 a3 a4 a5 : Int) (a6 : List (Int × Int × Int × Int × Int × Int × Int × Int × List Int × Bool)) (a7 : List (Int × Int × Int)) : Option (Int × (List (Int × Int × Int × Int × Int × Int × Int × Int × List Int × Bool)) × (List (Int × Int × Int))) :=
(Option.bind (L.markItemS a5 a6) fun r8 =>
(Option.bind (L.markRecS r8.1 a7) fun r9 =>
(some (r9.1, r8.2, r9.2))))
noncomputable def R20 (x : Int × (List (Int × Int × Int × Int × Int × Int × Int × Int × List Int × Bool)) × (List (Int × Int × Int))) : Res := ⟨[.one (ai x.1)], [], [⟨146, (.pair (.int .i64) (.pair (.int .i64) (.pair (.int .i64) (.pair (.int .i64) (.pair (.int .i64) (.pair (.int .i64) (.pair (.int .i64) (.pair (.int .i64) (.pair (.sl 3 (.int .i64)) .bool))))))))), x.2.1, .own⟩, ⟨158, (.pair (.int .i64) (.pair (.int .i64) (.int .i64))), x.2.2, .own⟩]⟩
noncomputable def K20 (r : Res) : Option (Int × (List (Int × Int × Int × Int × Int × Int × Int × Int × List Int × Bool)) × (List (Int × Int × Int))) :=
  match r with
  | ⟨[.one (.val (.int .i64 v1))], [], [⟨146, (.pair (.int .i64) (.pair (.int .i64) (.pair (.int .i64) (.pair (.int .i64) (.pair (.int .i64) (.pair (.int .i64) (.pair (.int .i64) (.pair (.int .i64) (.pair (.sl 3 (.int .i64)) .bool))))))))), v2, .own⟩, ⟨158, (.pair (.int .i64) (.pair (.int .i64) (.int .i64))), v3, .own⟩]⟩ => some (v1, v2, v3)
  | _ => none
noncomputable def E20 : Fun2 := fun args bs rs =>
  match args, bs, rs with
  | [.s1 (.agg [.val (.int .i64 a1), .val (.int .i64 a2), .val (.int .i64 a3), .val (.int .i64 a4), .sl 0, .sl 1]), .s1 (.one (.val (.int .i64 a5)))], [], [⟨146, (.pair (.int .i64) (.pair (.int .i64) (.pair (.int .i64) (.pair (.int .i64) (.pair (.int .i64) (.pair (.int .i64) (.pair (.int .i64) (.pair (.int .i64) (.pair (.sl 3 (.int .i64)) .bool))))))))), a6, .own⟩, ⟨158, (.pair (.int .i64) (.pair (.int .i64) (.int .i64))), a7, .own⟩] => some ⟨Int × (List (Int × Int × Int × Int × Int × Int × Int × Int × List Int × Bool)) × (List (Int × Int × Int)), L.markBox a1 a2 a3 a4 a5 a6 a7, R20⟩
  | _, _, _ => none
theorem ev20 (a1 a2 a3 a4 a5 : Int) (a6 : List (Int × Int × Int × Int × Int × Int × Int × Int × List Int × Bool)) (a7 : List (Int × Int × Int)) : evF Try.prog G20 loopNil (0, 2) [] Try.f20 c20 [.s1 (.agg [ai a1, ai a2, ai a3, ai a4, .sl 0, .sl 1]), vi a5] [] [⟨146, (.pair (.int .i64) (.pair (.int .i64) (.pair (.int .i64) (.pair (.int .i64) (.pair (.int .i64) (.pair (.int .i64) (.pair (.int .i64) (.pair (.int .i64) (.pair (.sl 3 (.int .i64)) .bool))))))))), a6, .own⟩, ⟨158, (.pair (.int .i64) (.pair (.int .i64) (.int .i64))), a7, .own⟩] K20 = L.markBox a1 a2 a3 a4 a5 a6 a7 := by kernel_rfl
theorem good20 : Vm.Good Try.prog 20 E20 := by
  refine evF_good (G := G20) (c := c20) (envCons_good good21 (envCons_good good26 envNil_good)) Try.func20 (by kernel_rfl) (by kernel_rfl) (0, 2) (fun args bs rs out t h h2 => ?_)
  unfold E20 at h
  split at h
  · injection h with h
    subst h
    exact ⟨rfl, [], loopNil, K20, (by intro x hx; simp [show loopsOf c20 = [] from by kernel_rfl] at hx), (fun r t h => by unfold K20 at h; split at h; (injection h with h; subst h; rfl); cases h), (ev20 _ _ _ _ _ _ _).trans h2⟩
  · cases h
/-! ### L.markPane -/
noncomputable def G47 : Env := (envCons 96 [0] E96 envNil)
noncomputable def c47 : Code := bodyOf Try.f47
noncomputable def L.markPane (a1 a2 a3 a4 a5 a6 : Int) (a7 : Bool) (a8 : Int) (a9 : List Int) : Option (Int × List Int) :=
(Option.bind (L.markIntS a8 a9) fun r10 =>
(some (r10.1, r10.2)))
noncomputable def R47 (x : Int × List Int) : Res := ⟨[.one (ai x.1)], [], [⟨3, (.int .i64), x.2, .own⟩]⟩
noncomputable def K47 (r : Res) : Option (Int × List Int) :=
  match r with
  | ⟨[.one (.val (.int .i64 v1))], [], [⟨3, (.int .i64), v2, .own⟩]⟩ => some (v1, v2)
  | _ => none
noncomputable def E47 : Fun2 := fun args bs rs =>
  match args, bs, rs with
  | [.s1 (.agg [.val (.int .i64 a1), .val (.int .i64 a2), .val (.int .i64 a3), .val (.int .i64 a4), .val (.int .i64 a5), .val (.int .i64 a6), .sl 0, .val (.bool a7)]), .s1 (.one (.val (.int .i64 a8)))], [], [⟨3, (.int .i64), a9, .own⟩] => some ⟨Int × List Int, L.markPane a1 a2 a3 a4 a5 a6 a7 a8 a9, R47⟩
  | _, _, _ => none
theorem ev47 (a1 a2 a3 a4 a5 a6 : Int) (a7 : Bool) (a8 : Int) (a9 : List Int) : evF Try.prog G47 loopNil (0, 1) [] Try.f47 c47 [.s1 (.agg [ai a1, ai a2, ai a3, ai a4, ai a5, ai a6, .sl 0, ab a7]), vi a8] [] [⟨3, (.int .i64), a9, .own⟩] K47 = L.markPane a1 a2 a3 a4 a5 a6 a7 a8 a9 := by kernel_rfl
theorem good47 : Vm.Good Try.prog 47 E47 := by
  refine evF_good (G := G47) (c := c47) (envCons_good good96 envNil_good) Try.func47 (by kernel_rfl) (by kernel_rfl) (0, 1) (fun args bs rs out t h h2 => ?_)
  unfold E47 at h
  split at h
  · injection h with h
    subst h
    exact ⟨rfl, [], loopNil, K47, (by intro x hx; simp [show loopsOf c47 = [] from by kernel_rfl] at hx), (fun r t h => by unfold K47 at h; split at h; (injection h with h; subst h; rfl); cases h), (ev47 _ _ _ _ _ _ _ _ _).trans h2⟩
  · cases h
/-! ### L.heldIntS -/
noncomputable def G97 : Env := envNil
noncomputable def c97 : Code := bodyOf Try.f97
noncomputable def c97_2 : Code := (loopsOf c97).getD 0 .skip
noncomputable def L.heldIntS_l0 : Nat → (Int → Int → Option Int) → (Int → Option Int) → Int → Int → List Int → Option Int
  | 0, _, _, _, _, _ => none
  | m + 1, e2_0, e2_1, a3, a4, a5 =>
    (bif (decide (a4 < (a5.length : Int))) then
    (bif decide ((0 : Int) ≤ a4 ∧ a4 < (a5.length : Int)) then
    (bif ((nthI a5 a4 (0 : Int)) != a3) then
    (e2_0 a3 (-1))
    else
    (L.heldIntS_l0 m e2_0 e2_1 (IntKind.wrap .i64 (a3 + 1)) (IntKind.wrap .i64 (a4 + 1)) a5))
    else
    none)
    else
    (e2_1 a3))
noncomputable def L.heldIntS (a1 : Int) (a2 : List Int) : Option Int :=
(L.heldIntS_l0 fu (fun y11 y12 =>
(some y12)) (fun y13 =>
(some y13)) a1 0 a2)
noncomputable def H97_2 : LoopH := ⟨⟨((.one (.sl 0)) :: hh :: (hu 3 (hh :: (hu 15 [])))), [], [(3, (.int .i64), .ro)]⟩, [2, 3, 4, 6, 7, 8, 9, 10, 11, 12, 13, 14, 15, 16, 17, 18, 19, 20], [], [0, 2, 3, 5, 6, 7, 8, 9, 10, 11, 12, 13, 14, 15, 16, 17, 18, 19, 20], []⟩
noncomputable def E97_2 (m : Nat) (ps : List Prm) (k : Kont Int) : Option Int :=
  match ps with
  | [.v (.int .i64 a3), .v (.int .i64 a4), .row (.int .i64) a5] => L.heldIntS_l0 m (fun z17 z18 => k .ret (⟨((.s1 (.one (.unk))) :: (vi z17) :: (vu 2 ((vi z18) :: (vu 16 [])))), [], []⟩ : St)) (fun z19 => k (.exit 0) (⟨((.s1 (.one (.unk))) :: (vi z19) :: (vu 19 [])), [], []⟩ : St)) a3 a4 a5
  | _ => none
noncomputable def S97_2 (a3 a4 : Int) (a5 : List Int) : St := (⟨((vl 0) :: (vi a3) :: (vu 3 ((vi a4) :: (vu 15 [])))), [], [⟨3, (.int .i64), a5, .ro⟩]⟩ : St)
theorem ev97_2 (m : Nat) (k : Kont Int) (a3 a4 : Int) (a5 : List Int) : evC Try.prog G97 loopNil c97_2 (S97_2 a3 a4 a5) (turn Try.prog (0, 0) H97_2 (E97_2 m) k) = E97_2 (m + 1) [.v (.int .i64 a3), .v (.int .i64 a4), .row (.int .i64) a5] k := by kernel_rfl
theorem ok97_2 (m : Nat) : LoopOk Try.prog (0, 0) c97_2 (enter Try.prog (0, 0) H97_2 (E97_2 m)) := by
  refine loop_ok (G := G97) (L := loopNil) envNil_good (by intro x hx; simp [show loopsOf c97_2 = [] from by kernel_rfl] at hx) (fun ps k => by unfold E97_2; split <;> rfl) (fun m ps k r h => ?_) m
  have h0 := h
  unfold E97_2 at h
  split at h
  · exact ⟨S97_2 _ _ _, by kernel_rfl, (ev97_2 m k _ _ _).trans h0⟩
  · cases h
noncomputable def L97 : LEnv Int := (loopCons 2 (enter Try.prog (0, 0) H97_2 (E97_2 fu)) loopNil)
theorem lq97 : loopsOf c97 = [c97_2] := by kernel_rfl
theorem fr97_2 : firstReg c97_2 = some 2 := by kernel_rfl
theorem le97_2 : L97 2 = enter Try.prog (0, 0) H97_2 (E97_2 fu) := by kernel_rfl
theorem lm97 : ∀ x ∈ [c97_2], ∀ id, firstReg x = some id → LoopOk Try.prog (0, 0) x (L97 id) := (loops_cons fr97_2 le97_2 (ok97_2 fu) loops_nil)
theorem lp97 : ∀ x ∈ loopsOf c97, ∀ id, firstReg x = some id → LoopOk Try.prog (0, 0) x (L97 id) := loops_eq lq97 lm97
noncomputable def R97 (x : Int) : Res := ⟨[.one (ai x)], [], []⟩
noncomputable def K97 (r : Res) : Option Int :=
  match r with
  | ⟨[.one (.val (.int .i64 v1))], [], []⟩ => some (v1)
  | _ => none
noncomputable def E97 : Fun2 := fun args bs rs =>
  match args, bs, rs with
  | [.s1 (.one (.sl 0)), .s1 (.one (.val (.int .i64 a1)))], [], [⟨3, (.int .i64), a2, .ro⟩] => some ⟨Int, L.heldIntS a1 a2, R97⟩
  | _, _, _ => none
theorem ev97 (a1 : Int) (a2 : List Int) : evF Try.prog G97 L97 (0, 0) [] Try.f97 c97 [vl 0, vi a1] [] [⟨3, (.int .i64), a2, .ro⟩] K97 = L.heldIntS a1 a2 := by kernel_rfl
theorem good97 : Vm.Good Try.prog 97 E97 := by
  refine evF_good (G := G97) (c := c97) envNil_good Try.func97 (by kernel_rfl) (by kernel_rfl) (0, 0) (fun args bs rs out t h h2 => ?_)
  unfold E97 at h
  split at h
  · injection h with h
    subst h
    exact ⟨rfl, [], L97, K97, lp97, (fun r t h => by unfold K97 at h; split at h; (injection h with h; subst h; rfl); cases h), (ev97 _ _).trans h2⟩
  · cases h
end Go.Proofs.Ythddkomphkanbaa.Run
