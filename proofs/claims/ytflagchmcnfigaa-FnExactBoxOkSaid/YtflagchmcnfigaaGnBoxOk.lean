import Derived.Test.YtflagchmcnfigaaVmU
import Derived.Test.YtflagchmcnfigaaProg
namespace Go.Proofs.Ytflagchmcnfigaa.Run
open Go Go.RowKit Go.Proofs.YtflagchmcnfigaaW.PrintWords Go.Proofs.Ytflagchmcnfigaa.Vm
set_option linter.unusedVariables false
set_option maxRecDepth 100000

/-! ### L.szIntS -/
noncomputable def G146 : Env := envNil
noncomputable def c146 : Code := bodyOf Try.f146
noncomputable def L.szIntS (a1 : Int) (a2 : List Int) : Option Int :=
(let v4 : Int := (IntKind.wrap .i64 (a1 - (a2.length : Int)))
(bif (decide (v4 < 0)) then
(some (-1))
else
(some v4)))
noncomputable def R146 (x : Int) : Res := ⟨[.one (ai x)], [], []⟩
noncomputable def K146 (r : Res) : Option Int :=
  match r with
  | ⟨[.one (.val (.int .i64 v1))], [], []⟩ => some (v1)
  | _ => none
noncomputable def E146 : Fun2 := fun args bs rs =>
  match args, bs, rs with
  | [.s1 (.one (.sl 0)), .s1 (.one (.val (.int .i64 a1)))], [], [⟨3, (.int .i64), a2, .ro⟩] => some ⟨Int, L.szIntS a1 a2, R146⟩
  | _, _, _ => none
theorem ev146 (a1 : Int) (a2 : List Int) : evF Try.prog G146 loopNil (0, 0) Try.f146 c146 [vl 0, vi a1] [] [⟨3, (.int .i64), a2, .ro⟩] K146 = L.szIntS a1 a2 := by kernel_rfl
theorem good146 : Vm.Good Try.prog 146 E146 := by
  refine evF_good (G := G146) (c := c146) envNil_good Try.func146 (by kernel_rfl) (by kernel_rfl) (0, 0) (fun args bs rs out t h h2 => ?_)
  unfold E146 at h
  split at h
  · injection h with h
    subst h
    exact ⟨rfl, loopNil, K146, (by intro x hx; simp [show loopsOf c146 = [] from by kernel_rfl] at hx), (fun r t h => by unfold K146 at h; split at h; (injection h with h; subst h; rfl); cases h), (ev146 _ _).trans h2⟩
  · cases h
/-! ### L.szPane -/
noncomputable def G104 : Env := (envCons 146 [] E146 envNil)
noncomputable def c104 : Code := bodyOf Try.f104
noncomputable def L.szPane (a1 a2 a3 a4 a5 a6 : Int) (a7 : Bool) (a8 : Int) (a9 : List Int) : Option Int :=
(Option.bind (L.szIntS a8 a9) fun r10 =>
(bif (decide (r10 < 0)) then
(some (-1))
else
(some r10)))
noncomputable def R104 (x : Int) : Res := ⟨[.one (ai x)], [], []⟩
noncomputable def K104 (r : Res) : Option Int :=
  match r with
  | ⟨[.one (.val (.int .i64 v1))], [], []⟩ => some (v1)
  | _ => none
noncomputable def E104 : Fun2 := fun args bs rs =>
  match args, bs, rs with
  | [.s1 (.agg [.val (.int .i64 a1), .val (.int .i64 a2), .val (.int .i64 a3), .val (.int .i64 a4), .val (.int .i64 a5), .val (.int .i64 a6), .sl 0, .val (.bool a7)]), .s1 (.one (.val (.int .i64 a8)))], [], [⟨3, (.int .i64), a9, .ro⟩] => some ⟨Int, L.szPane a1 a2 a3 a4 a5 a6 a7 a8 a9, R104⟩
  | _, _, _ => none
theorem ev104 (a1 a2 a3 a4 a5 a6 : Int) (a7 : Bool) (a8 : Int) (a9 : List Int) : evF Try.prog G104 loopNil (0, 0) Try.f104 c104 [.s1 (.agg [ai a1, ai a2, ai a3, ai a4, ai a5, ai a6, .sl 0, ab a7]), vi a8] [] [⟨3, (.int .i64), a9, .ro⟩] K104 = L.szPane a1 a2 a3 a4 a5 a6 a7 a8 a9 := by kernel_rfl
theorem good104 : Vm.Good Try.prog 104 E104 := by
  refine evF_good (G := G104) (c := c104) (envCons_good good146 envNil_good) Try.func104 (by kernel_rfl) (by kernel_rfl) (0, 0) (fun args bs rs out t h h2 => ?_)
  unfold E104 at h
  split at h
  · injection h with h
    subst h
    exact ⟨rfl, loopNil, K104, (by intro x hx; simp [show loopsOf c104 = [] from by kernel_rfl] at hx), (fun r t h => by unfold K104 at h; split at h; (injection h with h; subst h; rfl); cases h), (ev104 _ _ _ _ _ _ _ _ _).trans h2⟩
  · cases h
/-! ### L.szItem -/
noncomputable def G137 : Env := (envCons 104 [] E104 envNil)
noncomputable def c137 : Code := bodyOf Try.f137
noncomputable def L.szItem (a1 a2 a3 a4 a5 a6 a7 a8 : Int) (a9 : Bool) (a10 : Int) (a11 : List Int) : Option Int :=
(Option.bind (L.szPane a3 a4 a5 a6 a7 a8 a9 a10 a11) fun r12 =>
(bif (decide (r12 < 0)) then
(some (-1))
else
(some r12)))
noncomputable def R137 (x : Int) : Res := ⟨[.one (ai x)], [], []⟩
noncomputable def K137 (r : Res) : Option Int :=
  match r with
  | ⟨[.one (.val (.int .i64 v1))], [], []⟩ => some (v1)
  | _ => none
noncomputable def E137 : Fun2 := fun args bs rs =>
  match args, bs, rs with
  | [.s1 (.agg [.val (.int .i64 a1), .val (.int .i64 a2), .val (.int .i64 a3), .val (.int .i64 a4), .val (.int .i64 a5), .val (.int .i64 a6), .val (.int .i64 a7), .val (.int .i64 a8), .sl 0, .val (.bool a9)]), .s1 (.one (.val (.int .i64 a10)))], [], [⟨3, (.int .i64), a11, .ro⟩] => some ⟨Int, L.szItem a1 a2 a3 a4 a5 a6 a7 a8 a9 a10 a11, R137⟩
  | _, _, _ => none
theorem ev137 (a1 a2 a3 a4 a5 a6 a7 a8 : Int) (a9 : Bool) (a10 : Int) (a11 : List Int) : evF Try.prog G137 loopNil (0, 0) Try.f137 c137 [.s1 (.agg [ai a1, ai a2, ai a3, ai a4, ai a5, ai a6, ai a7, ai a8, .sl 0, ab a9]), vi a10] [] [⟨3, (.int .i64), a11, .ro⟩] K137 = L.szItem a1 a2 a3 a4 a5 a6 a7 a8 a9 a10 a11 := by kernel_rfl
theorem good137 : Vm.Good Try.prog 137 E137 := by
  refine evF_good (G := G137) (c := c137) (envCons_good good104 envNil_good) Try.func137 (by kernel_rfl) (by kernel_rfl) (0, 0) (fun args bs rs out t h h2 => ?_)
  unfold E137 at h
  split at h
  · injection h with h
    subst h
    exact ⟨rfl, loopNil, K137, (by intro x hx; simp [show loopsOf c137 = [] from by kernel_rfl] at hx), (fun r t h => by unfold K137 at h; split at h; (injection h with h; subst h; rfl); cases h), (ev137 _ _ _ _ _ _ _ _ _ _ _).trans h2⟩
  · cases h
/-! ### L.szItemS -/
noncomputable def G85 : Env := (envCons 137 [] E137 envNil)
noncomputable def c85 : Code := bodyOf Try.f85
noncomputable def c85_5 : Code := (loopsOf c85).getD 0 .skip
noncomputable def L.szItemS_l0 : Nat → (Int → Int → Option Int) → (Int → Option Int) → Int → Int → (List (Int × Int × Int × Int × Int × Int × Int × Int × List Int × Bool)) → Option Int
  | 0, _, _, _, _, _ => none
  | m + 1, e5_0, e5_1, a6, a7, a8 =>
    (bif (decide (a7 < (a8.length : Int))) then
    (bif decide ((0 : Int) ≤ a7 ∧ a7 < (a8.length : Int)) then
    (Option.bind (L.szItem ((nthI a8 a7 ((0 : Int), ((0 : Int), ((0 : Int), ((0 : Int), ((0 : Int), ((0 : Int), ((0 : Int), ((0 : Int), ([], false)))))))))).1) ((nthI a8 a7 ((0 : Int), ((0 : Int), ((0 : Int), ((0 : Int), ((0 : Int), ((0 : Int), ((0 : Int), ((0 : Int), ([], false)))))))))).2.1) ((nthI a8 a7 ((0 : Int), ((0 : Int), ((0 : Int), ((0 : Int), ((0 : Int), ((0 : Int), ((0 : Int), ((0 : Int), ([], false)))))))))).2.2.1) ((nthI a8 a7 ((0 : Int), ((0 : Int), ((0 : Int), ((0 : Int), ((0 : Int), ((0 : Int), ((0 : Int), ((0 : Int), ([], false)))))))))).2.2.2.1) ((nthI a8 a7 ((0 : Int), ((0 : Int), ((0 : Int), ((0 : Int), ((0 : Int), ((0 : Int), ((0 : Int), ((0 : Int), ([], false)))))))))).2.2.2.2.1) ((nthI a8 a7 ((0 : Int), ((0 : Int), ((0 : Int), ((0 : Int), ((0 : Int), ((0 : Int), ((0 : Int), ((0 : Int), ([], false)))))))))).2.2.2.2.2.1) ((nthI a8 a7 ((0 : Int), ((0 : Int), ((0 : Int), ((0 : Int), ((0 : Int), ((0 : Int), ((0 : Int), ((0 : Int), ([], false)))))))))).2.2.2.2.2.2.1) ((nthI a8 a7 ((0 : Int), ((0 : Int), ((0 : Int), ((0 : Int), ((0 : Int), ((0 : Int), ((0 : Int), ((0 : Int), ([], false)))))))))).2.2.2.2.2.2.2.1) ((nthI a8 a7 ((0 : Int), ((0 : Int), ((0 : Int), ((0 : Int), ((0 : Int), ((0 : Int), ((0 : Int), ((0 : Int), ([], false)))))))))).2.2.2.2.2.2.2.2.2) a6 ((nthI a8 a7 ((0 : Int), ((0 : Int), ((0 : Int), ((0 : Int), ((0 : Int), ((0 : Int), ((0 : Int), ((0 : Int), ([], false)))))))))).2.2.2.2.2.2.2.2.1)) fun r11 =>
    (bif (decide (r11 < 0)) then
    (e5_0 r11 (-1))
    else
    (L.szItemS_l0 m e5_0 e5_1 r11 (IntKind.wrap .i64 (a7 + 1)) a8)))
    else
    none)
    else
    (e5_1 a6))
noncomputable def L.szItemS (a1 : Int) (a2 : List (Int × Int × Int × Int × Int × Int × Int × Int × List Int × Bool)) : Option Int :=
(let v4 : Int := (IntKind.wrap .i64 (a1 - (a2.length : Int)))
(bif (decide (v4 < 0)) then
(some (-1))
else
(L.szItemS_l0 fu (fun y14 y15 =>
(some y15)) (fun y16 =>
(some y16)) v4 0 a2)))
noncomputable def H85_5 : LoopH := ⟨⟨((.one (.sl 0)) :: hh :: (hu 3 (hh :: (hu 21 [])))), [], [(181, (.pair (.int .i64) (.pair (.int .i64) (.pair (.int .i64) (.pair (.int .i64) (.pair (.int .i64) (.pair (.int .i64) (.pair (.int .i64) (.pair (.int .i64) (.pair (.sl 3 (.int .i64)) .bool))))))))), .ro)]⟩, [2, 3, 4, 6, 7, 8, 9, 10, 11, 12, 13, 14, 15, 16, 17, 18, 19, 20, 21, 22, 23, 24, 25, 26], [], [0, 2, 3, 5, 6, 7, 8, 9, 10, 11, 12, 13, 14, 15, 16, 17, 18, 19, 20, 21, 22, 23, 24, 25, 26]⟩
noncomputable def E85_5 (m : Nat) (ps : List Prm) (k : Kont Int) : Option Int :=
  match ps with
  | [.v (.int .i64 a6), .v (.int .i64 a7), .row (.pair (.int .i64) (.pair (.int .i64) (.pair (.int .i64) (.pair (.int .i64) (.pair (.int .i64) (.pair (.int .i64) (.pair (.int .i64) (.pair (.int .i64) (.pair (.sl 3 (.int .i64)) .bool))))))))) a8] => L.szItemS_l0 m (fun z20 z21 => k .ret (⟨((.s1 (.one (.unk))) :: (vi z20) :: (vu 2 ((vi z21) :: (vu 22 [])))), [], []⟩ : St)) (fun z22 => k (.exit 0) (⟨((.s1 (.one (.unk))) :: (vi z22) :: (vu 25 [])), [], []⟩ : St)) a6 a7 a8
  | _ => none
noncomputable def S85_5 (a6 a7 : Int) (a8 : List (Int × Int × Int × Int × Int × Int × Int × Int × List Int × Bool)) : St := (⟨((vl 0) :: (vi a6) :: (vu 3 ((vi a7) :: (vu 21 [])))), [], [⟨181, (.pair (.int .i64) (.pair (.int .i64) (.pair (.int .i64) (.pair (.int .i64) (.pair (.int .i64) (.pair (.int .i64) (.pair (.int .i64) (.pair (.int .i64) (.pair (.sl 3 (.int .i64)) .bool))))))))), a8, .ro⟩]⟩ : St)
theorem ev85_5 (m : Nat) (k : Kont Int) (a6 a7 : Int) (a8 : List (Int × Int × Int × Int × Int × Int × Int × Int × List Int × Bool)) : evC Try.prog G85 loopNil c85_5 (S85_5 a6 a7 a8) (turn Try.prog (0, 0) H85_5 (E85_5 m) k) = E85_5 (m + 1) [.v (.int .i64 a6), .v (.int .i64 a7), .row (.pair (.int .i64) (.pair (.int .i64) (.pair (.int .i64) (.pair (.int .i64) (.pair (.int .i64) (.pair (.int .i64) (.pair (.int .i64) (.pair (.int .i64) (.pair (.sl 3 (.int .i64)) .bool))))))))) a8] k := by kernel_rfl
theorem ok85_5 (m : Nat) : LoopOk Try.prog (0, 0) c85_5 (enter Try.prog (0, 0) H85_5 (E85_5 m)) := by
  refine loop_ok (G := G85) (L := loopNil) (envCons_good good137 envNil_good) (by intro x hx; simp [show loopsOf c85_5 = [] from by kernel_rfl] at hx) (fun ps k => by unfold E85_5; split <;> rfl) (fun m ps k r h => ?_) m
  have h0 := h
  unfold E85_5 at h
  split at h
  · exact ⟨S85_5 _ _ _, by kernel_rfl, (ev85_5 m k _ _ _).trans h0⟩
  · cases h
noncomputable def L85 : LEnv Int := (loopCons 5 (enter Try.prog (0, 0) H85_5 (E85_5 fu)) loopNil)
theorem lq85 : loopsOf c85 = [c85_5] := by kernel_rfl
theorem fr85_5 : firstReg c85_5 = some 5 := by kernel_rfl
theorem le85_5 : L85 5 = enter Try.prog (0, 0) H85_5 (E85_5 fu) := by kernel_rfl
theorem lm85 : ∀ x ∈ [c85_5], ∀ id, firstReg x = some id → LoopOk Try.prog (0, 0) x (L85 id) := (loops_cons fr85_5 le85_5 (ok85_5 fu) loops_nil)
theorem lp85 : ∀ x ∈ loopsOf c85, ∀ id, firstReg x = some id → LoopOk Try.prog (0, 0) x (L85 id) := loops_eq lq85 lm85
noncomputable def R85 (x : Int) : Res := ⟨[.one (ai x)], [], []⟩
noncomputable def K85 (r : Res) : Option Int :=
  match r with
  | ⟨[.one (.val (.int .i64 v1))], [], []⟩ => some (v1)
  | _ => none
noncomputable def E85 : Fun2 := fun args bs rs =>
  match args, bs, rs with
  | [.s1 (.one (.sl 0)), .s1 (.one (.val (.int .i64 a1)))], [], [⟨181, (.pair (.int .i64) (.pair (.int .i64) (.pair (.int .i64) (.pair (.int .i64) (.pair (.int .i64) (.pair (.int .i64) (.pair (.int .i64) (.pair (.int .i64) (.pair (.sl 3 (.int .i64)) .bool))))))))), a2, .ro⟩] => some ⟨Int, L.szItemS a1 a2, R85⟩
  | _, _, _ => none
theorem ev85 (a1 : Int) (a2 : List (Int × Int × Int × Int × Int × Int × Int × Int × List Int × Bool)) : evF Try.prog G85 L85 (0, 0) Try.f85 c85 [vl 0, vi a1] [] [⟨181, (.pair (.int .i64) (.pair (.int .i64) (.pair (.int .i64) (.pair (.int .i64) (.pair (.int .i64) (.pair (.int .i64) (.pair (.int .i64) (.pair (.int .i64) (.pair (.sl 3 (.int .i64)) .bool))))))))), a2, .ro⟩] K85 = L.szItemS a1 a2 := by kernel_rfl
theorem good85 : Vm.Good Try.prog 85 E85 := by
  refine evF_good (G := G85) (c := c85) (envCons_good good137 envNil_good) Try.func85 (by kernel_rfl) (by kernel_rfl) (0, 0) (fun args bs rs out t h h2 => ?_)
  unfold E85 at h
  split at h
  · injection h with h
    subst h
    exact ⟨rfl, L85, K85, lp85, (fun r t h => by unfold K85 at h; split at h; (injection h with h; subst h; rfl); cases h), (ev85 _ _).trans h2⟩
  · cases h
/-! ### L.szRecS -/
noncomputable def G86 : Env := envNil
noncomputable def c86 : Code := bodyOf Try.f86
noncomputable def L.szRecS (a1 : Int) (a2 : List (Int × Int × Int)) : Option Int :=
(let v4 : Int := (IntKind.wrap .i64 (a1 - (a2.length : Int)))
(bif (decide (v4 < 0)) then
(some (-1))
else
(some v4)))
noncomputable def R86 (x : Int) : Res := ⟨[.one (ai x)], [], []⟩
noncomputable def K86 (r : Res) : Option Int :=
  match r with
  | ⟨[.one (.val (.int .i64 v1))], [], []⟩ => some (v1)
  | _ => none
noncomputable def E86 : Fun2 := fun args bs rs =>
  match args, bs, rs with
  | [.s1 (.one (.sl 0)), .s1 (.one (.val (.int .i64 a1)))], [], [⟨184, (.pair (.int .i64) (.pair (.int .i64) (.int .i64))), a2, .ro⟩] => some ⟨Int, L.szRecS a1 a2, R86⟩
  | _, _, _ => none
theorem ev86 (a1 : Int) (a2 : List (Int × Int × Int)) : evF Try.prog G86 loopNil (0, 0) Try.f86 c86 [vl 0, vi a1] [] [⟨184, (.pair (.int .i64) (.pair (.int .i64) (.int .i64))), a2, .ro⟩] K86 = L.szRecS a1 a2 := by kernel_rfl
theorem good86 : Vm.Good Try.prog 86 E86 := by
  refine evF_good (G := G86) (c := c86) envNil_good Try.func86 (by kernel_rfl) (by kernel_rfl) (0, 0) (fun args bs rs out t h h2 => ?_)
  unfold E86 at h
  split at h
  · injection h with h
    subst h
    exact ⟨rfl, loopNil, K86, (by intro x hx; simp [show loopsOf c86 = [] from by kernel_rfl] at hx), (fun r t h => by unfold K86 at h; split at h; (injection h with h; subst h; rfl); cases h), (ev86 _ _).trans h2⟩
  · cases h
/-! ### L.szBox -/
noncomputable def G28 : Env := (envCons 85 [] E85 (envCons 86 [] E86 envNil))
noncomputable def c28 : Code := bodyOf Try.f28
noncomputable def L.szBox (a1 a2 a3 a4 a5 : Int) (a6 : List (Int × Int × Int × Int × Int × Int × Int × Int × List Int × Bool)) (a7 : List (Int × Int × Int)) : Option Int :=
(Option.bind (L.szItemS a5 a6) fun r8 =>
(bif (decide (r8 < 0)) then
(some (-1))
else
(Option.bind (L.szRecS r8 a7) fun r10 =>
(bif (decide (r10 < 0)) then
(some (-1))
else
(some r10)))))
noncomputable def R28 (x : Int) : Res := ⟨[.one (ai x)], [], []⟩
noncomputable def K28 (r : Res) : Option Int :=
  match r with
  | ⟨[.one (.val (.int .i64 v1))], [], []⟩ => some (v1)
  | _ => none
noncomputable def E28 : Fun2 := fun args bs rs =>
  match args, bs, rs with
  | [.s1 (.agg [.val (.int .i64 a1), .val (.int .i64 a2), .val (.int .i64 a3), .val (.int .i64 a4), .sl 0, .sl 1]), .s1 (.one (.val (.int .i64 a5)))], [], [⟨181, (.pair (.int .i64) (.pair (.int .i64) (.pair (.int .i64) (.pair (.int .i64) (.pair (.int .i64) (.pair (.int .i64) (.pair (.int .i64) (.pair (.int .i64) (.pair (.sl 3 (.int .i64)) .bool))))))))), a6, .ro⟩, ⟨184, (.pair (.int .i64) (.pair (.int .i64) (.int .i64))), a7, .ro⟩] => some ⟨Int, L.szBox a1 a2 a3 a4 a5 a6 a7, R28⟩
  | _, _, _ => none
theorem ev28 (a1 a2 a3 a4 a5 : Int) (a6 : List (Int × Int × Int × Int × Int × Int × Int × Int × List Int × Bool)) (a7 : List (Int × Int × Int)) : evF Try.prog G28 loopNil (0, 0) Try.f28 c28 [.s1 (.agg [ai a1, ai a2, ai a3, ai a4, .sl 0, .sl 1]), vi a5] [] [⟨181, (.pair (.int .i64) (.pair (.int .i64) (.pair (.int .i64) (.pair (.int .i64) (.pair (.int .i64) (.pair (.int .i64) (.pair (.int .i64) (.pair (.int .i64) (.pair (.sl 3 (.int .i64)) .bool))))))))), a6, .ro⟩, ⟨184, (.pair (.int .i64) (.pair (.int .i64) (.int .i64))), a7, .ro⟩] K28 = L.szBox a1 a2 a3 a4 a5 a6 a7 := by kernel_rfl
theorem good28 : Vm.Good Try.prog 28 E28 := by
  refine evF_good (G := G28) (c := c28) (envCons_good good85 (envCons_good good86 envNil_good)) Try.func28 (by kernel_rfl) (by kernel_rfl) (0, 0) (fun args bs rs out t h h2 => ?_)
  unfold E28 at h
  split at h
  · injection h with h
    subst h
    exact ⟨rfl, loopNil, K28, (by intro x hx; simp [show loopsOf c28 = [] from by kernel_rfl] at hx), (fun r t h => by unfold K28 at h; split at h; (injection h with h; subst h; rfl); cases h), (ev28 _ _ _ _ _ _ _).trans h2⟩
  · cases h
/-! ### L.toIntS -/
noncomputable def G154 : Env := envNil
noncomputable def c154 : Code := bodyOf Try.f154
noncomputable def c154_3 : Code := (loopsOf c154).getD 0 .skip
noncomputable def L.toIntS_l0 : Nat → (List Int → Option (List Int)) → Int → List Int → List Int → Option (List Int)
  | 0, _, _, _, _ => none
  | m + 1, e3_0, a4, a5, a6 =>
    (bif (decide (a4 < (a5.length : Int))) then
    (bif decide ((0 : Int) ≤ a4 ∧ a4 < (a5.length : Int)) then
    (bif decide ((0 : Int) ≤ a4 ∧ a4 < (a6.length : Int)) then
    (L.toIntS_l0 m e3_0 (IntKind.wrap .i64 (a4 + 1)) a5 (a6.set (Int.toNat a4) (nthI a5 a4 (0 : Int))))
    else
    none)
    else
    none)
    else
    (e3_0 a6))
noncomputable def L.toIntS (a1 : List Int) : Option (List Int) :=
(let v2 : Int := (a1.length : Int)
(bif decide ((0 : Int) ≤ v2 ∧ v2 ≤ v2 ∧ (8 : Int) * v2 ≤ 281474976710656 ∧ v2 ≤ 9223372036854775807) then
(L.toIntS_l0 fu (fun y11 =>
(some y11)) 0 a1 (List.replicate (Int.toNat v2) (0 : Int)))
else
none))
noncomputable def H154_3 : LoopH := ⟨⟨((.one (.sl 0)) :: (hu 2 ((.one (.sl 1)) :: hh :: (hu 17 [])))), [], [(3, (.int .i64), .ro), (3, (.int .i64), .own)]⟩, [1, 2, 5, 6, 7, 8, 9, 10, 11, 12, 13, 14, 15, 16, 17, 18, 19, 20, 21], [], [0, 1, 4, 5, 6, 7, 8, 9, 10, 11, 12, 13, 14, 15, 16, 17, 18, 19, 20, 21]⟩
noncomputable def E154_3 (m : Nat) (ps : List Prm) (k : Kont (List Int)) : Option (List Int) :=
  match ps with
  | [.v (.int .i64 a4), .row (.int .i64) a5, .row (.int .i64) a6] => L.toIntS_l0 m (fun z13 => k (.exit 0) (⟨(vu 3 ((vl 0) :: (vu 18 []))), [], [⟨3, (.int .i64), z13, .own⟩]⟩ : St)) a4 a5 a6
  | _ => none
noncomputable def S154_3 (a4 : Int) (a5 a6 : List Int) : St := (⟨((vl 0) :: (vu 2 ((vl 1) :: (vi a4) :: (vu 17 [])))), [], [⟨3, (.int .i64), a5, .ro⟩, ⟨3, (.int .i64), a6, .own⟩]⟩ : St)
theorem ev154_3 (m : Nat) (k : Kont (List Int)) (a4 : Int) (a5 a6 : List Int) : evC Try.prog G154 loopNil c154_3 (S154_3 a4 a5 a6) (turn Try.prog (0, 0) H154_3 (E154_3 m) k) = E154_3 (m + 1) [.v (.int .i64 a4), .row (.int .i64) a5, .row (.int .i64) a6] k := by kernel_rfl
theorem ok154_3 (m : Nat) : LoopOk Try.prog (0, 0) c154_3 (enter Try.prog (0, 0) H154_3 (E154_3 m)) := by
  refine loop_ok (G := G154) (L := loopNil) envNil_good (by intro x hx; simp [show loopsOf c154_3 = [] from by kernel_rfl] at hx) (fun ps k => by unfold E154_3; split <;> rfl) (fun m ps k r h => ?_) m
  have h0 := h
  unfold E154_3 at h
  split at h
  · exact ⟨S154_3 _ _ _, by kernel_rfl, (ev154_3 m k _ _ _).trans h0⟩
  · cases h
noncomputable def L154 : LEnv (List Int) := (loopCons 3 (enter Try.prog (0, 0) H154_3 (E154_3 fu)) loopNil)
theorem lq154 : loopsOf c154 = [c154_3] := by kernel_rfl
theorem fr154_3 : firstReg c154_3 = some 3 := by kernel_rfl
theorem le154_3 : L154 3 = enter Try.prog (0, 0) H154_3 (E154_3 fu) := by kernel_rfl
theorem lm154 : ∀ x ∈ [c154_3], ∀ id, firstReg x = some id → LoopOk Try.prog (0, 0) x (L154 id) := (loops_cons fr154_3 le154_3 (ok154_3 fu) loops_nil)
theorem lp154 : ∀ x ∈ loopsOf c154, ∀ id, firstReg x = some id → LoopOk Try.prog (0, 0) x (L154 id) := loops_eq lq154 lm154
noncomputable def R154 (x : List Int) : Res := ⟨[.one (.sl 0)], [], [⟨3, (.int .i64), x, .own⟩]⟩
noncomputable def K154 (r : Res) : Option (List Int) :=
  match r with
  | ⟨[.one (.sl 0)], [], [⟨3, (.int .i64), v1, .own⟩]⟩ => some (v1)
  | _ => none
noncomputable def E154 : Fun2 := fun args bs rs =>
  match args, bs, rs with
  | [.s1 (.one (.sl 0))], [], [⟨3, (.int .i64), a1, .ro⟩] => some ⟨List Int, L.toIntS a1, R154⟩
  | _, _, _ => none
theorem ev154 (a1 : List Int) : evF Try.prog G154 L154 (0, 0) Try.f154 c154 [vl 0] [] [⟨3, (.int .i64), a1, .ro⟩] K154 = L.toIntS a1 := by kernel_rfl
theorem good154 : Vm.Good Try.prog 154 E154 := by
  refine evF_good (G := G154) (c := c154) envNil_good Try.func154 (by kernel_rfl) (by kernel_rfl) (0, 0) (fun args bs rs out t h h2 => ?_)
  unfold E154 at h
  split at h
  · injection h with h
    subst h
    exact ⟨rfl, L154, K154, lp154, (fun r t h => by unfold K154 at h; split at h; (injection h with h; subst h; rfl); cases h), (ev154 _).trans h2⟩
  · cases h
/-! ### L.toPane -/
noncomputable def G107 : Env := (envCons 154 [] E154 envNil)
noncomputable def c107 : Code := bodyOf Try.f107
noncomputable def L.toPane (a1 a2 a3 a4 a5 a6 : Int) (a7 : Bool) (a8 : List Int) : Option (Int × Int × Int × Int × Int × Int × Bool × List Int) :=
(Option.bind (L.toIntS a8) fun r9 =>
(some (a1, a2, a3, a4, a5, a6, a7, r9)))
noncomputable def R107 (x : Int × Int × Int × Int × Int × Int × Bool × List Int) : Res := ⟨[.agg [ai x.1, ai x.2.1, ai x.2.2.1, ai x.2.2.2.1, ai x.2.2.2.2.1, ai x.2.2.2.2.2.1, .sl 0, ab x.2.2.2.2.2.2.1]], [], [⟨3, (.int .i64), x.2.2.2.2.2.2.2, .own⟩]⟩
noncomputable def K107 (r : Res) : Option (Int × Int × Int × Int × Int × Int × Bool × List Int) :=
  match r with
  | ⟨[.agg [.val (.int .i64 v1), .val (.int .i64 v2), .val (.int .i64 v3), .val (.int .i64 v4), .val (.int .i64 v5), .val (.int .i64 v6), .sl 0, .val (.bool v7)]], [], [⟨3, (.int .i64), v8, .own⟩]⟩ => some (v1, v2, v3, v4, v5, v6, v7, v8)
  | _ => none
noncomputable def E107 : Fun2 := fun args bs rs =>
  match args, bs, rs with
  | [.s1 (.agg [.val (.int .i64 a1), .val (.int .i64 a2), .val (.int .i64 a3), .val (.int .i64 a4), .val (.int .i64 a5), .val (.int .i64 a6), .sl 0, .val (.bool a7)])], [], [⟨3, (.int .i64), a8, .ro⟩] => some ⟨Int × Int × Int × Int × Int × Int × Bool × List Int, L.toPane a1 a2 a3 a4 a5 a6 a7 a8, R107⟩
  | _, _, _ => none
theorem ev107 (a1 a2 a3 a4 a5 a6 : Int) (a7 : Bool) (a8 : List Int) : evF Try.prog G107 loopNil (0, 0) Try.f107 c107 [.s1 (.agg [ai a1, ai a2, ai a3, ai a4, ai a5, ai a6, .sl 0, ab a7])] [] [⟨3, (.int .i64), a8, .ro⟩] K107 = L.toPane a1 a2 a3 a4 a5 a6 a7 a8 := by kernel_rfl
theorem good107 : Vm.Good Try.prog 107 E107 := by
  refine evF_good (G := G107) (c := c107) (envCons_good good154 envNil_good) Try.func107 (by kernel_rfl) (by kernel_rfl) (0, 0) (fun args bs rs out t h h2 => ?_)
  unfold E107 at h
  split at h
  · injection h with h
    subst h
    exact ⟨rfl, loopNil, K107, (by intro x hx; simp [show loopsOf c107 = [] from by kernel_rfl] at hx), (fun r t h => by unfold K107 at h; split at h; (injection h with h; subst h; rfl); cases h), (ev107 _ _ _ _ _ _ _ _).trans h2⟩
  · cases h
/-! ### L.toItem -/
noncomputable def G138 : Env := (envCons 107 [] E107 envNil)
noncomputable def c138 : Code := bodyOf Try.f138
noncomputable def L.toItem (a1 a2 a3 a4 a5 a6 a7 a8 : Int) (a9 : Bool) (a10 : List Int) : Option (Int × Int × Int × Int × Int × Int × Int × Int × Bool × List Int) :=
(Option.bind (L.toPane a3 a4 a5 a6 a7 a8 a9 a10) fun r11 =>
(some (a1, a2, r11.1, r11.2.1, r11.2.2.1, r11.2.2.2.1, r11.2.2.2.2.1, r11.2.2.2.2.2.1, r11.2.2.2.2.2.2.1, r11.2.2.2.2.2.2.2)))
noncomputable def R138 (x : Int × Int × Int × Int × Int × Int × Int × Int × Bool × List Int) : Res := ⟨[.agg [ai x.1, ai x.2.1, ai x.2.2.1, ai x.2.2.2.1, ai x.2.2.2.2.1, ai x.2.2.2.2.2.1, ai x.2.2.2.2.2.2.1, ai x.2.2.2.2.2.2.2.1, .sl 0, ab x.2.2.2.2.2.2.2.2.1]], [], [⟨3, (.int .i64), x.2.2.2.2.2.2.2.2.2, .own⟩]⟩
noncomputable def K138 (r : Res) : Option (Int × Int × Int × Int × Int × Int × Int × Int × Bool × List Int) :=
  match r with
  | ⟨[.agg [.val (.int .i64 v1), .val (.int .i64 v2), .val (.int .i64 v3), .val (.int .i64 v4), .val (.int .i64 v5), .val (.int .i64 v6), .val (.int .i64 v7), .val (.int .i64 v8), .sl 0, .val (.bool v9)]], [], [⟨3, (.int .i64), v10, .own⟩]⟩ => some (v1, v2, v3, v4, v5, v6, v7, v8, v9, v10)
  | _ => none
noncomputable def E138 : Fun2 := fun args bs rs =>
  match args, bs, rs with
  | [.s1 (.agg [.val (.int .i64 a1), .val (.int .i64 a2), .val (.int .i64 a3), .val (.int .i64 a4), .val (.int .i64 a5), .val (.int .i64 a6), .val (.int .i64 a7), .val (.int .i64 a8), .sl 0, .val (.bool a9)])], [], [⟨3, (.int .i64), a10, .ro⟩] => some ⟨Int × Int × Int × Int × Int × Int × Int × Int × Bool × List Int, L.toItem a1 a2 a3 a4 a5 a6 a7 a8 a9 a10, R138⟩
  | _, _, _ => none
theorem ev138 (a1 a2 a3 a4 a5 a6 a7 a8 : Int) (a9 : Bool) (a10 : List Int) : evF Try.prog G138 loopNil (0, 0) Try.f138 c138 [.s1 (.agg [ai a1, ai a2, ai a3, ai a4, ai a5, ai a6, ai a7, ai a8, .sl 0, ab a9])] [] [⟨3, (.int .i64), a10, .ro⟩] K138 = L.toItem a1 a2 a3 a4 a5 a6 a7 a8 a9 a10 := by kernel_rfl
theorem good138 : Vm.Good Try.prog 138 E138 := by
  refine evF_good (G := G138) (c := c138) (envCons_good good107 envNil_good) Try.func138 (by kernel_rfl) (by kernel_rfl) (0, 0) (fun args bs rs out t h h2 => ?_)
  unfold E138 at h
  split at h
  · injection h with h
    subst h
    exact ⟨rfl, loopNil, K138, (by intro x hx; simp [show loopsOf c138 = [] from by kernel_rfl] at hx), (fun r t h => by unfold K138 at h; split at h; (injection h with h; subst h; rfl); cases h), (ev138 _ _ _ _ _ _ _ _ _ _).trans h2⟩
  · cases h
/-! ### L.toItemS -/
noncomputable def G90 : Env := (envCons 138 [] E138 envNil)
noncomputable def c90 : Code := bodyOf Try.f90
noncomputable def c90_3 : Code := (loopsOf c90).getD 0 .skip
noncomputable def L.toItemS_l0 : Nat → ((List (Int × Int × Int × Int × Int × Int × Int × Int × List Int × Bool)) → Option ((List (Int × Int × Int × Int × Int × Int × Int × Int × List Int × Bool)))) → Int → (List (Int × Int × Int × Int × Int × Int × Int × Int × List Int × Bool)) → (List (Int × Int × Int × Int × Int × Int × Int × Int × List Int × Bool)) → Option ((List (Int × Int × Int × Int × Int × Int × Int × Int × List Int × Bool)))
  | 0, _, _, _, _ => none
  | m + 1, e3_0, a4, a5, a6 =>
    (bif (decide (a4 < (a5.length : Int))) then
    (bif decide ((0 : Int) ≤ a4 ∧ a4 < (a5.length : Int)) then
    (Option.bind (L.toItem ((nthI a5 a4 ((0 : Int), ((0 : Int), ((0 : Int), ((0 : Int), ((0 : Int), ((0 : Int), ((0 : Int), ((0 : Int), ([], false)))))))))).1) ((nthI a5 a4 ((0 : Int), ((0 : Int), ((0 : Int), ((0 : Int), ((0 : Int), ((0 : Int), ((0 : Int), ((0 : Int), ([], false)))))))))).2.1) ((nthI a5 a4 ((0 : Int), ((0 : Int), ((0 : Int), ((0 : Int), ((0 : Int), ((0 : Int), ((0 : Int), ((0 : Int), ([], false)))))))))).2.2.1) ((nthI a5 a4 ((0 : Int), ((0 : Int), ((0 : Int), ((0 : Int), ((0 : Int), ((0 : Int), ((0 : Int), ((0 : Int), ([], false)))))))))).2.2.2.1) ((nthI a5 a4 ((0 : Int), ((0 : Int), ((0 : Int), ((0 : Int), ((0 : Int), ((0 : Int), ((0 : Int), ((0 : Int), ([], false)))))))))).2.2.2.2.1) ((nthI a5 a4 ((0 : Int), ((0 : Int), ((0 : Int), ((0 : Int), ((0 : Int), ((0 : Int), ((0 : Int), ((0 : Int), ([], false)))))))))).2.2.2.2.2.1) ((nthI a5 a4 ((0 : Int), ((0 : Int), ((0 : Int), ((0 : Int), ((0 : Int), ((0 : Int), ((0 : Int), ((0 : Int), ([], false)))))))))).2.2.2.2.2.2.1) ((nthI a5 a4 ((0 : Int), ((0 : Int), ((0 : Int), ((0 : Int), ((0 : Int), ((0 : Int), ((0 : Int), ((0 : Int), ([], false)))))))))).2.2.2.2.2.2.2.1) ((nthI a5 a4 ((0 : Int), ((0 : Int), ((0 : Int), ((0 : Int), ((0 : Int), ((0 : Int), ((0 : Int), ((0 : Int), ([], false)))))))))).2.2.2.2.2.2.2.2.2) ((nthI a5 a4 ((0 : Int), ((0 : Int), ((0 : Int), ((0 : Int), ((0 : Int), ((0 : Int), ((0 : Int), ((0 : Int), ([], false)))))))))).2.2.2.2.2.2.2.2.1)) fun r9 =>
    (bif decide ((0 : Int) ≤ a4 ∧ a4 < (a6.length : Int)) then
    (let v10 : List (Int × Int × Int × Int × Int × Int × Int × Int × List Int × Bool) := (a6.set (Int.toNat a4) (r9.1, (r9.2.1, (r9.2.2.1, (r9.2.2.2.1, (r9.2.2.2.2.1, (r9.2.2.2.2.2.1, (r9.2.2.2.2.2.2.1, (r9.2.2.2.2.2.2.2.1, (r9.2.2.2.2.2.2.2.2.2, r9.2.2.2.2.2.2.2.2.1))))))))))
    (L.toItemS_l0 m e3_0 (IntKind.wrap .i64 (a4 + 1)) a5 v10))
    else
    none))
    else
    none)
    else
    (e3_0 a6))
noncomputable def L.toItemS (a1 : List (Int × Int × Int × Int × Int × Int × Int × Int × List Int × Bool)) : Option ((List (Int × Int × Int × Int × Int × Int × Int × Int × List Int × Bool))) :=
(let v2 : Int := (a1.length : Int)
(bif decide ((0 : Int) ≤ v2 ∧ v2 ≤ v2 ∧ (96 : Int) * v2 ≤ 281474976710656 ∧ v2 ≤ 9223372036854775807) then
(let v3 : List (Int × Int × Int × Int × Int × Int × Int × Int × List Int × Bool) := (List.replicate (Int.toNat v2) (0, (0, (0, (0, (0, (0, (0, (0, ([], false))))))))))
(L.toItemS_l0 fu (fun y12 =>
(some y12)) 0 a1 v3))
else
none))
noncomputable def H90_3 : LoopH := ⟨⟨((.one (.sl 0)) :: (hu 2 ((.one (.sl 1)) :: hh :: (hu 18 [])))), [], [(181, (.pair (.int .i64) (.pair (.int .i64) (.pair (.int .i64) (.pair (.int .i64) (.pair (.int .i64) (.pair (.int .i64) (.pair (.int .i64) (.pair (.int .i64) (.pair (.sl 3 (.int .i64)) .bool))))))))), .ro), (138, (.pair (.int .i64) (.pair (.int .i64) (.pair (.int .i64) (.pair (.int .i64) (.pair (.int .i64) (.pair (.int .i64) (.pair (.int .i64) (.pair (.int .i64) (.pair (.sl 3 (.int .i64)) .bool))))))))), .own)]⟩, [1, 2, 5, 6, 7, 8, 9, 10, 11, 12, 13, 14, 15, 16, 17, 18, 19, 20, 21, 22], [], [0, 1, 4, 5, 6, 7, 8, 9, 10, 11, 12, 13, 14, 15, 16, 17, 18, 19, 20, 21, 22]⟩
noncomputable def E90_3 (m : Nat) (ps : List Prm) (k : Kont ((List (Int × Int × Int × Int × Int × Int × Int × Int × List Int × Bool)))) : Option ((List (Int × Int × Int × Int × Int × Int × Int × Int × List Int × Bool))) :=
  match ps with
  | [.v (.int .i64 a4), .row (.pair (.int .i64) (.pair (.int .i64) (.pair (.int .i64) (.pair (.int .i64) (.pair (.int .i64) (.pair (.int .i64) (.pair (.int .i64) (.pair (.int .i64) (.pair (.sl 3 (.int .i64)) .bool))))))))) a5, .row (.pair (.int .i64) (.pair (.int .i64) (.pair (.int .i64) (.pair (.int .i64) (.pair (.int .i64) (.pair (.int .i64) (.pair (.int .i64) (.pair (.int .i64) (.pair (.sl 3 (.int .i64)) .bool))))))))) a6] => L.toItemS_l0 m (fun z14 => k (.exit 0) (⟨(vu 3 ((vl 0) :: (vu 19 []))), [], [⟨138, (.pair (.int .i64) (.pair (.int .i64) (.pair (.int .i64) (.pair (.int .i64) (.pair (.int .i64) (.pair (.int .i64) (.pair (.int .i64) (.pair (.int .i64) (.pair (.sl 3 (.int .i64)) .bool))))))))), z14, .own⟩]⟩ : St)) a4 a5 a6
  | _ => none
noncomputable def S90_3 (a4 : Int) (a5 a6 : List (Int × Int × Int × Int × Int × Int × Int × Int × List Int × Bool)) : St := (⟨((vl 0) :: (vu 2 ((vl 1) :: (vi a4) :: (vu 18 [])))), [], [⟨181, (.pair (.int .i64) (.pair (.int .i64) (.pair (.int .i64) (.pair (.int .i64) (.pair (.int .i64) (.pair (.int .i64) (.pair (.int .i64) (.pair (.int .i64) (.pair (.sl 3 (.int .i64)) .bool))))))))), a5, .ro⟩, ⟨138, (.pair (.int .i64) (.pair (.int .i64) (.pair (.int .i64) (.pair (.int .i64) (.pair (.int .i64) (.pair (.int .i64) (.pair (.int .i64) (.pair (.int .i64) (.pair (.sl 3 (.int .i64)) .bool))))))))), a6, .own⟩]⟩ : St)
theorem ev90_3 (m : Nat) (k : Kont ((List (Int × Int × Int × Int × Int × Int × Int × Int × List Int × Bool)))) (a4 : Int) (a5 a6 : List (Int × Int × Int × Int × Int × Int × Int × Int × List Int × Bool)) : evC Try.prog G90 loopNil c90_3 (S90_3 a4 a5 a6) (turn Try.prog (0, 0) H90_3 (E90_3 m) k) = E90_3 (m + 1) [.v (.int .i64 a4), .row (.pair (.int .i64) (.pair (.int .i64) (.pair (.int .i64) (.pair (.int .i64) (.pair (.int .i64) (.pair (.int .i64) (.pair (.int .i64) (.pair (.int .i64) (.pair (.sl 3 (.int .i64)) .bool))))))))) a5, .row (.pair (.int .i64) (.pair (.int .i64) (.pair (.int .i64) (.pair (.int .i64) (.pair (.int .i64) (.pair (.int .i64) (.pair (.int .i64) (.pair (.int .i64) (.pair (.sl 3 (.int .i64)) .bool))))))))) a6] k := by kernel_rfl
theorem ok90_3 (m : Nat) : LoopOk Try.prog (0, 0) c90_3 (enter Try.prog (0, 0) H90_3 (E90_3 m)) := by
  refine loop_ok (G := G90) (L := loopNil) (envCons_good good138 envNil_good) (by intro x hx; simp [show loopsOf c90_3 = [] from by kernel_rfl] at hx) (fun ps k => by unfold E90_3; split <;> rfl) (fun m ps k r h => ?_) m
  have h0 := h
  unfold E90_3 at h
  split at h
  · exact ⟨S90_3 _ _ _, by kernel_rfl, (ev90_3 m k _ _ _).trans h0⟩
  · cases h
noncomputable def L90 : LEnv ((List (Int × Int × Int × Int × Int × Int × Int × Int × List Int × Bool))) := (loopCons 3 (enter Try.prog (0, 0) H90_3 (E90_3 fu)) loopNil)
theorem lq90 : loopsOf c90 = [c90_3] := by kernel_rfl
theorem fr90_3 : firstReg c90_3 = some 3 := by kernel_rfl
theorem le90_3 : L90 3 = enter Try.prog (0, 0) H90_3 (E90_3 fu) := by kernel_rfl
theorem lm90 : ∀ x ∈ [c90_3], ∀ id, firstReg x = some id → LoopOk Try.prog (0, 0) x (L90 id) := (loops_cons fr90_3 le90_3 (ok90_3 fu) loops_nil)
theorem lp90 : ∀ x ∈ loopsOf c90, ∀ id, firstReg x = some id → LoopOk Try.prog (0, 0) x (L90 id) := loops_eq lq90 lm90
noncomputable def R90 (x : (List (Int × Int × Int × Int × Int × Int × Int × Int × List Int × Bool))) : Res := ⟨[.one (.sl 0)], [], [⟨138, (.pair (.int .i64) (.pair (.int .i64) (.pair (.int .i64) (.pair (.int .i64) (.pair (.int .i64) (.pair (.int .i64) (.pair (.int .i64) (.pair (.int .i64) (.pair (.sl 3 (.int .i64)) .bool))))))))), x, .own⟩]⟩
noncomputable def K90 (r : Res) : Option ((List (Int × Int × Int × Int × Int × Int × Int × Int × List Int × Bool))) :=
  match r with
  | ⟨[.one (.sl 0)], [], [⟨138, (.pair (.int .i64) (.pair (.int .i64) (.pair (.int .i64) (.pair (.int .i64) (.pair (.int .i64) (.pair (.int .i64) (.pair (.int .i64) (.pair (.int .i64) (.pair (.sl 3 (.int .i64)) .bool))))))))), v1, .own⟩]⟩ => some (v1)
  | _ => none
noncomputable def E90 : Fun2 := fun args bs rs =>
  match args, bs, rs with
  | [.s1 (.one (.sl 0))], [], [⟨181, (.pair (.int .i64) (.pair (.int .i64) (.pair (.int .i64) (.pair (.int .i64) (.pair (.int .i64) (.pair (.int .i64) (.pair (.int .i64) (.pair (.int .i64) (.pair (.sl 3 (.int .i64)) .bool))))))))), a1, .ro⟩] => some ⟨(List (Int × Int × Int × Int × Int × Int × Int × Int × List Int × Bool)), L.toItemS a1, R90⟩
  | _, _, _ => none
theorem ev90 (a1 : List (Int × Int × Int × Int × Int × Int × Int × Int × List Int × Bool)) : evF Try.prog G90 L90 (0, 0) Try.f90 c90 [vl 0] [] [⟨181, (.pair (.int .i64) (.pair (.int .i64) (.pair (.int .i64) (.pair (.int .i64) (.pair (.int .i64) (.pair (.int .i64) (.pair (.int .i64) (.pair (.int .i64) (.pair (.sl 3 (.int .i64)) .bool))))))))), a1, .ro⟩] K90 = L.toItemS a1 := by kernel_rfl
theorem good90 : Vm.Good Try.prog 90 E90 := by
  refine evF_good (G := G90) (c := c90) (envCons_good good138 envNil_good) Try.func90 (by kernel_rfl) (by kernel_rfl) (0, 0) (fun args bs rs out t h h2 => ?_)
  unfold E90 at h
  split at h
  · injection h with h
    subst h
    exact ⟨rfl, L90, K90, lp90, (fun r t h => by unfold K90 at h; split at h; (injection h with h; subst h; rfl); cases h), (ev90 _).trans h2⟩
  · cases h
/-! ### L.toRec -/
noncomputable def G139 : Env := envNil
noncomputable def c139 : Code := bodyOf Try.f139
noncomputable def L.toRec (a1 a2 a3 : Int) : Option (Int × Int × Int) :=
(some (a1, a2, a3))
noncomputable def R139 (x : Int × Int × Int) : Res := ⟨[.agg [ai x.1, ai x.2.1, ai x.2.2]], [], []⟩
noncomputable def K139 (r : Res) : Option (Int × Int × Int) :=
  match r with
  | ⟨[.agg [.val (.int .i64 v1), .val (.int .i64 v2), .val (.int .i64 v3)]], [], []⟩ => some (v1, v2, v3)
  | _ => none
noncomputable def E139 : Fun2 := fun args bs rs =>
  match args, bs, rs with
  | [.s1 (.agg [.val (.int .i64 a1), .val (.int .i64 a2), .val (.int .i64 a3)])], [], [] => some ⟨Int × Int × Int, L.toRec a1 a2 a3, R139⟩
  | _, _, _ => none
theorem ev139 (a1 a2 a3 : Int) : evF Try.prog G139 loopNil (0, 0) Try.f139 c139 [.s1 (.agg [ai a1, ai a2, ai a3])] [] [] K139 = L.toRec a1 a2 a3 := by kernel_rfl
theorem good139 : Vm.Good Try.prog 139 E139 := by
  refine evF_good (G := G139) (c := c139) envNil_good Try.func139 (by kernel_rfl) (by kernel_rfl) (0, 0) (fun args bs rs out t h h2 => ?_)
  unfold E139 at h
  split at h
  · injection h with h
    subst h
    exact ⟨rfl, loopNil, K139, (by intro x hx; simp [show loopsOf c139 = [] from by kernel_rfl] at hx), (fun r t h => by unfold K139 at h; split at h; (injection h with h; subst h; rfl); cases h), (ev139 _ _ _).trans h2⟩
  · cases h
/-! ### L.toRecS -/
noncomputable def G91 : Env := (envCons 139 [] E139 envNil)
noncomputable def c91 : Code := bodyOf Try.f91
noncomputable def c91_3 : Code := (loopsOf c91).getD 0 .skip
noncomputable def L.toRecS_l0 : Nat → ((List (Int × Int × Int)) → Option ((List (Int × Int × Int)))) → Int → (List (Int × Int × Int)) → (List (Int × Int × Int)) → Option ((List (Int × Int × Int)))
  | 0, _, _, _, _ => none
  | m + 1, e3_0, a4, a5, a6 =>
    (bif (decide (a4 < (a5.length : Int))) then
    (bif decide ((0 : Int) ≤ a4 ∧ a4 < (a5.length : Int)) then
    (Option.bind (L.toRec ((nthI a5 a4 ((0 : Int), ((0 : Int), (0 : Int)))).1) ((nthI a5 a4 ((0 : Int), ((0 : Int), (0 : Int)))).2.1) ((nthI a5 a4 ((0 : Int), ((0 : Int), (0 : Int)))).2.2)) fun r9 =>
    (bif decide ((0 : Int) ≤ a4 ∧ a4 < (a6.length : Int)) then
    (L.toRecS_l0 m e3_0 (IntKind.wrap .i64 (a4 + 1)) a5 (a6.set (Int.toNat a4) (r9.1, (r9.2.1, r9.2.2))))
    else
    none))
    else
    none)
    else
    (e3_0 a6))
noncomputable def L.toRecS (a1 : List (Int × Int × Int)) : Option ((List (Int × Int × Int))) :=
(let v2 : Int := (a1.length : Int)
(bif decide ((0 : Int) ≤ v2 ∧ v2 ≤ v2 ∧ (24 : Int) * v2 ≤ 281474976710656 ∧ v2 ≤ 9223372036854775807) then
(L.toRecS_l0 fu (fun y12 =>
(some y12)) 0 a1 (List.replicate (Int.toNat v2) (0, (0, 0))))
else
none))
noncomputable def H91_3 : LoopH := ⟨⟨((.one (.sl 0)) :: (hu 2 ((.one (.sl 1)) :: hh :: (hu 18 [])))), [], [(184, (.pair (.int .i64) (.pair (.int .i64) (.int .i64))), .ro), (141, (.pair (.int .i64) (.pair (.int .i64) (.int .i64))), .own)]⟩, [1, 2, 5, 6, 7, 8, 9, 10, 11, 12, 13, 14, 15, 16, 17, 18, 19, 20, 21, 22], [], [0, 1, 4, 5, 6, 7, 8, 9, 10, 11, 12, 13, 14, 15, 16, 17, 18, 19, 20, 21, 22]⟩
noncomputable def E91_3 (m : Nat) (ps : List Prm) (k : Kont ((List (Int × Int × Int)))) : Option ((List (Int × Int × Int))) :=
  match ps with
  | [.v (.int .i64 a4), .row (.pair (.int .i64) (.pair (.int .i64) (.int .i64))) a5, .row (.pair (.int .i64) (.pair (.int .i64) (.int .i64))) a6] => L.toRecS_l0 m (fun z14 => k (.exit 0) (⟨(vu 3 ((vl 0) :: (vu 19 []))), [], [⟨141, (.pair (.int .i64) (.pair (.int .i64) (.int .i64))), z14, .own⟩]⟩ : St)) a4 a5 a6
  | _ => none
noncomputable def S91_3 (a4 : Int) (a5 a6 : List (Int × Int × Int)) : St := (⟨((vl 0) :: (vu 2 ((vl 1) :: (vi a4) :: (vu 18 [])))), [], [⟨184, (.pair (.int .i64) (.pair (.int .i64) (.int .i64))), a5, .ro⟩, ⟨141, (.pair (.int .i64) (.pair (.int .i64) (.int .i64))), a6, .own⟩]⟩ : St)
theorem ev91_3 (m : Nat) (k : Kont ((List (Int × Int × Int)))) (a4 : Int) (a5 a6 : List (Int × Int × Int)) : evC Try.prog G91 loopNil c91_3 (S91_3 a4 a5 a6) (turn Try.prog (0, 0) H91_3 (E91_3 m) k) = E91_3 (m + 1) [.v (.int .i64 a4), .row (.pair (.int .i64) (.pair (.int .i64) (.int .i64))) a5, .row (.pair (.int .i64) (.pair (.int .i64) (.int .i64))) a6] k := by kernel_rfl
theorem ok91_3 (m : Nat) : LoopOk Try.prog (0, 0) c91_3 (enter Try.prog (0, 0) H91_3 (E91_3 m)) := by
  refine loop_ok (G := G91) (L := loopNil) (envCons_good good139 envNil_good) (by intro x hx; simp [show loopsOf c91_3 = [] from by kernel_rfl] at hx) (fun ps k => by unfold E91_3; split <;> rfl) (fun m ps k r h => ?_) m
  have h0 := h
  unfold E91_3 at h
  split at h
  · exact ⟨S91_3 _ _ _, by kernel_rfl, (ev91_3 m k _ _ _).trans h0⟩
  · cases h
noncomputable def L91 : LEnv ((List (Int × Int × Int))) := (loopCons 3 (enter Try.prog (0, 0) H91_3 (E91_3 fu)) loopNil)
theorem lq91 : loopsOf c91 = [c91_3] := by kernel_rfl
theorem fr91_3 : firstReg c91_3 = some 3 := by kernel_rfl
theorem le91_3 : L91 3 = enter Try.prog (0, 0) H91_3 (E91_3 fu) := by kernel_rfl
theorem lm91 : ∀ x ∈ [c91_3], ∀ id, firstReg x = some id → LoopOk Try.prog (0, 0) x (L91 id) := (loops_cons fr91_3 le91_3 (ok91_3 fu) loops_nil)
theorem lp91 : ∀ x ∈ loopsOf c91, ∀ id, firstReg x = some id → LoopOk Try.prog (0, 0) x (L91 id) := loops_eq lq91 lm91
noncomputable def R91 (x : (List (Int × Int × Int))) : Res := ⟨[.one (.sl 0)], [], [⟨141, (.pair (.int .i64) (.pair (.int .i64) (.int .i64))), x, .own⟩]⟩
noncomputable def K91 (r : Res) : Option ((List (Int × Int × Int))) :=
  match r with
  | ⟨[.one (.sl 0)], [], [⟨141, (.pair (.int .i64) (.pair (.int .i64) (.int .i64))), v1, .own⟩]⟩ => some (v1)
  | _ => none
noncomputable def E91 : Fun2 := fun args bs rs =>
  match args, bs, rs with
  | [.s1 (.one (.sl 0))], [], [⟨184, (.pair (.int .i64) (.pair (.int .i64) (.int .i64))), a1, .ro⟩] => some ⟨(List (Int × Int × Int)), L.toRecS a1, R91⟩
  | _, _, _ => none
theorem ev91 (a1 : List (Int × Int × Int)) : evF Try.prog G91 L91 (0, 0) Try.f91 c91 [vl 0] [] [⟨184, (.pair (.int .i64) (.pair (.int .i64) (.int .i64))), a1, .ro⟩] K91 = L.toRecS a1 := by kernel_rfl
theorem good91 : Vm.Good Try.prog 91 E91 := by
  refine evF_good (G := G91) (c := c91) (envCons_good good139 envNil_good) Try.func91 (by kernel_rfl) (by kernel_rfl) (0, 0) (fun args bs rs out t h h2 => ?_)
  unfold E91 at h
  split at h
  · injection h with h
    subst h
    exact ⟨rfl, L91, K91, lp91, (fun r t h => by unfold K91 at h; split at h; (injection h with h; subst h; rfl); cases h), (ev91 _).trans h2⟩
  · cases h
/-! ### L.toBox -/
noncomputable def G30 : Env := (envCons 90 [] E90 (envCons 91 [] E91 envNil))
noncomputable def c30 : Code := bodyOf Try.f30
noncomputable def L.toBox (a1 a2 a3 a4 : Int) (a5 : List (Int × Int × Int × Int × Int × Int × Int × Int × List Int × Bool)) (a6 : List (Int × Int × Int)) : Option (Int × Int × Int × Int × (List (Int × Int × Int × Int × Int × Int × Int × Int × List Int × Bool)) × (List (Int × Int × Int))) :=
(Option.bind (L.toItemS a5) fun r7 =>
(Option.bind (L.toRecS a6) fun r8 =>
(some (a1, a2, a3, a4, r7, r8))))
noncomputable def R30 (x : Int × Int × Int × Int × (List (Int × Int × Int × Int × Int × Int × Int × Int × List Int × Bool)) × (List (Int × Int × Int))) : Res := ⟨[.agg [ai x.1, ai x.2.1, ai x.2.2.1, ai x.2.2.2.1, .sl 0, .sl 1]], [], [⟨138, (.pair (.int .i64) (.pair (.int .i64) (.pair (.int .i64) (.pair (.int .i64) (.pair (.int .i64) (.pair (.int .i64) (.pair (.int .i64) (.pair (.int .i64) (.pair (.sl 3 (.int .i64)) .bool))))))))), x.2.2.2.2.1, .own⟩, ⟨141, (.pair (.int .i64) (.pair (.int .i64) (.int .i64))), x.2.2.2.2.2, .own⟩]⟩
noncomputable def K30 (r : Res) : Option (Int × Int × Int × Int × (List (Int × Int × Int × Int × Int × Int × Int × Int × List Int × Bool)) × (List (Int × Int × Int))) :=
  match r with
  | ⟨[.agg [.val (.int .i64 v1), .val (.int .i64 v2), .val (.int .i64 v3), .val (.int .i64 v4), .sl 0, .sl 1]], [], [⟨138, (.pair (.int .i64) (.pair (.int .i64) (.pair (.int .i64) (.pair (.int .i64) (.pair (.int .i64) (.pair (.int .i64) (.pair (.int .i64) (.pair (.int .i64) (.pair (.sl 3 (.int .i64)) .bool))))))))), v5, .own⟩, ⟨141, (.pair (.int .i64) (.pair (.int .i64) (.int .i64))), v6, .own⟩]⟩ => some (v1, v2, v3, v4, v5, v6)
  | _ => none
noncomputable def E30 : Fun2 := fun args bs rs =>
  match args, bs, rs with
  | [.s1 (.agg [.val (.int .i64 a1), .val (.int .i64 a2), .val (.int .i64 a3), .val (.int .i64 a4), .sl 0, .sl 1])], [], [⟨181, (.pair (.int .i64) (.pair (.int .i64) (.pair (.int .i64) (.pair (.int .i64) (.pair (.int .i64) (.pair (.int .i64) (.pair (.int .i64) (.pair (.int .i64) (.pair (.sl 3 (.int .i64)) .bool))))))))), a5, .ro⟩, ⟨184, (.pair (.int .i64) (.pair (.int .i64) (.int .i64))), a6, .ro⟩] => some ⟨Int × Int × Int × Int × (List (Int × Int × Int × Int × Int × Int × Int × Int × List Int × Bool)) × (List (Int × Int × Int)), L.toBox a1 a2 a3 a4 a5 a6, R30⟩
  | _, _, _ => none
theorem ev30 (a1 a2 a3 a4 : Int) (a5 : List (Int × Int × Int × Int × Int × Int × Int × Int × List Int × Bool)) (a6 : List (Int × Int × Int)) : evF Try.prog G30 loopNil (0, 0) Try.f30 c30 [.s1 (.agg [ai a1, ai a2, ai a3, ai a4, .sl 0, .sl 1])] [] [⟨181, (.pair (.int .i64) (.pair (.int .i64) (.pair (.int .i64) (.pair (.int .i64) (.pair (.int .i64) (.pair (.int .i64) (.pair (.int .i64) (.pair (.int .i64) (.pair (.sl 3 (.int .i64)) .bool))))))))), a5, .ro⟩, ⟨184, (.pair (.int .i64) (.pair (.int .i64) (.int .i64))), a6, .ro⟩] K30 = L.toBox a1 a2 a3 a4 a5 a6 := by kernel_rfl
theorem good30 : Vm.Good Try.prog 30 E30 := by
  refine evF_good (G := G30) (c := c30) (envCons_good good90 (envCons_good good91 envNil_good)) Try.func30 (by kernel_rfl) (by kernel_rfl) (0, 0) (fun args bs rs out t h h2 => ?_)
  unfold E30 at h
  split at h
  · injection h with h
    subst h
    exact ⟨rfl, loopNil, K30, (by intro x hx; simp [show loopsOf c30 = [] from by kernel_rfl] at hx), (fun r t h => by unfold K30 at h; split at h; (injection h with h; subst h; rfl); cases h), (ev30 _ _ _ _ _ _).trans h2⟩
  · cases h
/-! ### S.l10Cap -/
noncomputable def G77 : Env := envNil
noncomputable def c77 : Code := bodyOf Try.f77
noncomputable def S.l10Cap (a1 : Int) : Option Bool :=
(bif (decide (1 ≤ a1)) then
(some (decide (a1 ≤ 50)))
else
(some false))
noncomputable def R77 (x : Bool) : Res := ⟨[.one (ab x)], [], []⟩
noncomputable def K77 (r : Res) : Option Bool :=
  match r with
  | ⟨[.one (.val (.bool v1))], [], []⟩ => some (v1)
  | _ => none
noncomputable def E77 : Fun2 := fun args bs rs =>
  match args, bs, rs with
  | [.s1 (.one (.val (.int .i64 a1)))], [], [] => some ⟨Bool, S.l10Cap a1, R77⟩
  | _, _, _ => none
theorem ev77 (a1 : Int) : evF Try.prog G77 loopNil (0, 0) Try.f77 c77 [vi a1] [] [] K77 = S.l10Cap a1 := by kernel_rfl
theorem good77 : Vm.Good Try.prog 77 E77 := by
  refine evF_good (G := G77) (c := c77) envNil_good Try.func77 (by kernel_rfl) (by kernel_rfl) (0, 0) (fun args bs rs out t h h2 => ?_)
  unfold E77 at h
  split at h
  · injection h with h
    subst h
    exact ⟨rfl, loopNil, K77, (by intro x hx; simp [show loopsOf c77 = [] from by kernel_rfl] at hx), (fun r t h => by unfold K77 at h; split at h; (injection h with h; subst h; rfl); cases h), (ev77 _).trans h2⟩
  · cases h
/-! ### S.l10Count -/
noncomputable def G87 : Env := envNil
noncomputable def c87 : Code := bodyOf Try.f87
noncomputable def S.l10Count (a1 : Int) : Option Bool :=
(bif (decide (0 ≤ a1)) then
(some (decide (a1 ≤ 1000000)))
else
(some false))
noncomputable def R87 (x : Bool) : Res := ⟨[.one (ab x)], [], []⟩
noncomputable def K87 (r : Res) : Option Bool :=
  match r with
  | ⟨[.one (.val (.bool v1))], [], []⟩ => some (v1)
  | _ => none
noncomputable def E87 : Fun2 := fun args bs rs =>
  match args, bs, rs with
  | [.s1 (.one (.val (.int .i64 a1)))], [], [] => some ⟨Bool, S.l10Count a1, R87⟩
  | _, _, _ => none
theorem ev87 (a1 : Int) : evF Try.prog G87 loopNil (0, 0) Try.f87 c87 [vi a1] [] [] K87 = S.l10Count a1 := by kernel_rfl
theorem good87 : Vm.Good Try.prog 87 E87 := by
  refine evF_good (G := G87) (c := c87) envNil_good Try.func87 (by kernel_rfl) (by kernel_rfl) (0, 0) (fun args bs rs out t h h2 => ?_)
  unfold E87 at h
  split at h
  · injection h with h
    subst h
    exact ⟨rfl, loopNil, K87, (by intro x hx; simp [show loopsOf c87 = [] from by kernel_rfl] at hx), (fun r t h => by unfold K87 at h; split at h; (injection h with h; subst h; rfl); cases h), (ev87 _).trans h2⟩
  · cases h
/-! ### S.l10Rule -/
noncomputable def G88 : Env := envNil
noncomputable def c88 : Code := bodyOf Try.f88
noncomputable def S.l10Rule (a1 : Int) : Option Bool :=
(bif (decide ((-1) ≤ a1)) then
(some (decide (a1 ≤ 15)))
else
(some false))
noncomputable def R88 (x : Bool) : Res := ⟨[.one (ab x)], [], []⟩
noncomputable def K88 (r : Res) : Option Bool :=
  match r with
  | ⟨[.one (.val (.bool v1))], [], []⟩ => some (v1)
  | _ => none
noncomputable def E88 : Fun2 := fun args bs rs =>
  match args, bs, rs with
  | [.s1 (.one (.val (.int .i64 a1)))], [], [] => some ⟨Bool, S.l10Rule a1, R88⟩
  | _, _, _ => none
theorem ev88 (a1 : Int) : evF Try.prog G88 loopNil (0, 0) Try.f88 c88 [vi a1] [] [] K88 = S.l10Rule a1 := by kernel_rfl
theorem good88 : Vm.Good Try.prog 88 E88 := by
  refine evF_good (G := G88) (c := c88) envNil_good Try.func88 (by kernel_rfl) (by kernel_rfl) (0, 0) (fun args bs rs out t h h2 => ?_)
  unfold E88 at h
  split at h
  · injection h with h
    subst h
    exact ⟨rfl, loopNil, K88, (by intro x hx; simp [show loopsOf c88 = [] from by kernel_rfl] at hx), (fun r t h => by unfold K88 at h; split at h; (injection h with h; subst h; rfl); cases h), (ev88 _).trans h2⟩
  · cases h
/-! ### S.l04Key -/
noncomputable def G98 : Env := envNil
noncomputable def c98 : Code := bodyOf Try.f98
noncomputable def S.l04Key (a1 : Int) : Option Bool :=
(bif (decide (0 ≤ a1)) then
(some (decide (a1 ≤ 15)))
else
(some false))
noncomputable def R98 (x : Bool) : Res := ⟨[.one (ab x)], [], []⟩
noncomputable def K98 (r : Res) : Option Bool :=
  match r with
  | ⟨[.one (.val (.bool v1))], [], []⟩ => some (v1)
  | _ => none
noncomputable def E98 : Fun2 := fun args bs rs =>
  match args, bs, rs with
  | [.s1 (.one (.val (.int .i64 a1)))], [], [] => some ⟨Bool, S.l04Key a1, R98⟩
  | _, _, _ => none
theorem ev98 (a1 : Int) : evF Try.prog G98 loopNil (0, 0) Try.f98 c98 [vi a1] [] [] K98 = S.l04Key a1 := by kernel_rfl
theorem good98 : Vm.Good Try.prog 98 E98 := by
  refine evF_good (G := G98) (c := c98) envNil_good Try.func98 (by kernel_rfl) (by kernel_rfl) (0, 0) (fun args bs rs out t h h2 => ?_)
  unfold E98 at h
  split at h
  · injection h with h
    subst h
    exact ⟨rfl, loopNil, K98, (by intro x hx; simp [show loopsOf c98 = [] from by kernel_rfl] at hx), (fun r t h => by unfold K98 at h; split at h; (injection h with h; subst h; rfl); cases h), (ev98 _).trans h2⟩
  · cases h
/-! ### S.l06Win -/
noncomputable def G99 : Env := envNil
noncomputable def c99 : Code := bodyOf Try.f99
noncomputable def S.l06Win (a1 a2 : Int) : Option Bool :=
(bif (decide (0 ≤ a1)) then
(bif (decide (a1 < a2)) then
(some (decide (a2 ≤ 1100)))
else
(some false))
else
(some false))
noncomputable def R99 (x : Bool) : Res := ⟨[.one (ab x)], [], []⟩
noncomputable def K99 (r : Res) : Option Bool :=
  match r with
  | ⟨[.one (.val (.bool v1))], [], []⟩ => some (v1)
  | _ => none
noncomputable def E99 : Fun2 := fun args bs rs =>
  match args, bs, rs with
  | [.s1 (.agg [.val (.int .i64 a1), .val (.int .i64 a2)])], [], [] => some ⟨Bool, S.l06Win a1 a2, R99⟩
  | _, _, _ => none
theorem ev99 (a1 a2 : Int) : evF Try.prog G99 loopNil (0, 0) Try.f99 c99 [.s1 (.agg [ai a1, ai a2])] [] [] K99 = S.l06Win a1 a2 := by kernel_rfl
theorem good99 : Vm.Good Try.prog 99 E99 := by
  refine evF_good (G := G99) (c := c99) envNil_good Try.func99 (by kernel_rfl) (by kernel_rfl) (0, 0) (fun args bs rs out t h h2 => ?_)
  unfold E99 at h
  split at h
  · injection h with h
    subst h
    exact ⟨rfl, loopNil, K99, (by intro x hx; simp [show loopsOf c99 = [] from by kernel_rfl] at hx), (fun r t h => by unfold K99 at h; split at h; (injection h with h; subst h; rfl); cases h), (ev99 _ _).trans h2⟩
  · cases h
/-! ### S.PaneOk -/
noncomputable def G89 : Env := (envCons 98 [] E98 (envCons 99 [] E99 envNil))
noncomputable def c89 : Code := bodyOf Try.f89
noncomputable def S.PaneOk (a1 a2 a3 a4 a5 a6 : Int) (a7 : Bool) (a8 : List Int) : Option Bool :=
(bif (decide (a1 < 0)) then
(some false)
else
(bif (decide (4 ≤ a1)) then
(some false)
else
(Option.bind (S.l04Key a2) fun r11 =>
(bif (!r11) then
(some false)
else
(Option.bind (S.l06Win a3 a4) fun r12 =>
(bif (!r12) then
(some false)
else
(bif (decide (a5 < 0)) then
(some false)
else
(bif (decide (16 ≤ a5)) then
(some false)
else
(bif (decide (a6 < 1)) then
(some false)
else
(bif (decide (1000000 < a6)) then
(some false)
else
(bif (decide (4 < (a8.length : Int))) then
(some false)
else
(some (((a8.length : Int) == 0) == a7)))))))))))))
noncomputable def R89 (x : Bool) : Res := ⟨[.one (ab x)], [], []⟩
noncomputable def K89 (r : Res) : Option Bool :=
  match r with
  | ⟨[.one (.val (.bool v1))], [], []⟩ => some (v1)
  | _ => none
noncomputable def E89 : Fun2 := fun args bs rs =>
  match args, bs, rs with
  | [.s1 (.agg [.val (.int .i64 a1), .val (.int .i64 a2), .val (.int .i64 a3), .val (.int .i64 a4), .val (.int .i64 a5), .val (.int .i64 a6), .sl 0, .val (.bool a7)])], [], [⟨3, (.int .i64), a8, .ro⟩] => some ⟨Bool, S.PaneOk a1 a2 a3 a4 a5 a6 a7 a8, R89⟩
  | _, _, _ => none
theorem ev89 (a1 a2 a3 a4 a5 a6 : Int) (a7 : Bool) (a8 : List Int) : evF Try.prog G89 loopNil (0, 0) Try.f89 c89 [.s1 (.agg [ai a1, ai a2, ai a3, ai a4, ai a5, ai a6, .sl 0, ab a7])] [] [⟨3, (.int .i64), a8, .ro⟩] K89 = S.PaneOk a1 a2 a3 a4 a5 a6 a7 a8 := by kernel_rfl
theorem good89 : Vm.Good Try.prog 89 E89 := by
  refine evF_good (G := G89) (c := c89) (envCons_good good98 (envCons_good good99 envNil_good)) Try.func89 (by kernel_rfl) (by kernel_rfl) (0, 0) (fun args bs rs out t h h2 => ?_)
  unfold E89 at h
  split at h
  · injection h with h
    subst h
    exact ⟨rfl, loopNil, K89, (by intro x hx; simp [show loopsOf c89 = [] from by kernel_rfl] at hx), (fun r t h => by unfold K89 at h; split at h; (injection h with h; subst h; rfl); cases h), (ev89 _ _ _ _ _ _ _ _).trans h2⟩
  · cases h
/-! ### S.BoxOk -/
noncomputable def G29 : Env := (envCons 77 [] E77 (envCons 87 [] E87 (envCons 88 [] E88 (envCons 89 [] E89 envNil))))
noncomputable def c29 : Code := bodyOf Try.f29
noncomputable def c29_4 : Code := (loopsOf c29).getD 0 .skip
noncomputable def c29_9 : Code := (loopsOf c29).getD 1 .skip
noncomputable def c29_15 : Code := (loopsOf c29_9).getD 0 .skip
noncomputable def S.BoxOk_l0 : Nat → (Bool → Int → Int → Int → Int → (List (Int × Int × Int × Int × Int × Int × Int × Int × List Int × Bool)) → (List (Int × Int × Int)) → Option Bool) → (Int → Int → Int → Int → (List (Int × Int × Int × Int × Int × Int × Int × Int × List Int × Bool)) → (List (Int × Int × Int)) → Option Bool) → Int → Int → Int → Int → Int → (List (Int × Int × Int × Int × Int × Int × Int × Int × List Int × Bool)) → (List (Int × Int × Int)) → Option Bool
  | 0, _, _, _, _, _, _, _, _, _ => none
  | m + 1, e4_0, e4_1, a15, a16, a17, a18, a19, a20, a21 =>
    (bif (decide (a15 < (a20.length : Int))) then
    (bif decide ((0 : Int) ≤ a15 ∧ a15 < (a20.length : Int)) then
    (let v27 : Bool := ((nthI a20 a15 ((0 : Int), ((0 : Int), ((0 : Int), ((0 : Int), ((0 : Int), ((0 : Int), ((0 : Int), ((0 : Int), ([], false)))))))))).1 != (IntKind.wrap .i64 ((IntKind.wrap .i64 (a18 - (a20.length : Int))) + a15)))
    (bif v27 then
    (e4_0 false a16 a17 a18 a19 a20 a21)
    else
    (bif decide ((0 : Int) ≤ a15 ∧ a15 < (a20.length : Int)) then
    (let v28 : Bool := (decide ((nthI a20 a15 ((0 : Int), ((0 : Int), ((0 : Int), ((0 : Int), ((0 : Int), ((0 : Int), ((0 : Int), ((0 : Int), ([], false)))))))))).1 < 0))
    (bif v28 then
    (e4_0 false a16 a17 a18 a19 a20 a21)
    else
    (bif decide ((0 : Int) ≤ a15 ∧ a15 < (a20.length : Int)) then
    (Option.bind (S.l10Rule ((nthI a20 a15 ((0 : Int), ((0 : Int), ((0 : Int), ((0 : Int), ((0 : Int), ((0 : Int), ((0 : Int), ((0 : Int), ([], false)))))))))).2.1)) fun r29 =>
    (bif (!r29) then
    (e4_0 false a16 a17 a18 a19 a20 a21)
    else
    (bif decide ((0 : Int) ≤ a15 ∧ a15 < (a20.length : Int)) then
    (Option.bind (S.PaneOk ((nthI a20 a15 ((0 : Int), ((0 : Int), ((0 : Int), ((0 : Int), ((0 : Int), ((0 : Int), ((0 : Int), ((0 : Int), ([], false)))))))))).2.2.1) ((nthI a20 a15 ((0 : Int), ((0 : Int), ((0 : Int), ((0 : Int), ((0 : Int), ((0 : Int), ((0 : Int), ((0 : Int), ([], false)))))))))).2.2.2.1) ((nthI a20 a15 ((0 : Int), ((0 : Int), ((0 : Int), ((0 : Int), ((0 : Int), ((0 : Int), ((0 : Int), ((0 : Int), ([], false)))))))))).2.2.2.2.1) ((nthI a20 a15 ((0 : Int), ((0 : Int), ((0 : Int), ((0 : Int), ((0 : Int), ((0 : Int), ((0 : Int), ((0 : Int), ([], false)))))))))).2.2.2.2.2.1) ((nthI a20 a15 ((0 : Int), ((0 : Int), ((0 : Int), ((0 : Int), ((0 : Int), ((0 : Int), ((0 : Int), ((0 : Int), ([], false)))))))))).2.2.2.2.2.2.1) ((nthI a20 a15 ((0 : Int), ((0 : Int), ((0 : Int), ((0 : Int), ((0 : Int), ((0 : Int), ((0 : Int), ((0 : Int), ([], false)))))))))).2.2.2.2.2.2.2.1) ((nthI a20 a15 ((0 : Int), ((0 : Int), ((0 : Int), ((0 : Int), ((0 : Int), ((0 : Int), ((0 : Int), ((0 : Int), ([], false)))))))))).2.2.2.2.2.2.2.2.2) ((nthI a20 a15 ((0 : Int), ((0 : Int), ((0 : Int), ((0 : Int), ((0 : Int), ((0 : Int), ((0 : Int), ((0 : Int), ([], false)))))))))).2.2.2.2.2.2.2.2.1)) fun r30 =>
    (bif (!r30) then
    (e4_0 false a16 a17 a18 a19 a20 a21)
    else
    (S.BoxOk_l0 m e4_0 e4_1 (IntKind.wrap .i64 (a15 + 1)) a16 a17 a18 a19 a20 a21)))
    else
    none)))
    else
    none)))
    else
    none)))
    else
    none)
    else
    (e4_1 a16 a17 a18 a19 a20 a21))
noncomputable def S.BoxOk_l2 : Nat → (Bool → Int → Int → Int → Int → Int → (List (Int × Int × Int × Int × Int × Int × Int × Int × List Int × Bool)) → (List (Int × Int × Int)) → Option Bool) → (Int → Int → Int → Int → Int → (List (Int × Int × Int × Int × Int × Int × Int × Int × List Int × Bool)) → (List (Int × Int × Int)) → Option Bool) → Int → Int → Int → Int → Int → Int → Int → Int → Int → (List (Int × Int × Int × Int × Int × Int × Int × Int × List Int × Bool)) → (List (Int × Int × Int)) → Option Bool
  | 0, _, _, _, _, _, _, _, _, _, _, _, _, _ => none
  | m + 1, e15_0, e15_1, a62, a63, a64, a65, a66, a67, a68, a69, a70, a71, a72 =>
    (bif (decide (a63 < (a71.length : Int))) then
    (bif decide ((0 : Int) ≤ a63 ∧ a63 < (a71.length : Int)) then
    (let v75 : Bool := ((nthI a71 a63 ((0 : Int), ((0 : Int), ((0 : Int), ((0 : Int), ((0 : Int), ((0 : Int), ((0 : Int), ((0 : Int), ([], false)))))))))).1 == a68)
    (bif v75 then
    (bif decide ((0 : Int) ≤ a63 ∧ a63 < (a71.length : Int)) then
    (let v76 : Bool := ((nthI a71 a63 ((0 : Int), ((0 : Int), ((0 : Int), ((0 : Int), ((0 : Int), ((0 : Int), ((0 : Int), ((0 : Int), ([], false)))))))))).2.1 != a69)
    (bif v76 then
    (e15_0 false a62 a64 a65 a66 a67 a71 a72)
    else
    (bif decide ((0 : Int) ≤ a63 ∧ a63 < (a71.length : Int)) then
    (let v77 : Bool := ((nthI a71 a63 ((0 : Int), ((0 : Int), ((0 : Int), ((0 : Int), ((0 : Int), ((0 : Int), ((0 : Int), ((0 : Int), ([], false)))))))))).2.2.2.2.2.2.1 != a70)
    (bif v77 then
    (e15_0 false a62 a64 a65 a66 a67 a71 a72)
    else
    (S.BoxOk_l2 m e15_0 e15_1 a62 (IntKind.wrap .i64 (a63 + 1)) a64 a65 a66 a67 a68 a69 a70 a71 a72)))
    else
    none)))
    else
    none)
    else
    (S.BoxOk_l2 m e15_0 e15_1 a62 (IntKind.wrap .i64 (a63 + 1)) a64 a65 a66 a67 a68 a69 a70 a71 a72)))
    else
    none)
    else
    (e15_1 a62 a64 a65 a66 a67 a71 a72))
noncomputable def S.BoxOk_l1 : Nat → (Bool → Option Bool) → (Option Bool) → Int → Int → Int → Int → Int → (List (Int × Int × Int × Int × Int × Int × Int × Int × List Int × Bool)) → (List (Int × Int × Int)) → Option Bool
  | 0, _, _, _, _, _, _, _, _, _ => none
  | m + 1, e9_0, e9_1, a45, a46, a47, a48, a49, a50, a51 =>
    (bif (decide (a45 < (a51.length : Int))) then
    (bif decide ((0 : Int) ≤ a45 ∧ a45 < (a51.length : Int)) then
    (let v57 : Bool := ((nthI a51 a45 ((0 : Int), ((0 : Int), (0 : Int)))).1 != (IntKind.wrap .i64 ((IntKind.wrap .i64 (a48 - (a51.length : Int))) + a45)))
    (bif v57 then
    (e9_0 false)
    else
    (let v58 : Bool := (decide ((nthI a51 a45 ((0 : Int), ((0 : Int), (0 : Int)))).1 < 0))
    (bif v58 then
    (e9_0 false)
    else
    (Option.bind (S.l10Rule ((nthI a51 a45 ((0 : Int), ((0 : Int), (0 : Int)))).2.1)) fun r59 =>
    (bif (!r59) then
    (e9_0 false)
    else
    (let v60 : Bool := (decide ((nthI a51 a45 ((0 : Int), ((0 : Int), (0 : Int)))).2.2 < 0))
    (bif v60 then
    (e9_0 false)
    else
    (let v61 : Bool := (decide (16 ≤ (nthI a51 a45 ((0 : Int), ((0 : Int), (0 : Int)))).2.2))
    (bif v61 then
    (e9_0 false)
    else
    (S.BoxOk_l2 fu (fun y80 y81 y82 y83 y84 y85 y86 y87 =>
    (e9_0 y80)) (fun y88 y89 y90 y91 y92 y93 y94 =>
    (S.BoxOk_l1 m e9_0 e9_1 (IntKind.wrap .i64 (y88 + 1)) y89 y90 y91 y92 y93 y94)) a45 0 a46 a47 a48 a49 ((nthI a51 a45 ((0 : Int), ((0 : Int), (0 : Int)))).1) ((nthI a51 a45 ((0 : Int), ((0 : Int), (0 : Int)))).2.1) ((nthI a51 a45 ((0 : Int), ((0 : Int), (0 : Int)))).2.2) a50 a51)))))))))))
    else
    none)
    else
    e9_1)
noncomputable def S.BoxOk (a1 a2 a3 a4 : Int) (a5 : List (Int × Int × Int × Int × Int × Int × Int × Int × List Int × Bool)) (a6 : List (Int × Int × Int)) : Option Bool :=
(Option.bind (S.l10Cap a1) fun r7 =>
(bif (!r7) then
(some false)
else
(Option.bind (S.l10Cap a2) fun r8 =>
(bif (!r8) then
(some false)
else
(Option.bind (S.l10Count a3) fun r9 =>
(bif (!r9) then
(some false)
else
(Option.bind (S.l10Count a4) fun r10 =>
(bif (!r10) then
(some false)
else
(bif (decide (a1 < (a5.length : Int))) then
(some false)
else
(bif (decide (a2 < (a6.length : Int))) then
(some false)
else
(S.BoxOk_l0 fu (fun y32 y33 y34 y35 y36 y37 y38 =>
(some y32)) (fun y39 y40 y41 y42 y43 y44 =>
(S.BoxOk_l1 fu (fun y96 =>
(some y96)) (some true) 0 y39 y40 y41 y42 y43 y44)) 0 a1 a2 a3 a4 a5 a6)))))))))))
noncomputable def H29_4 : LoopH := ⟨⟨((.one (.unk)) :: (.one (.ptr 0 0)) :: (.one (.unk)) :: hh :: (hu 175 [])), [(52, [.hole, .hole, .hole, .hole, .sl 0, .sl 1])], [(138, (.pair (.int .i64) (.pair (.int .i64) (.pair (.int .i64) (.pair (.int .i64) (.pair (.int .i64) (.pair (.int .i64) (.pair (.int .i64) (.pair (.int .i64) (.pair (.sl 3 (.int .i64)) .bool))))))))), .ro), (141, (.pair (.int .i64) (.pair (.int .i64) (.int .i64))), .ro)]⟩, [0, 2, 4, 5, 6, 7, 8, 9, 10, 11, 12, 13, 14, 15, 16, 17, 18, 19, 20, 21, 22, 23, 24, 25, 26, 27, 28, 29, 30, 31, 32, 33, 34, 35, 36, 37, 38, 39, 40, 41, 42, 43, 44, 45, 46, 47, 48, 49, 50, 51, 52, 53, 54, 55, 56, 57, 58, 59, 60, 61, 62, 63, 64, 65, 66, 67, 68, 69, 70, 71, 72, 73, 74, 75, 76, 77, 78, 79, 80, 81, 82, 83, 84, 85, 86, 87, 88, 89, 90, 91, 92, 93, 94, 95, 96, 97, 98, 99, 100, 101, 102, 103, 104, 105, 106, 107, 108, 109, 110, 111, 112, 113, 114, 115, 116, 117, 118, 119, 120, 121, 122, 123, 124, 125, 126, 127, 128, 129, 130, 131, 132, 133, 134, 135, 136, 137, 138, 139, 140, 141, 142, 143, 144, 145, 146, 147, 148, 149, 150, 151, 152, 153, 154, 155, 156, 157, 158, 159, 160, 161, 162, 163, 164, 165, 166, 167, 168, 169, 170, 171, 172, 173, 174, 175, 176, 177, 178], [], [0, 3, 4, 5, 6, 7, 8, 9, 10, 11, 12, 13, 14, 15, 16, 17, 18, 19, 20, 21, 22, 23, 24, 25, 26, 27, 28, 29, 30, 31, 32, 33, 34, 35, 36, 37, 38, 39, 40, 41, 42, 43, 44, 45, 46, 47, 48, 49, 50, 51, 52, 53, 54, 55, 56, 57, 58, 59, 60, 61, 62, 63, 64, 65, 66, 67, 68, 69, 70, 71, 72, 73, 74, 75, 76, 77, 78, 79, 80, 81, 82, 83, 84, 85, 86, 87, 88, 89, 90, 91, 92, 93, 94, 95, 96, 97, 98, 99, 100, 101, 102, 103, 104, 105, 106, 107, 108, 109, 110, 111, 112, 113, 114, 115, 116, 117, 118, 119, 120, 121, 122, 123, 124, 125, 126, 127, 128, 129, 130, 131, 132, 133, 134, 135, 136, 137, 138, 139, 140, 141, 142, 143, 144, 145, 146, 147, 148, 149, 150, 151, 152, 153, 154, 155, 156, 157, 158, 159, 160, 161, 162, 163, 164, 165, 166, 167, 168, 169, 170, 171, 172, 173, 174, 175, 176, 177, 178]⟩
noncomputable def E29_4 (m : Nat) (ps : List Prm) (k : Kont Bool) : Option Bool :=
  match ps with
  | [.v (.int .i64 a15), .v (.int .i64 a16), .v (.int .i64 a17), .v (.int .i64 a18), .v (.int .i64 a19), .row (.pair (.int .i64) (.pair (.int .i64) (.pair (.int .i64) (.pair (.int .i64) (.pair (.int .i64) (.pair (.int .i64) (.pair (.int .i64) (.pair (.int .i64) (.pair (.sl 3 (.int .i64)) .bool))))))))) a20, .row (.pair (.int .i64) (.pair (.int .i64) (.int .i64))) a21] => S.BoxOk_l0 m (fun z126 z127 z128 z129 z130 z131 z132 => k .ret (⟨((.s1 (.one (.unk))) :: (vp 0 0) :: (vb z126) :: (vu 176 [])), [(52, [ai z127, ai z128, ai z129, ai z130, .sl 0, .sl 1])], [⟨138, (.pair (.int .i64) (.pair (.int .i64) (.pair (.int .i64) (.pair (.int .i64) (.pair (.int .i64) (.pair (.int .i64) (.pair (.int .i64) (.pair (.int .i64) (.pair (.sl 3 (.int .i64)) .bool))))))))), z131, .ro⟩, ⟨141, (.pair (.int .i64) (.pair (.int .i64) (.int .i64))), z132, .ro⟩]⟩ : St)) (fun z133 z134 z135 z136 z137 z138 => k (.exit 0) (⟨((.s1 (.one (.unk))) :: (vp 0 0) :: (vu 177 [])), [(52, [ai z133, ai z134, ai z135, ai z136, .sl 0, .sl 1])], [⟨138, (.pair (.int .i64) (.pair (.int .i64) (.pair (.int .i64) (.pair (.int .i64) (.pair (.int .i64) (.pair (.int .i64) (.pair (.int .i64) (.pair (.int .i64) (.pair (.sl 3 (.int .i64)) .bool))))))))), z137, .ro⟩, ⟨141, (.pair (.int .i64) (.pair (.int .i64) (.int .i64))), z138, .ro⟩]⟩ : St)) a15 a16 a17 a18 a19 a20 a21
  | _ => none
noncomputable def S29_4 (a15 a16 a17 a18 a19 : Int) (a20 : List (Int × Int × Int × Int × Int × Int × Int × Int × List Int × Bool)) (a21 : List (Int × Int × Int)) : St := (⟨((.s1 (.one (.unk))) :: (vp 0 0) :: (.s1 (.one (.unk))) :: (vi a15) :: (vu 175 [])), [(52, [ai a16, ai a17, ai a18, ai a19, .sl 0, .sl 1])], [⟨138, (.pair (.int .i64) (.pair (.int .i64) (.pair (.int .i64) (.pair (.int .i64) (.pair (.int .i64) (.pair (.int .i64) (.pair (.int .i64) (.pair (.int .i64) (.pair (.sl 3 (.int .i64)) .bool))))))))), a20, .ro⟩, ⟨141, (.pair (.int .i64) (.pair (.int .i64) (.int .i64))), a21, .ro⟩]⟩ : St)
theorem ev29_4 (m : Nat) (k : Kont Bool) (a15 a16 a17 a18 a19 : Int) (a20 : List (Int × Int × Int × Int × Int × Int × Int × Int × List Int × Bool)) (a21 : List (Int × Int × Int)) : evC Try.prog G29 loopNil c29_4 (S29_4 a15 a16 a17 a18 a19 a20 a21) (turn Try.prog (0, 0) H29_4 (E29_4 m) k) = E29_4 (m + 1) [.v (.int .i64 a15), .v (.int .i64 a16), .v (.int .i64 a17), .v (.int .i64 a18), .v (.int .i64 a19), .row (.pair (.int .i64) (.pair (.int .i64) (.pair (.int .i64) (.pair (.int .i64) (.pair (.int .i64) (.pair (.int .i64) (.pair (.int .i64) (.pair (.int .i64) (.pair (.sl 3 (.int .i64)) .bool))))))))) a20, .row (.pair (.int .i64) (.pair (.int .i64) (.int .i64))) a21] k := by kernel_rfl
theorem ok29_4 (m : Nat) : LoopOk Try.prog (0, 0) c29_4 (enter Try.prog (0, 0) H29_4 (E29_4 m)) := by
  refine loop_ok (G := G29) (L := loopNil) (envCons_good good77 (envCons_good good87 (envCons_good good88 (envCons_good good89 envNil_good)))) (by intro x hx; simp [show loopsOf c29_4 = [] from by kernel_rfl] at hx) (fun ps k => by unfold E29_4; split <;> rfl) (fun m ps k r h => ?_) m
  have h0 := h
  unfold E29_4 at h
  split at h
  · exact ⟨S29_4 _ _ _ _ _ _ _, by kernel_rfl, (ev29_4 m k _ _ _ _ _ _ _).trans h0⟩
  · cases h
noncomputable def H29_15 : LoopH := ⟨⟨((.one (.unk)) :: (.one (.ptr 0 0)) :: (hu 2 (hh :: (.one (.ptr 1 0)) :: hh :: (hu 172 [])))), [(52, [.hole, .hole, .hole, .hole, .sl 0, .sl 1]), (141, [.hole, .hole, .hole])], [(138, (.pair (.int .i64) (.pair (.int .i64) (.pair (.int .i64) (.pair (.int .i64) (.pair (.int .i64) (.pair (.int .i64) (.pair (.int .i64) (.pair (.int .i64) (.pair (.sl 3 (.int .i64)) .bool))))))))), .ro), (141, (.pair (.int .i64) (.pair (.int .i64) (.int .i64))), .ro)]⟩, [0, 2, 3, 7, 8, 9, 10, 11, 12, 13, 14, 15, 16, 17, 18, 19, 20, 21, 22, 23, 24, 25, 26, 27, 28, 29, 30, 31, 32, 33, 34, 35, 36, 37, 38, 39, 40, 41, 42, 43, 44, 45, 46, 47, 48, 49, 50, 51, 52, 53, 54, 55, 56, 57, 58, 59, 60, 61, 62, 63, 64, 65, 66, 67, 68, 69, 70, 71, 72, 73, 74, 75, 76, 77, 78, 79, 80, 81, 82, 83, 84, 85, 86, 87, 88, 89, 90, 91, 92, 93, 94, 95, 96, 97, 98, 99, 100, 101, 102, 103, 104, 105, 106, 107, 108, 109, 110, 111, 112, 113, 114, 115, 116, 117, 118, 119, 120, 121, 122, 123, 124, 125, 126, 127, 128, 129, 130, 131, 132, 133, 134, 135, 136, 137, 138, 139, 140, 141, 142, 143, 144, 145, 146, 147, 148, 149, 150, 151, 152, 153, 154, 155, 156, 157, 158, 159, 160, 161, 162, 163, 164, 165, 166, 167, 168, 169, 170, 171, 172, 173, 174, 175, 176, 177, 178], [], [0, 3, 5, 6, 7, 8, 9, 10, 11, 12, 13, 14, 15, 16, 17, 18, 19, 20, 21, 22, 23, 24, 25, 26, 27, 28, 29, 30, 31, 32, 33, 34, 35, 36, 37, 38, 39, 40, 41, 42, 43, 44, 45, 46, 47, 48, 49, 50, 51, 52, 53, 54, 55, 56, 57, 58, 59, 60, 61, 62, 63, 64, 65, 66, 67, 68, 69, 70, 71, 72, 73, 74, 75, 76, 77, 78, 79, 80, 81, 82, 83, 84, 85, 86, 87, 88, 89, 90, 91, 92, 93, 94, 95, 96, 97, 98, 99, 100, 101, 102, 103, 104, 105, 106, 107, 108, 109, 110, 111, 112, 113, 114, 115, 116, 117, 118, 119, 120, 121, 122, 123, 124, 125, 126, 127, 128, 129, 130, 131, 132, 133, 134, 135, 136, 137, 138, 139, 140, 141, 142, 143, 144, 145, 146, 147, 148, 149, 150, 151, 152, 153, 154, 155, 156, 157, 158, 159, 160, 161, 162, 163, 164, 165, 166, 167, 168, 169, 170, 171, 172, 173, 174, 175, 176, 177, 178]⟩
noncomputable def E29_15 (m : Nat) (ps : List Prm) (k : Kont Bool) : Option Bool :=
  match ps with
  | [.v (.int .i64 a62), .v (.int .i64 a63), .v (.int .i64 a64), .v (.int .i64 a65), .v (.int .i64 a66), .v (.int .i64 a67), .v (.int .i64 a68), .v (.int .i64 a69), .v (.int .i64 a70), .row (.pair (.int .i64) (.pair (.int .i64) (.pair (.int .i64) (.pair (.int .i64) (.pair (.int .i64) (.pair (.int .i64) (.pair (.int .i64) (.pair (.int .i64) (.pair (.sl 3 (.int .i64)) .bool))))))))) a71, .row (.pair (.int .i64) (.pair (.int .i64) (.int .i64))) a72] => S.BoxOk_l2 m (fun z139 z140 z141 z142 z143 z144 z145 z146 => k .ret (⟨((.s1 (.one (.unk))) :: (vp 0 0) :: (vb z139) :: (.s1 (.one (.unk))) :: (vi z140) :: (vu 174 [])), [(52, [ai z141, ai z142, ai z143, ai z144, .sl 0, .sl 1])], [⟨138, (.pair (.int .i64) (.pair (.int .i64) (.pair (.int .i64) (.pair (.int .i64) (.pair (.int .i64) (.pair (.int .i64) (.pair (.int .i64) (.pair (.int .i64) (.pair (.sl 3 (.int .i64)) .bool))))))))), z145, .ro⟩, ⟨141, (.pair (.int .i64) (.pair (.int .i64) (.int .i64))), z146, .ro⟩]⟩ : St)) (fun z147 z148 z149 z150 z151 z152 z153 => k (.exit 4) (⟨((.s1 (.one (.unk))) :: (vp 0 0) :: (vu 2 ((vi z147) :: (vu 174 [])))), [(52, [ai z148, ai z149, ai z150, ai z151, .sl 0, .sl 1])], [⟨138, (.pair (.int .i64) (.pair (.int .i64) (.pair (.int .i64) (.pair (.int .i64) (.pair (.int .i64) (.pair (.int .i64) (.pair (.int .i64) (.pair (.int .i64) (.pair (.sl 3 (.int .i64)) .bool))))))))), z152, .ro⟩, ⟨141, (.pair (.int .i64) (.pair (.int .i64) (.int .i64))), z153, .ro⟩]⟩ : St)) a62 a63 a64 a65 a66 a67 a68 a69 a70 a71 a72
  | _ => none
noncomputable def S29_15 (a62 a63 a64 a65 a66 a67 a68 a69 a70 : Int) (a71 : List (Int × Int × Int × Int × Int × Int × Int × Int × List Int × Bool)) (a72 : List (Int × Int × Int)) : St := (⟨((.s1 (.one (.unk))) :: (vp 0 0) :: (vu 2 ((vi a62) :: (vp 1 0) :: (vi a63) :: (vu 172 [])))), [(52, [ai a64, ai a65, ai a66, ai a67, .sl 0, .sl 1]), (141, [ai a68, ai a69, ai a70])], [⟨138, (.pair (.int .i64) (.pair (.int .i64) (.pair (.int .i64) (.pair (.int .i64) (.pair (.int .i64) (.pair (.int .i64) (.pair (.int .i64) (.pair (.int .i64) (.pair (.sl 3 (.int .i64)) .bool))))))))), a71, .ro⟩, ⟨141, (.pair (.int .i64) (.pair (.int .i64) (.int .i64))), a72, .ro⟩]⟩ : St)
theorem ev29_15 (m : Nat) (k : Kont Bool) (a62 a63 a64 a65 a66 a67 a68 a69 a70 : Int) (a71 : List (Int × Int × Int × Int × Int × Int × Int × Int × List Int × Bool)) (a72 : List (Int × Int × Int)) : evC Try.prog G29 loopNil c29_15 (S29_15 a62 a63 a64 a65 a66 a67 a68 a69 a70 a71 a72) (turn Try.prog (0, 0) H29_15 (E29_15 m) k) = E29_15 (m + 1) [.v (.int .i64 a62), .v (.int .i64 a63), .v (.int .i64 a64), .v (.int .i64 a65), .v (.int .i64 a66), .v (.int .i64 a67), .v (.int .i64 a68), .v (.int .i64 a69), .v (.int .i64 a70), .row (.pair (.int .i64) (.pair (.int .i64) (.pair (.int .i64) (.pair (.int .i64) (.pair (.int .i64) (.pair (.int .i64) (.pair (.int .i64) (.pair (.int .i64) (.pair (.sl 3 (.int .i64)) .bool))))))))) a71, .row (.pair (.int .i64) (.pair (.int .i64) (.int .i64))) a72] k := by kernel_rfl
theorem ok29_15 (m : Nat) : LoopOk Try.prog (0, 0) c29_15 (enter Try.prog (0, 0) H29_15 (E29_15 m)) := by
  refine loop_ok (G := G29) (L := loopNil) (envCons_good good77 (envCons_good good87 (envCons_good good88 (envCons_good good89 envNil_good)))) (by intro x hx; simp [show loopsOf c29_15 = [] from by kernel_rfl] at hx) (fun ps k => by unfold E29_15; split <;> rfl) (fun m ps k r h => ?_) m
  have h0 := h
  unfold E29_15 at h
  split at h
  · exact ⟨S29_15 _ _ _ _ _ _ _ _ _ _ _, by kernel_rfl, (ev29_15 m k _ _ _ _ _ _ _ _ _ _ _).trans h0⟩
  · cases h
noncomputable def L29_9 : LEnv Bool := (loopCons 15 (enter Try.prog (0, 0) H29_15 (E29_15 fu)) loopNil)
theorem lq29_9 : loopsOf c29_9 = [c29_15] := by kernel_rfl
theorem fr29_15 : firstReg c29_15 = some 15 := by kernel_rfl
theorem le29_15 : L29_9 15 = enter Try.prog (0, 0) H29_15 (E29_15 fu) := by kernel_rfl
theorem lm29_9 : ∀ x ∈ [c29_15], ∀ id, firstReg x = some id → LoopOk Try.prog (0, 0) x (L29_9 id) := (loops_cons fr29_15 le29_15 (ok29_15 fu) loops_nil)
theorem lp29_9 : ∀ x ∈ loopsOf c29_9, ∀ id, firstReg x = some id → LoopOk Try.prog (0, 0) x (L29_9 id) := loops_eq lq29_9 lm29_9
noncomputable def H29_9 : LoopH := ⟨⟨((.one (.unk)) :: (.one (.ptr 0 0)) :: (hu 2 (hh :: (hu 174 [])))), [(52, [.hole, .hole, .hole, .hole, .sl 0, .sl 1])], [(138, (.pair (.int .i64) (.pair (.int .i64) (.pair (.int .i64) (.pair (.int .i64) (.pair (.int .i64) (.pair (.int .i64) (.pair (.int .i64) (.pair (.int .i64) (.pair (.sl 3 (.int .i64)) .bool))))))))), .ro), (141, (.pair (.int .i64) (.pair (.int .i64) (.int .i64))), .ro)]⟩, [0, 2, 3, 5, 6, 7, 8, 9, 10, 11, 12, 13, 14, 15, 16, 17, 18, 19, 20, 21, 22, 23, 24, 25, 26, 27, 28, 29, 30, 31, 32, 33, 34, 35, 36, 37, 38, 39, 40, 41, 42, 43, 44, 45, 46, 47, 48, 49, 50, 51, 52, 53, 54, 55, 56, 57, 58, 59, 60, 61, 62, 63, 64, 65, 66, 67, 68, 69, 70, 71, 72, 73, 74, 75, 76, 77, 78, 79, 80, 81, 82, 83, 84, 85, 86, 87, 88, 89, 90, 91, 92, 93, 94, 95, 96, 97, 98, 99, 100, 101, 102, 103, 104, 105, 106, 107, 108, 109, 110, 111, 112, 113, 114, 115, 116, 117, 118, 119, 120, 121, 122, 123, 124, 125, 126, 127, 128, 129, 130, 131, 132, 133, 134, 135, 136, 137, 138, 139, 140, 141, 142, 143, 144, 145, 146, 147, 148, 149, 150, 151, 152, 153, 154, 155, 156, 157, 158, 159, 160, 161, 162, 163, 164, 165, 166, 167, 168, 169, 170, 171, 172, 173, 174, 175, 176, 177, 178], [], [0, 1, 3, 4, 5, 6, 7, 8, 9, 10, 11, 12, 13, 14, 15, 16, 17, 18, 19, 20, 21, 22, 23, 24, 25, 26, 27, 28, 29, 30, 31, 32, 33, 34, 35, 36, 37, 38, 39, 40, 41, 42, 43, 44, 45, 46, 47, 48, 49, 50, 51, 52, 53, 54, 55, 56, 57, 58, 59, 60, 61, 62, 63, 64, 65, 66, 67, 68, 69, 70, 71, 72, 73, 74, 75, 76, 77, 78, 79, 80, 81, 82, 83, 84, 85, 86, 87, 88, 89, 90, 91, 92, 93, 94, 95, 96, 97, 98, 99, 100, 101, 102, 103, 104, 105, 106, 107, 108, 109, 110, 111, 112, 113, 114, 115, 116, 117, 118, 119, 120, 121, 122, 123, 124, 125, 126, 127, 128, 129, 130, 131, 132, 133, 134, 135, 136, 137, 138, 139, 140, 141, 142, 143, 144, 145, 146, 147, 148, 149, 150, 151, 152, 153, 154, 155, 156, 157, 158, 159, 160, 161, 162, 163, 164, 165, 166, 167, 168, 169, 170, 171, 172, 173, 174, 175, 176, 177, 178]⟩
noncomputable def E29_9 (m : Nat) (ps : List Prm) (k : Kont Bool) : Option Bool :=
  match ps with
  | [.v (.int .i64 a45), .v (.int .i64 a46), .v (.int .i64 a47), .v (.int .i64 a48), .v (.int .i64 a49), .row (.pair (.int .i64) (.pair (.int .i64) (.pair (.int .i64) (.pair (.int .i64) (.pair (.int .i64) (.pair (.int .i64) (.pair (.int .i64) (.pair (.int .i64) (.pair (.sl 3 (.int .i64)) .bool))))))))) a50, .row (.pair (.int .i64) (.pair (.int .i64) (.int .i64))) a51] => S.BoxOk_l1 m (fun z154 => k .ret (⟨(vu 2 ((vb z154) :: (vu 176 []))), [], []⟩ : St)) (k (.exit 2) (⟨(vu 179 []), [], []⟩ : St)) a45 a46 a47 a48 a49 a50 a51
  | _ => none
noncomputable def S29_9 (a45 a46 a47 a48 a49 : Int) (a50 : List (Int × Int × Int × Int × Int × Int × Int × Int × List Int × Bool)) (a51 : List (Int × Int × Int)) : St := (⟨((.s1 (.one (.unk))) :: (vp 0 0) :: (vu 2 ((vi a45) :: (vu 174 [])))), [(52, [ai a46, ai a47, ai a48, ai a49, .sl 0, .sl 1])], [⟨138, (.pair (.int .i64) (.pair (.int .i64) (.pair (.int .i64) (.pair (.int .i64) (.pair (.int .i64) (.pair (.int .i64) (.pair (.int .i64) (.pair (.int .i64) (.pair (.sl 3 (.int .i64)) .bool))))))))), a50, .ro⟩, ⟨141, (.pair (.int .i64) (.pair (.int .i64) (.int .i64))), a51, .ro⟩]⟩ : St)
theorem ev29_9 (m : Nat) (k : Kont Bool) (a45 a46 a47 a48 a49 : Int) (a50 : List (Int × Int × Int × Int × Int × Int × Int × Int × List Int × Bool)) (a51 : List (Int × Int × Int)) : evC Try.prog G29 L29_9 c29_9 (S29_9 a45 a46 a47 a48 a49 a50 a51) (turn Try.prog (0, 0) H29_9 (E29_9 m) k) = E29_9 (m + 1) [.v (.int .i64 a45), .v (.int .i64 a46), .v (.int .i64 a47), .v (.int .i64 a48), .v (.int .i64 a49), .row (.pair (.int .i64) (.pair (.int .i64) (.pair (.int .i64) (.pair (.int .i64) (.pair (.int .i64) (.pair (.int .i64) (.pair (.int .i64) (.pair (.int .i64) (.pair (.sl 3 (.int .i64)) .bool))))))))) a50, .row (.pair (.int .i64) (.pair (.int .i64) (.int .i64))) a51] k := by kernel_rfl
theorem ok29_9 (m : Nat) : LoopOk Try.prog (0, 0) c29_9 (enter Try.prog (0, 0) H29_9 (E29_9 m)) := by
  refine loop_ok (G := G29) (L := L29_9) (envCons_good good77 (envCons_good good87 (envCons_good good88 (envCons_good good89 envNil_good)))) lp29_9 (fun ps k => by unfold E29_9; split <;> rfl) (fun m ps k r h => ?_) m
  have h0 := h
  unfold E29_9 at h
  split at h
  · exact ⟨S29_9 _ _ _ _ _ _ _, by kernel_rfl, (ev29_9 m k _ _ _ _ _ _ _).trans h0⟩
  · cases h
noncomputable def L29 : LEnv Bool := (loopCons 4 (enter Try.prog (0, 0) H29_4 (E29_4 fu)) (loopCons 9 (enter Try.prog (0, 0) H29_9 (E29_9 fu)) loopNil))
theorem lq29 : loopsOf c29 = [c29_4, c29_9] := by kernel_rfl
theorem fr29_4 : firstReg c29_4 = some 4 := by kernel_rfl
theorem le29_4 : L29 4 = enter Try.prog (0, 0) H29_4 (E29_4 fu) := by kernel_rfl
theorem fr29_9 : firstReg c29_9 = some 9 := by kernel_rfl
theorem le29_9 : L29 9 = enter Try.prog (0, 0) H29_9 (E29_9 fu) := by kernel_rfl
theorem lm29 : ∀ x ∈ [c29_4, c29_9], ∀ id, firstReg x = some id → LoopOk Try.prog (0, 0) x (L29 id) := (loops_cons fr29_4 le29_4 (ok29_4 fu) (loops_cons fr29_9 le29_9 (ok29_9 fu) loops_nil))
theorem lp29 : ∀ x ∈ loopsOf c29, ∀ id, firstReg x = some id → LoopOk Try.prog (0, 0) x (L29 id) := loops_eq lq29 lm29
noncomputable def R29 (x : Bool) : Res := ⟨[.one (ab x)], [], []⟩
noncomputable def K29 (r : Res) : Option Bool :=
  match r with
  | ⟨[.one (.val (.bool v1))], [], []⟩ => some (v1)
  | _ => none
noncomputable def E29 : Fun2 := fun args bs rs =>
  match args, bs, rs with
  | [.s1 (.agg [.val (.int .i64 a1), .val (.int .i64 a2), .val (.int .i64 a3), .val (.int .i64 a4), .sl 0, .sl 1])], [], [⟨138, (.pair (.int .i64) (.pair (.int .i64) (.pair (.int .i64) (.pair (.int .i64) (.pair (.int .i64) (.pair (.int .i64) (.pair (.int .i64) (.pair (.int .i64) (.pair (.sl 3 (.int .i64)) .bool))))))))), a5, .ro⟩, ⟨141, (.pair (.int .i64) (.pair (.int .i64) (.int .i64))), a6, .ro⟩] => some ⟨Bool, S.BoxOk a1 a2 a3 a4 a5 a6, R29⟩
  | _, _, _ => none
theorem ev29 (a1 a2 a3 a4 : Int) (a5 : List (Int × Int × Int × Int × Int × Int × Int × Int × List Int × Bool)) (a6 : List (Int × Int × Int)) : evF Try.prog G29 L29 (0, 0) Try.f29 c29 [.s1 (.agg [ai a1, ai a2, ai a3, ai a4, .sl 0, .sl 1])] [] [⟨138, (.pair (.int .i64) (.pair (.int .i64) (.pair (.int .i64) (.pair (.int .i64) (.pair (.int .i64) (.pair (.int .i64) (.pair (.int .i64) (.pair (.int .i64) (.pair (.sl 3 (.int .i64)) .bool))))))))), a5, .ro⟩, ⟨141, (.pair (.int .i64) (.pair (.int .i64) (.int .i64))), a6, .ro⟩] K29 = S.BoxOk a1 a2 a3 a4 a5 a6 := by kernel_rfl
theorem good29 : Vm.Good Try.prog 29 E29 := by
  refine evF_good (G := G29) (c := c29) (envCons_good good77 (envCons_good good87 (envCons_good good88 (envCons_good good89 envNil_good)))) Try.func29 (by kernel_rfl) (by kernel_rfl) (0, 0) (fun args bs rs out t h h2 => ?_)
  unfold E29 at h
  split at h
  · injection h with h
    subst h
    exact ⟨rfl, L29, K29, lp29, (fun r t h => by unfold K29 at h; split at h; (injection h with h; subst h; rfl); cases h), (ev29 _ _ _ _ _ _).trans h2⟩
  · cases h
/-! ### I.in -/
noncomputable def G134 : Env := envNil
noncomputable def c134 : Code := bodyOf Try.f134
noncomputable def I.in (a1 a2 a3 : Int) : Option Bool :=
(bif (decide (a2 ≤ a1)) then
(some (decide (a1 ≤ a3)))
else
(some false))
noncomputable def R134 (x : Bool) : Res := ⟨[.one (ab x)], [], []⟩
noncomputable def K134 (r : Res) : Option Bool :=
  match r with
  | ⟨[.one (.val (.bool v1))], [], []⟩ => some (v1)
  | _ => none
noncomputable def E134 : Fun2 := fun args bs rs =>
  match args, bs, rs with
  | [.s1 (.one (.val (.int .i64 a1))), .s1 (.one (.val (.int .i64 a2))), .s1 (.one (.val (.int .i64 a3)))], [], [] => some ⟨Bool, I.in a1 a2 a3, R134⟩
  | _, _, _ => none
theorem ev134 (a1 a2 a3 : Int) : evF Try.prog G134 loopNil (0, 0) Try.f134 c134 [vi a1, vi a2, vi a3] [] [] K134 = I.in a1 a2 a3 := by kernel_rfl
theorem good134 : Vm.Good Try.prog 134 E134 := by
  refine evF_good (G := G134) (c := c134) envNil_good Try.func134 (by kernel_rfl) (by kernel_rfl) (0, 0) (fun args bs rs out t h h2 => ?_)
  unfold E134 at h
  split at h
  · injection h with h
    subst h
    exact ⟨rfl, loopNil, K134, (by intro x hx; simp [show loopsOf c134 = [] from by kernel_rfl] at hx), (fun r t h => by unfold K134 at h; split at h; (injection h with h; subst h; rfl); cases h), (ev134 _ _ _).trans h2⟩
  · cases h
/-! ### I.isCap -/
noncomputable def G78 : Env := (envCons 134 [] E134 envNil)
noncomputable def c78 : Code := bodyOf Try.f78
noncomputable def I.isCap (a1 : Int) : Option Bool :=
(Option.bind (I.in a1 1 50) fun r2 =>
(some r2))
noncomputable def R78 (x : Bool) : Res := ⟨[.one (ab x)], [], []⟩
noncomputable def K78 (r : Res) : Option Bool :=
  match r with
  | ⟨[.one (.val (.bool v1))], [], []⟩ => some (v1)
  | _ => none
noncomputable def E78 : Fun2 := fun args bs rs =>
  match args, bs, rs with
  | [.s1 (.one (.val (.int .i64 a1)))], [], [] => some ⟨Bool, I.isCap a1, R78⟩
  | _, _, _ => none
theorem ev78 (a1 : Int) : evF Try.prog G78 loopNil (0, 0) Try.f78 c78 [vi a1] [] [] K78 = I.isCap a1 := by kernel_rfl
theorem good78 : Vm.Good Try.prog 78 E78 := by
  refine evF_good (G := G78) (c := c78) (envCons_good good134 envNil_good) Try.func78 (by kernel_rfl) (by kernel_rfl) (0, 0) (fun args bs rs out t h h2 => ?_)
  unfold E78 at h
  split at h
  · injection h with h
    subst h
    exact ⟨rfl, loopNil, K78, (by intro x hx; simp [show loopsOf c78 = [] from by kernel_rfl] at hx), (fun r t h => by unfold K78 at h; split at h; (injection h with h; subst h; rfl); cases h), (ev78 _).trans h2⟩
  · cases h
/-! ### I.isRuleNumber -/
noncomputable def G140 : Env := (envCons 134 [] E134 envNil)
noncomputable def c140 : Code := bodyOf Try.f140
noncomputable def I.isRuleNumber (a1 : Int) : Option Bool :=
(Option.bind (I.in a1 (-1) 15) fun r2 =>
(some r2))
noncomputable def R140 (x : Bool) : Res := ⟨[.one (ab x)], [], []⟩
noncomputable def K140 (r : Res) : Option Bool :=
  match r with
  | ⟨[.one (.val (.bool v1))], [], []⟩ => some (v1)
  | _ => none
noncomputable def E140 : Fun2 := fun args bs rs =>
  match args, bs, rs with
  | [.s1 (.one (.val (.int .i64 a1)))], [], [] => some ⟨Bool, I.isRuleNumber a1, R140⟩
  | _, _, _ => none
theorem ev140 (a1 : Int) : evF Try.prog G140 loopNil (0, 0) Try.f140 c140 [vi a1] [] [] K140 = I.isRuleNumber a1 := by kernel_rfl
theorem good140 : Vm.Good Try.prog 140 E140 := by
  refine evF_good (G := G140) (c := c140) (envCons_good good134 envNil_good) Try.func140 (by kernel_rfl) (by kernel_rfl) (0, 0) (fun args bs rs out t h h2 => ?_)
  unfold E140 at h
  split at h
  · injection h with h
    subst h
    exact ⟨rfl, loopNil, K140, (by intro x hx; simp [show loopsOf c140 = [] from by kernel_rfl] at hx), (fun r t h => by unfold K140 at h; split at h; (injection h with h; subst h; rfl); cases h), (ev140 _).trans h2⟩
  · cases h
/-! ### I.isId -/
noncomputable def G178 : Env := (envCons 134 [] E134 envNil)
noncomputable def c178 : Code := bodyOf Try.f178
noncomputable def I.isId (a1 : Int) : Option Bool :=
(Option.bind (I.in a1 0 3) fun r2 =>
(some r2))
noncomputable def R178 (x : Bool) : Res := ⟨[.one (ab x)], [], []⟩
noncomputable def K178 (r : Res) : Option Bool :=
  match r with
  | ⟨[.one (.val (.bool v1))], [], []⟩ => some (v1)
  | _ => none
noncomputable def E178 : Fun2 := fun args bs rs =>
  match args, bs, rs with
  | [.s1 (.one (.val (.int .i64 a1)))], [], [] => some ⟨Bool, I.isId a1, R178⟩
  | _, _, _ => none
theorem ev178 (a1 : Int) : evF Try.prog G178 loopNil (0, 0) Try.f178 c178 [vi a1] [] [] K178 = I.isId a1 := by kernel_rfl
theorem good178 : Vm.Good Try.prog 178 E178 := by
  refine evF_good (G := G178) (c := c178) (envCons_good good134 envNil_good) Try.func178 (by kernel_rfl) (by kernel_rfl) (0, 0) (fun args bs rs out t h h2 => ?_)
  unfold E178 at h
  split at h
  · injection h with h
    subst h
    exact ⟨rfl, loopNil, K178, (by intro x hx; simp [show loopsOf c178 = [] from by kernel_rfl] at hx), (fun r t h => by unfold K178 at h; split at h; (injection h with h; subst h; rfl); cases h), (ev178 _).trans h2⟩
  · cases h
/-! ### I.isKey -/
noncomputable def G170 : Env := (envCons 134 [] E134 envNil)
noncomputable def c170 : Code := bodyOf Try.f170
noncomputable def I.isKey (a1 : Int) : Option Bool :=
(Option.bind (I.in a1 0 15) fun r2 =>
(some r2))
noncomputable def R170 (x : Bool) : Res := ⟨[.one (ab x)], [], []⟩
noncomputable def K170 (r : Res) : Option Bool :=
  match r with
  | ⟨[.one (.val (.bool v1))], [], []⟩ => some (v1)
  | _ => none
noncomputable def E170 : Fun2 := fun args bs rs =>
  match args, bs, rs with
  | [.s1 (.one (.val (.int .i64 a1)))], [], [] => some ⟨Bool, I.isKey a1, R170⟩
  | _, _, _ => none
theorem ev170 (a1 : Int) : evF Try.prog G170 loopNil (0, 0) Try.f170 c170 [vi a1] [] [] K170 = I.isKey a1 := by kernel_rfl
theorem good170 : Vm.Good Try.prog 170 E170 := by
  refine evF_good (G := G170) (c := c170) (envCons_good good134 envNil_good) Try.func170 (by kernel_rfl) (by kernel_rfl) (0, 0) (fun args bs rs out t h h2 => ?_)
  unfold E170 at h
  split at h
  · injection h with h
    subst h
    exact ⟨rfl, loopNil, K170, (by intro x hx; simp [show loopsOf c170 = [] from by kernel_rfl] at hx), (fun r t h => by unfold K170 at h; split at h; (injection h with h; subst h; rfl); cases h), (ev170 _).trans h2⟩
  · cases h
/-! ### I.isWin -/
noncomputable def G156 : Env := envNil
noncomputable def c156 : Code := bodyOf Try.f156
noncomputable def I.isWin (a1 a2 : Int) : Option Bool :=
(bif (decide (0 ≤ a1)) then
(bif (decide (a1 < a2)) then
(some (decide (a2 ≤ 1100)))
else
(some false))
else
(some false))
noncomputable def R156 (x : Bool) : Res := ⟨[.one (ab x)], [], []⟩
noncomputable def K156 (r : Res) : Option Bool :=
  match r with
  | ⟨[.one (.val (.bool v1))], [], []⟩ => some (v1)
  | _ => none
noncomputable def E156 : Fun2 := fun args bs rs =>
  match args, bs, rs with
  | [.s1 (.agg [.val (.int .i64 a1), .val (.int .i64 a2)])], [], [] => some ⟨Bool, I.isWin a1 a2, R156⟩
  | _, _, _ => none
theorem ev156 (a1 a2 : Int) : evF Try.prog G156 loopNil (0, 0) Try.f156 c156 [.s1 (.agg [ai a1, ai a2])] [] [] K156 = I.isWin a1 a2 := by kernel_rfl
theorem good156 : Vm.Good Try.prog 156 E156 := by
  refine evF_good (G := G156) (c := c156) envNil_good Try.func156 (by kernel_rfl) (by kernel_rfl) (0, 0) (fun args bs rs out t h h2 => ?_)
  unfold E156 at h
  split at h
  · injection h with h
    subst h
    exact ⟨rfl, loopNil, K156, (by intro x hx; simp [show loopsOf c156 = [] from by kernel_rfl] at hx), (fun r t h => by unfold K156 at h; split at h; (injection h with h; subst h; rfl); cases h), (ev156 _ _).trans h2⟩
  · cases h
/-! ### I.isPane -/
noncomputable def G141 : Env := (envCons 178 [] E178 (envCons 170 [] E170 (envCons 156 [] E156 (envCons 134 [] E134 envNil))))
noncomputable def c141 : Code := bodyOf Try.f141
noncomputable def I.isPane (a1 a2 a3 a4 a5 a6 : Int) (a7 : Bool) (a8 : List Int) : Option Bool :=
(Option.bind (I.isId a1) fun r9 =>
(bif r9 then
(Option.bind (I.isKey a2) fun r10 =>
(bif r10 then
(Option.bind (I.isWin a3 a4) fun r11 =>
(bif r11 then
(Option.bind (I.in a5 0 15) fun r12 =>
(bif r12 then
(Option.bind (I.in a6 1 1000000) fun r13 =>
(bif r13 then
(bif (decide ((a8.length : Int) ≤ 4)) then
(some (((a8.length : Int) == 0) == a7))
else
(some false))
else
(some false)))
else
(some false)))
else
(some false)))
else
(some false)))
else
(some false)))
noncomputable def R141 (x : Bool) : Res := ⟨[.one (ab x)], [], []⟩
noncomputable def K141 (r : Res) : Option Bool :=
  match r with
  | ⟨[.one (.val (.bool v1))], [], []⟩ => some (v1)
  | _ => none
noncomputable def E141 : Fun2 := fun args bs rs =>
  match args, bs, rs with
  | [.s1 (.agg [.val (.int .i64 a1), .val (.int .i64 a2), .val (.int .i64 a3), .val (.int .i64 a4), .val (.int .i64 a5), .val (.int .i64 a6), .sl 0, .val (.bool a7)])], [], [⟨3, (.int .i64), a8, .ro⟩] => some ⟨Bool, I.isPane a1 a2 a3 a4 a5 a6 a7 a8, R141⟩
  | _, _, _ => none
theorem ev141 (a1 a2 a3 a4 a5 a6 : Int) (a7 : Bool) (a8 : List Int) : evF Try.prog G141 loopNil (0, 0) Try.f141 c141 [.s1 (.agg [ai a1, ai a2, ai a3, ai a4, ai a5, ai a6, .sl 0, ab a7])] [] [⟨3, (.int .i64), a8, .ro⟩] K141 = I.isPane a1 a2 a3 a4 a5 a6 a7 a8 := by kernel_rfl
theorem good141 : Vm.Good Try.prog 141 E141 := by
  refine evF_good (G := G141) (c := c141) (envCons_good good178 (envCons_good good170 (envCons_good good156 (envCons_good good134 envNil_good)))) Try.func141 (by kernel_rfl) (by kernel_rfl) (0, 0) (fun args bs rs out t h h2 => ?_)
  unfold E141 at h
  split at h
  · injection h with h
    subst h
    exact ⟨rfl, loopNil, K141, (by intro x hx; simp [show loopsOf c141 = [] from by kernel_rfl] at hx), (fun r t h => by unfold K141 at h; split at h; (injection h with h; subst h; rfl); cases h), (ev141 _ _ _ _ _ _ _ _).trans h2⟩
  · cases h
/-! ### I.isBox -/
noncomputable def G92 : Env := (envCons 78 [] E78 (envCons 134 [] E134 (envCons 140 [] E140 (envCons 141 [] E141 envNil))))
noncomputable def c92 : Code := bodyOf Try.f92
noncomputable def c92_6 : Code := (loopsOf c92).getD 0 .skip
noncomputable def c92_12 : Code := (loopsOf c92).getD 1 .skip
noncomputable def c92_18 : Code := (loopsOf c92).getD 2 .skip
noncomputable def I.isBox_l0 : Nat → (Bool → Int → Int → Int → Int → (List (Int × Int × Int × Int × Int × Int × Int × Int × List Int × Bool)) → (List (Int × Int × Int)) → Option Bool) → (Int → Int → Int → Int → (List (Int × Int × Int × Int × Int × Int × Int × Int × List Int × Bool)) → (List (Int × Int × Int)) → Option Bool) → Int → Int → Int → Int → Int → Int → (List (Int × Int × Int × Int × Int × Int × Int × Int × List Int × Bool)) → (List (Int × Int × Int)) → Option Bool
  | 0, _, _, _, _, _, _, _, _, _, _ => none
  | m + 1, e6_0, e6_1, a20, a21, a22, a23, a24, a25, a26, a27 =>
    (bif (decide (a21 < a20)) then
    (bif decide ((0 : Int) ≤ a21 ∧ a21 < (a26.length : Int)) then
    (let v32 : Bool := ((nthI a26 a21 ((0 : Int), ((0 : Int), ((0 : Int), ((0 : Int), ((0 : Int), ((0 : Int), ((0 : Int), ((0 : Int), ([], false)))))))))).1 != (IntKind.wrap .i64 ((IntKind.wrap .i64 (a24 - (a26.length : Int))) + a21)))
    (bif v32 then
    (e6_0 false a22 a23 a24 a25 a26 a27)
    else
    (Option.bind (I.isRuleNumber ((nthI a26 a21 ((0 : Int), ((0 : Int), ((0 : Int), ((0 : Int), ((0 : Int), ((0 : Int), ((0 : Int), ((0 : Int), ([], false)))))))))).2.1)) fun r33 =>
    (bif (!r33) then
    (e6_0 false a22 a23 a24 a25 a26 a27)
    else
    (Option.bind (I.isPane ((nthI a26 a21 ((0 : Int), ((0 : Int), ((0 : Int), ((0 : Int), ((0 : Int), ((0 : Int), ((0 : Int), ((0 : Int), ([], false)))))))))).2.2.1) ((nthI a26 a21 ((0 : Int), ((0 : Int), ((0 : Int), ((0 : Int), ((0 : Int), ((0 : Int), ((0 : Int), ((0 : Int), ([], false)))))))))).2.2.2.1) ((nthI a26 a21 ((0 : Int), ((0 : Int), ((0 : Int), ((0 : Int), ((0 : Int), ((0 : Int), ((0 : Int), ((0 : Int), ([], false)))))))))).2.2.2.2.1) ((nthI a26 a21 ((0 : Int), ((0 : Int), ((0 : Int), ((0 : Int), ((0 : Int), ((0 : Int), ((0 : Int), ((0 : Int), ([], false)))))))))).2.2.2.2.2.1) ((nthI a26 a21 ((0 : Int), ((0 : Int), ((0 : Int), ((0 : Int), ((0 : Int), ((0 : Int), ((0 : Int), ((0 : Int), ([], false)))))))))).2.2.2.2.2.2.1) ((nthI a26 a21 ((0 : Int), ((0 : Int), ((0 : Int), ((0 : Int), ((0 : Int), ((0 : Int), ((0 : Int), ((0 : Int), ([], false)))))))))).2.2.2.2.2.2.2.1) ((nthI a26 a21 ((0 : Int), ((0 : Int), ((0 : Int), ((0 : Int), ((0 : Int), ((0 : Int), ((0 : Int), ((0 : Int), ([], false)))))))))).2.2.2.2.2.2.2.2.2) ((nthI a26 a21 ((0 : Int), ((0 : Int), ((0 : Int), ((0 : Int), ((0 : Int), ((0 : Int), ((0 : Int), ((0 : Int), ([], false)))))))))).2.2.2.2.2.2.2.2.1)) fun r34 =>
    (bif (!r34) then
    (e6_0 false a22 a23 a24 a25 a26 a27)
    else
    (I.isBox_l0 m e6_0 e6_1 a20 (IntKind.wrap .i64 (a21 + 1)) a22 a23 a24 a25 a26 a27)))))))
    else
    none)
    else
    (e6_1 a22 a23 a24 a25 a26 a27))
noncomputable def I.isBox_l1 : Nat → (Bool → Int → Int → Int → Int → (List (Int × Int × Int × Int × Int × Int × Int × Int × List Int × Bool)) → (List (Int × Int × Int)) → Option Bool) → (Int → Int → Int → Int → (List (Int × Int × Int × Int × Int × Int × Int × Int × List Int × Bool)) → (List (Int × Int × Int)) → Option Bool) → Int → Int → Int → Int → Int → Int → (List (Int × Int × Int)) → (List (Int × Int × Int × Int × Int × Int × Int × Int × List Int × Bool)) → Option Bool
  | 0, _, _, _, _, _, _, _, _, _, _ => none
  | m + 1, e12_0, e12_1, a50, a51, a52, a53, a54, a55, a56, a57 =>
    (bif (decide (a51 < a50)) then
    (bif decide ((0 : Int) ≤ a51 ∧ a51 < (a56.length : Int)) then
    (let v62 : Bool := ((nthI a56 a51 ((0 : Int), ((0 : Int), (0 : Int)))).1 != (IntKind.wrap .i64 ((IntKind.wrap .i64 (a54 - (a56.length : Int))) + a51)))
    (bif v62 then
    (e12_0 false a52 a53 a54 a55 a57 a56)
    else
    (Option.bind (I.isRuleNumber ((nthI a56 a51 ((0 : Int), ((0 : Int), (0 : Int)))).2.1)) fun r63 =>
    (bif (!r63) then
    (e12_0 false a52 a53 a54 a55 a57 a56)
    else
    (Option.bind (I.in ((nthI a56 a51 ((0 : Int), ((0 : Int), (0 : Int)))).2.2) 0 15) fun r64 =>
    (bif (!r64) then
    (e12_0 false a52 a53 a54 a55 a57 a56)
    else
    (I.isBox_l1 m e12_0 e12_1 a50 (IntKind.wrap .i64 (a51 + 1)) a52 a53 a54 a55 a56 a57)))))))
    else
    none)
    else
    (e12_1 a52 a53 a54 a55 a57 a56))
noncomputable def I.isBox_l2 : Nat → (Bool → Option Bool) → (Option Bool) → Int → Int → Int → Int → Int → Int → (List (Int × Int × Int × Int × Int × Int × Int × Int × List Int × Bool)) → (List (Int × Int × Int)) → Option Bool
  | 0, _, _, _, _, _, _, _, _, _, _ => none
  | m + 1, e18_0, e18_1, a82, a83, a84, a85, a86, a87, a88, a89 =>
    (bif (decide (a83 < a82)) then
    (let v93 : Int := (IntKind.wrap .i64 ((IntKind.wrap .i64 ((a88.length : Int) - 1)) - a83))
    (bif decide ((0 : Int) ≤ v93 ∧ v93 < (a88.length : Int)) then
    (let v96 : Int := (IntKind.wrap .i64 ((IntKind.wrap .i64 ((a89.length : Int) - 1)) - a83))
    (bif decide ((0 : Int) ≤ v96 ∧ v96 < (a89.length : Int)) then
    (dup (let v97 : Bool := ((nthI a88 v93 ((0 : Int), ((0 : Int), ((0 : Int), ((0 : Int), ((0 : Int), ((0 : Int), ((0 : Int), ((0 : Int), ([], false)))))))))).2.1 != (nthI a89 v96 ((0 : Int), ((0 : Int), (0 : Int)))).2.1)
    (bif v97 then
    (e18_0 false)
    else
    (let v98 : Bool := ((nthI a88 v93 ((0 : Int), ((0 : Int), ((0 : Int), ((0 : Int), ((0 : Int), ((0 : Int), ((0 : Int), ((0 : Int), ([], false)))))))))).2.2.2.2.2.2.1 != (nthI a89 v96 ((0 : Int), ((0 : Int), (0 : Int)))).2.2)
    (bif v98 then
    (e18_0 false)
    else
    (I.isBox_l2 m e18_0 e18_1 a82 (IntKind.wrap .i64 (a83 + 1)) a84 a85 a86 a87 a88 a89))))))
    else
    none))
    else
    none))
    else
    e18_1)
noncomputable def I.isBox (a1 a2 a3 a4 : Int) (a5 : List (Int × Int × Int × Int × Int × Int × Int × Int × List Int × Bool)) (a6 : List (Int × Int × Int)) : Option Bool :=
(Option.bind (I.isCap a1) fun r7 =>
(bif (!r7) then
(some false)
else
(Option.bind (I.isCap a2) fun r8 =>
(bif (!r8) then
(some false)
else
(Option.bind (I.in a3 0 1000000) fun r9 =>
(bif (!r9) then
(some false)
else
(Option.bind (I.in a4 0 1000000) fun r10 =>
(bif (!r10) then
(some false)
else
(bif (decide (a1 < (a5.length : Int))) then
(some false)
else
(bif (decide (a2 < (a6.length : Int))) then
(some false)
else
(bif (decide (a3 < (a5.length : Int))) then
(some false)
else
(bif (decide (a3 < (a6.length : Int))) then
(some false)
else
(I.isBox_l0 fu (fun y36 y37 y38 y39 y40 y41 y42 =>
(some y36)) (fun y43 y44 y45 y46 y47 y48 =>
(I.isBox_l1 fu (fun y66 y67 y68 y69 y70 y71 y72 =>
(some y66)) (fun y73 y74 y75 y76 y77 y78 =>
(let v79 : Int := (y77.length : Int)
(let v80 : Int := (y78.length : Int)
(I.isBox_l2 fu (fun y100 =>
(some y100)) (some true) (if v80 < v79 then v80 else v79) 0 y73 y74 y75 y76 y77 y78)))) (y48.length : Int) 0 y43 y44 y45 y46 y48 y47)) (a5.length : Int) 0 a1 a2 a3 a4 a5 a6)))))))))))))
noncomputable def H92_6 : LoopH := ⟨⟨((.one (.unk)) :: (.one (.ptr 0 0)) :: (hu 61 ((.one (.sl 0)) :: hh :: hh :: (hu 104 [])))), [(52, [.hole, .hole, .hole, .hole, .sl 0, .sl 1])], [(138, (.pair (.int .i64) (.pair (.int .i64) (.pair (.int .i64) (.pair (.int .i64) (.pair (.int .i64) (.pair (.int .i64) (.pair (.int .i64) (.pair (.int .i64) (.pair (.sl 3 (.int .i64)) .bool))))))))), .ro), (141, (.pair (.int .i64) (.pair (.int .i64) (.int .i64))), .ro)]⟩, [0, 2, 3, 4, 5, 6, 7, 8, 9, 10, 11, 12, 13, 14, 15, 16, 17, 18, 19, 20, 21, 22, 23, 24, 25, 26, 27, 28, 29, 30, 31, 32, 33, 34, 35, 36, 37, 38, 39, 40, 41, 42, 43, 44, 45, 46, 47, 48, 49, 50, 51, 52, 53, 54, 55, 56, 57, 58, 59, 60, 61, 62, 66, 67, 68, 69, 70, 71, 72, 73, 74, 75, 76, 77, 78, 79, 80, 81, 82, 83, 84, 85, 86, 87, 88, 89, 90, 91, 92, 93, 94, 95, 96, 97, 98, 99, 100, 101, 102, 103, 104, 105, 106, 107, 108, 109, 110, 111, 112, 113, 114, 115, 116, 117, 118, 119, 120, 121, 122, 123, 124, 125, 126, 127, 128, 129, 130, 131, 132, 133, 134, 135, 136, 137, 138, 139, 140, 141, 142, 143, 144, 145, 146, 147, 148, 149, 150, 151, 152, 153, 154, 155, 156, 157, 158, 159, 160, 161, 162, 163, 164, 165, 166, 167, 168, 169], [], [0, 3, 4, 5, 6, 7, 8, 9, 10, 11, 12, 13, 14, 15, 16, 17, 18, 19, 20, 21, 22, 23, 24, 25, 26, 27, 28, 29, 30, 31, 32, 33, 34, 35, 36, 37, 38, 39, 40, 41, 42, 43, 44, 45, 46, 47, 48, 49, 50, 51, 52, 53, 54, 55, 56, 57, 58, 59, 60, 61, 62, 63, 64, 65, 66, 67, 68, 69, 70, 71, 72, 73, 74, 75, 76, 77, 78, 79, 80, 81, 82, 83, 84, 85, 86, 87, 88, 89, 90, 91, 92, 93, 94, 95, 96, 97, 98, 99, 100, 101, 102, 103, 104, 105, 106, 107, 108, 109, 110, 111, 112, 113, 114, 115, 116, 117, 118, 119, 120, 121, 122, 123, 124, 125, 126, 127, 128, 129, 130, 131, 132, 133, 134, 135, 136, 137, 138, 139, 140, 141, 142, 143, 144, 145, 146, 147, 148, 149, 150, 151, 152, 153, 154, 155, 156, 157, 158, 159, 160, 161, 162, 163, 164, 165, 166, 167, 168, 169]⟩
noncomputable def E92_6 (m : Nat) (ps : List Prm) (k : Kont Bool) : Option Bool :=
  match ps with
  | [.v (.int .i64 a20), .v (.int .i64 a21), .v (.int .i64 a22), .v (.int .i64 a23), .v (.int .i64 a24), .v (.int .i64 a25), .row (.pair (.int .i64) (.pair (.int .i64) (.pair (.int .i64) (.pair (.int .i64) (.pair (.int .i64) (.pair (.int .i64) (.pair (.int .i64) (.pair (.int .i64) (.pair (.sl 3 (.int .i64)) .bool))))))))) a26, .row (.pair (.int .i64) (.pair (.int .i64) (.int .i64))) a27] => I.isBox_l0 m (fun z128 z129 z130 z131 z132 z133 z134 => k .ret (⟨((.s1 (.one (.unk))) :: (vp 0 0) :: (vb z128) :: (vu 167 [])), [(52, [ai z129, ai z130, ai z131, ai z132, .sl 0, .sl 1])], [⟨138, (.pair (.int .i64) (.pair (.int .i64) (.pair (.int .i64) (.pair (.int .i64) (.pair (.int .i64) (.pair (.int .i64) (.pair (.int .i64) (.pair (.int .i64) (.pair (.sl 3 (.int .i64)) .bool))))))))), z133, .ro⟩, ⟨141, (.pair (.int .i64) (.pair (.int .i64) (.int .i64))), z134, .ro⟩]⟩ : St)) (fun z135 z136 z137 z138 z139 z140 => k (.exit 0) (⟨((.s1 (.one (.unk))) :: (vp 0 0) :: (vu 168 [])), [(52, [ai z135, ai z136, ai z137, ai z138, .sl 0, .sl 1])], [⟨138, (.pair (.int .i64) (.pair (.int .i64) (.pair (.int .i64) (.pair (.int .i64) (.pair (.int .i64) (.pair (.int .i64) (.pair (.int .i64) (.pair (.int .i64) (.pair (.sl 3 (.int .i64)) .bool))))))))), z139, .ro⟩, ⟨141, (.pair (.int .i64) (.pair (.int .i64) (.int .i64))), z140, .ro⟩]⟩ : St)) a20 a21 a22 a23 a24 a25 a26 a27
  | _ => none
noncomputable def S92_6 (a20 a21 a22 a23 a24 a25 : Int) (a26 : List (Int × Int × Int × Int × Int × Int × Int × Int × List Int × Bool)) (a27 : List (Int × Int × Int)) : St := (⟨((.s1 (.one (.unk))) :: (vp 0 0) :: (vu 61 ((vl 0) :: (vi a20) :: (vi a21) :: (vu 104 [])))), [(52, [ai a22, ai a23, ai a24, ai a25, .sl 0, .sl 1])], [⟨138, (.pair (.int .i64) (.pair (.int .i64) (.pair (.int .i64) (.pair (.int .i64) (.pair (.int .i64) (.pair (.int .i64) (.pair (.int .i64) (.pair (.int .i64) (.pair (.sl 3 (.int .i64)) .bool))))))))), a26, .ro⟩, ⟨141, (.pair (.int .i64) (.pair (.int .i64) (.int .i64))), a27, .ro⟩]⟩ : St)
theorem ev92_6 (m : Nat) (k : Kont Bool) (a20 a21 a22 a23 a24 a25 : Int) (a26 : List (Int × Int × Int × Int × Int × Int × Int × Int × List Int × Bool)) (a27 : List (Int × Int × Int)) : evC Try.prog G92 loopNil c92_6 (S92_6 a20 a21 a22 a23 a24 a25 a26 a27) (turn Try.prog (0, 0) H92_6 (E92_6 m) k) = E92_6 (m + 1) [.v (.int .i64 a20), .v (.int .i64 a21), .v (.int .i64 a22), .v (.int .i64 a23), .v (.int .i64 a24), .v (.int .i64 a25), .row (.pair (.int .i64) (.pair (.int .i64) (.pair (.int .i64) (.pair (.int .i64) (.pair (.int .i64) (.pair (.int .i64) (.pair (.int .i64) (.pair (.int .i64) (.pair (.sl 3 (.int .i64)) .bool))))))))) a26, .row (.pair (.int .i64) (.pair (.int .i64) (.int .i64))) a27] k := by kernel_rfl
theorem ok92_6 (m : Nat) : LoopOk Try.prog (0, 0) c92_6 (enter Try.prog (0, 0) H92_6 (E92_6 m)) := by
  refine loop_ok (G := G92) (L := loopNil) (envCons_good good78 (envCons_good good134 (envCons_good good140 (envCons_good good141 envNil_good)))) (by intro x hx; simp [show loopsOf c92_6 = [] from by kernel_rfl] at hx) (fun ps k => by unfold E92_6; split <;> rfl) (fun m ps k r h => ?_) m
  have h0 := h
  unfold E92_6 at h
  split at h
  · exact ⟨S92_6 _ _ _ _ _ _ _ _, by kernel_rfl, (ev92_6 m k _ _ _ _ _ _ _ _).trans h0⟩
  · cases h
noncomputable def H92_12 : LoopH := ⟨⟨((.one (.unk)) :: (.one (.ptr 0 0)) :: (hu 93 ((.one (.sl 0)) :: hh :: hh :: (hu 72 [])))), [(52, [.hole, .hole, .hole, .hole, .sl 1, .sl 0])], [(141, (.pair (.int .i64) (.pair (.int .i64) (.int .i64))), .ro), (138, (.pair (.int .i64) (.pair (.int .i64) (.pair (.int .i64) (.pair (.int .i64) (.pair (.int .i64) (.pair (.int .i64) (.pair (.int .i64) (.pair (.int .i64) (.pair (.sl 3 (.int .i64)) .bool))))))))), .ro)]⟩, [0, 2, 3, 4, 5, 6, 7, 8, 9, 10, 11, 12, 13, 14, 15, 16, 17, 18, 19, 20, 21, 22, 23, 24, 25, 26, 27, 28, 29, 30, 31, 32, 33, 34, 35, 36, 37, 38, 39, 40, 41, 42, 43, 44, 45, 46, 47, 48, 49, 50, 51, 52, 53, 54, 55, 56, 57, 58, 59, 60, 61, 62, 63, 64, 65, 66, 67, 68, 69, 70, 71, 72, 73, 74, 75, 76, 77, 78, 79, 80, 81, 82, 83, 84, 85, 86, 87, 88, 89, 90, 91, 92, 93, 94, 98, 99, 100, 101, 102, 103, 104, 105, 106, 107, 108, 109, 110, 111, 112, 113, 114, 115, 116, 117, 118, 119, 120, 121, 122, 123, 124, 125, 126, 127, 128, 129, 130, 131, 132, 133, 134, 135, 136, 137, 138, 139, 140, 141, 142, 143, 144, 145, 146, 147, 148, 149, 150, 151, 152, 153, 154, 155, 156, 157, 158, 159, 160, 161, 162, 163, 164, 165, 166, 167, 168, 169], [], [0, 3, 4, 5, 6, 7, 8, 9, 10, 11, 12, 13, 14, 15, 16, 17, 18, 19, 20, 21, 22, 23, 24, 25, 26, 27, 28, 29, 30, 31, 32, 33, 34, 35, 36, 37, 38, 39, 40, 41, 42, 43, 44, 45, 46, 47, 48, 49, 50, 51, 52, 53, 54, 55, 56, 57, 58, 59, 60, 61, 62, 63, 64, 65, 66, 67, 68, 69, 70, 71, 72, 73, 74, 75, 76, 77, 78, 79, 80, 81, 82, 83, 84, 85, 86, 87, 88, 89, 90, 91, 92, 93, 94, 95, 96, 97, 98, 99, 100, 101, 102, 103, 104, 105, 106, 107, 108, 109, 110, 111, 112, 113, 114, 115, 116, 117, 118, 119, 120, 121, 122, 123, 124, 125, 126, 127, 128, 129, 130, 131, 132, 133, 134, 135, 136, 137, 138, 139, 140, 141, 142, 143, 144, 145, 146, 147, 148, 149, 150, 151, 152, 153, 154, 155, 156, 157, 158, 159, 160, 161, 162, 163, 164, 165, 166, 167, 168, 169]⟩
noncomputable def E92_12 (m : Nat) (ps : List Prm) (k : Kont Bool) : Option Bool :=
  match ps with
  | [.v (.int .i64 a50), .v (.int .i64 a51), .v (.int .i64 a52), .v (.int .i64 a53), .v (.int .i64 a54), .v (.int .i64 a55), .row (.pair (.int .i64) (.pair (.int .i64) (.int .i64))) a56, .row (.pair (.int .i64) (.pair (.int .i64) (.pair (.int .i64) (.pair (.int .i64) (.pair (.int .i64) (.pair (.int .i64) (.pair (.int .i64) (.pair (.int .i64) (.pair (.sl 3 (.int .i64)) .bool))))))))) a57] => I.isBox_l1 m (fun z141 z142 z143 z144 z145 z146 z147 => k .ret (⟨((.s1 (.one (.unk))) :: (vp 0 0) :: (vb z141) :: (vu 167 [])), [(52, [ai z142, ai z143, ai z144, ai z145, .sl 0, .sl 1])], [⟨138, (.pair (.int .i64) (.pair (.int .i64) (.pair (.int .i64) (.pair (.int .i64) (.pair (.int .i64) (.pair (.int .i64) (.pair (.int .i64) (.pair (.int .i64) (.pair (.sl 3 (.int .i64)) .bool))))))))), z146, .ro⟩, ⟨141, (.pair (.int .i64) (.pair (.int .i64) (.int .i64))), z147, .ro⟩]⟩ : St)) (fun z148 z149 z150 z151 z152 z153 => k (.exit 2) (⟨((.s1 (.one (.unk))) :: (vp 0 0) :: (vu 168 [])), [(52, [ai z148, ai z149, ai z150, ai z151, .sl 0, .sl 1])], [⟨138, (.pair (.int .i64) (.pair (.int .i64) (.pair (.int .i64) (.pair (.int .i64) (.pair (.int .i64) (.pair (.int .i64) (.pair (.int .i64) (.pair (.int .i64) (.pair (.sl 3 (.int .i64)) .bool))))))))), z152, .ro⟩, ⟨141, (.pair (.int .i64) (.pair (.int .i64) (.int .i64))), z153, .ro⟩]⟩ : St)) a50 a51 a52 a53 a54 a55 a56 a57
  | _ => none
noncomputable def S92_12 (a50 a51 a52 a53 a54 a55 : Int) (a56 : List (Int × Int × Int)) (a57 : List (Int × Int × Int × Int × Int × Int × Int × Int × List Int × Bool)) : St := (⟨((.s1 (.one (.unk))) :: (vp 0 0) :: (vu 93 ((vl 0) :: (vi a50) :: (vi a51) :: (vu 72 [])))), [(52, [ai a52, ai a53, ai a54, ai a55, .sl 1, .sl 0])], [⟨141, (.pair (.int .i64) (.pair (.int .i64) (.int .i64))), a56, .ro⟩, ⟨138, (.pair (.int .i64) (.pair (.int .i64) (.pair (.int .i64) (.pair (.int .i64) (.pair (.int .i64) (.pair (.int .i64) (.pair (.int .i64) (.pair (.int .i64) (.pair (.sl 3 (.int .i64)) .bool))))))))), a57, .ro⟩]⟩ : St)
theorem ev92_12 (m : Nat) (k : Kont Bool) (a50 a51 a52 a53 a54 a55 : Int) (a56 : List (Int × Int × Int)) (a57 : List (Int × Int × Int × Int × Int × Int × Int × Int × List Int × Bool)) : evC Try.prog G92 loopNil c92_12 (S92_12 a50 a51 a52 a53 a54 a55 a56 a57) (turn Try.prog (0, 0) H92_12 (E92_12 m) k) = E92_12 (m + 1) [.v (.int .i64 a50), .v (.int .i64 a51), .v (.int .i64 a52), .v (.int .i64 a53), .v (.int .i64 a54), .v (.int .i64 a55), .row (.pair (.int .i64) (.pair (.int .i64) (.int .i64))) a56, .row (.pair (.int .i64) (.pair (.int .i64) (.pair (.int .i64) (.pair (.int .i64) (.pair (.int .i64) (.pair (.int .i64) (.pair (.int .i64) (.pair (.int .i64) (.pair (.sl 3 (.int .i64)) .bool))))))))) a57] k := by kernel_rfl
theorem ok92_12 (m : Nat) : LoopOk Try.prog (0, 0) c92_12 (enter Try.prog (0, 0) H92_12 (E92_12 m)) := by
  refine loop_ok (G := G92) (L := loopNil) (envCons_good good78 (envCons_good good134 (envCons_good good140 (envCons_good good141 envNil_good)))) (by intro x hx; simp [show loopsOf c92_12 = [] from by kernel_rfl] at hx) (fun ps k => by unfold E92_12; split <;> rfl) (fun m ps k r h => ?_) m
  have h0 := h
  unfold E92_12 at h
  split at h
  · exact ⟨S92_12 _ _ _ _ _ _ _ _, by kernel_rfl, (ev92_12 m k _ _ _ _ _ _ _ _).trans h0⟩
  · cases h
noncomputable def H92_18 : LoopH := ⟨⟨((.one (.unk)) :: (.one (.ptr 0 0)) :: (hu 130 (hh :: hh :: (hu 36 [])))), [(52, [.hole, .hole, .hole, .hole, .sl 0, .sl 1])], [(138, (.pair (.int .i64) (.pair (.int .i64) (.pair (.int .i64) (.pair (.int .i64) (.pair (.int .i64) (.pair (.int .i64) (.pair (.int .i64) (.pair (.int .i64) (.pair (.sl 3 (.int .i64)) .bool))))))))), .ro), (141, (.pair (.int .i64) (.pair (.int .i64) (.int .i64))), .ro)]⟩, [0, 2, 3, 4, 5, 6, 7, 8, 9, 10, 11, 12, 13, 14, 15, 16, 17, 18, 19, 20, 21, 22, 23, 24, 25, 26, 27, 28, 29, 30, 31, 32, 33, 34, 35, 36, 37, 38, 39, 40, 41, 42, 43, 44, 45, 46, 47, 48, 49, 50, 51, 52, 53, 54, 55, 56, 57, 58, 59, 60, 61, 62, 63, 64, 65, 66, 67, 68, 69, 70, 71, 72, 73, 74, 75, 76, 77, 78, 79, 80, 81, 82, 83, 84, 85, 86, 87, 88, 89, 90, 91, 92, 93, 94, 95, 96, 97, 98, 99, 100, 101, 102, 103, 104, 105, 106, 107, 108, 109, 110, 111, 112, 113, 114, 115, 116, 117, 118, 119, 120, 121, 122, 123, 124, 125, 126, 127, 128, 129, 130, 131, 134, 135, 136, 137, 138, 139, 140, 141, 142, 143, 144, 145, 146, 147, 148, 149, 150, 151, 152, 153, 154, 155, 156, 157, 158, 159, 160, 161, 162, 163, 164, 165, 166, 167, 168, 169], [], [0, 1, 3, 4, 5, 6, 7, 8, 9, 10, 11, 12, 13, 14, 15, 16, 17, 18, 19, 20, 21, 22, 23, 24, 25, 26, 27, 28, 29, 30, 31, 32, 33, 34, 35, 36, 37, 38, 39, 40, 41, 42, 43, 44, 45, 46, 47, 48, 49, 50, 51, 52, 53, 54, 55, 56, 57, 58, 59, 60, 61, 62, 63, 64, 65, 66, 67, 68, 69, 70, 71, 72, 73, 74, 75, 76, 77, 78, 79, 80, 81, 82, 83, 84, 85, 86, 87, 88, 89, 90, 91, 92, 93, 94, 95, 96, 97, 98, 99, 100, 101, 102, 103, 104, 105, 106, 107, 108, 109, 110, 111, 112, 113, 114, 115, 116, 117, 118, 119, 120, 121, 122, 123, 124, 125, 126, 127, 128, 129, 130, 131, 132, 133, 134, 135, 136, 137, 138, 139, 140, 141, 142, 143, 144, 145, 146, 147, 148, 149, 150, 151, 152, 153, 154, 155, 156, 157, 158, 159, 160, 161, 162, 163, 164, 165, 166, 167, 168, 169]⟩
noncomputable def E92_18 (m : Nat) (ps : List Prm) (k : Kont Bool) : Option Bool :=
  match ps with
  | [.v (.int .i64 a82), .v (.int .i64 a83), .v (.int .i64 a84), .v (.int .i64 a85), .v (.int .i64 a86), .v (.int .i64 a87), .row (.pair (.int .i64) (.pair (.int .i64) (.pair (.int .i64) (.pair (.int .i64) (.pair (.int .i64) (.pair (.int .i64) (.pair (.int .i64) (.pair (.int .i64) (.pair (.sl 3 (.int .i64)) .bool))))))))) a88, .row (.pair (.int .i64) (.pair (.int .i64) (.int .i64))) a89] => I.isBox_l2 m (fun z154 => k .ret (⟨(vu 2 ((vb z154) :: (vu 167 []))), [], []⟩ : St)) (k (.exit 4) (⟨(vu 170 []), [], []⟩ : St)) a82 a83 a84 a85 a86 a87 a88 a89
  | _ => none
noncomputable def S92_18 (a82 a83 a84 a85 a86 a87 : Int) (a88 : List (Int × Int × Int × Int × Int × Int × Int × Int × List Int × Bool)) (a89 : List (Int × Int × Int)) : St := (⟨((.s1 (.one (.unk))) :: (vp 0 0) :: (vu 130 ((vi a82) :: (vi a83) :: (vu 36 [])))), [(52, [ai a84, ai a85, ai a86, ai a87, .sl 0, .sl 1])], [⟨138, (.pair (.int .i64) (.pair (.int .i64) (.pair (.int .i64) (.pair (.int .i64) (.pair (.int .i64) (.pair (.int .i64) (.pair (.int .i64) (.pair (.int .i64) (.pair (.sl 3 (.int .i64)) .bool))))))))), a88, .ro⟩, ⟨141, (.pair (.int .i64) (.pair (.int .i64) (.int .i64))), a89, .ro⟩]⟩ : St)
theorem ev92_18 (m : Nat) (k : Kont Bool) (a82 a83 a84 a85 a86 a87 : Int) (a88 : List (Int × Int × Int × Int × Int × Int × Int × Int × List Int × Bool)) (a89 : List (Int × Int × Int)) : evC Try.prog G92 loopNil c92_18 (S92_18 a82 a83 a84 a85 a86 a87 a88 a89) (turn Try.prog (0, 0) H92_18 (E92_18 m) k) = E92_18 (m + 1) [.v (.int .i64 a82), .v (.int .i64 a83), .v (.int .i64 a84), .v (.int .i64 a85), .v (.int .i64 a86), .v (.int .i64 a87), .row (.pair (.int .i64) (.pair (.int .i64) (.pair (.int .i64) (.pair (.int .i64) (.pair (.int .i64) (.pair (.int .i64) (.pair (.int .i64) (.pair (.int .i64) (.pair (.sl 3 (.int .i64)) .bool))))))))) a88, .row (.pair (.int .i64) (.pair (.int .i64) (.int .i64))) a89] k := by kernel_rfl
theorem ok92_18 (m : Nat) : LoopOk Try.prog (0, 0) c92_18 (enter Try.prog (0, 0) H92_18 (E92_18 m)) := by
  refine loop_ok (G := G92) (L := loopNil) (envCons_good good78 (envCons_good good134 (envCons_good good140 (envCons_good good141 envNil_good)))) (by intro x hx; simp [show loopsOf c92_18 = [] from by kernel_rfl] at hx) (fun ps k => by unfold E92_18; split <;> rfl) (fun m ps k r h => ?_) m
  have h0 := h
  unfold E92_18 at h
  split at h
  · exact ⟨S92_18 _ _ _ _ _ _ _ _, by kernel_rfl, (ev92_18 m k _ _ _ _ _ _ _ _).trans h0⟩
  · cases h
noncomputable def L92 : LEnv Bool := (loopCons 6 (enter Try.prog (0, 0) H92_6 (E92_6 fu)) (loopCons 12 (enter Try.prog (0, 0) H92_12 (E92_12 fu)) (loopCons 18 (enter Try.prog (0, 0) H92_18 (E92_18 fu)) loopNil)))
theorem lq92 : loopsOf c92 = [c92_6, c92_12, c92_18] := by kernel_rfl
theorem fr92_6 : firstReg c92_6 = some 6 := by kernel_rfl
theorem le92_6 : L92 6 = enter Try.prog (0, 0) H92_6 (E92_6 fu) := by kernel_rfl
theorem fr92_12 : firstReg c92_12 = some 12 := by kernel_rfl
theorem le92_12 : L92 12 = enter Try.prog (0, 0) H92_12 (E92_12 fu) := by kernel_rfl
theorem fr92_18 : firstReg c92_18 = some 18 := by kernel_rfl
theorem le92_18 : L92 18 = enter Try.prog (0, 0) H92_18 (E92_18 fu) := by kernel_rfl
theorem lm92 : ∀ x ∈ [c92_6, c92_12, c92_18], ∀ id, firstReg x = some id → LoopOk Try.prog (0, 0) x (L92 id) := (loops_cons fr92_6 le92_6 (ok92_6 fu) (loops_cons fr92_12 le92_12 (ok92_12 fu) (loops_cons fr92_18 le92_18 (ok92_18 fu) loops_nil)))
theorem lp92 : ∀ x ∈ loopsOf c92, ∀ id, firstReg x = some id → LoopOk Try.prog (0, 0) x (L92 id) := loops_eq lq92 lm92
noncomputable def R92 (x : Bool) : Res := ⟨[.one (ab x)], [], []⟩
noncomputable def K92 (r : Res) : Option Bool :=
  match r with
  | ⟨[.one (.val (.bool v1))], [], []⟩ => some (v1)
  | _ => none
noncomputable def E92 : Fun2 := fun args bs rs =>
  match args, bs, rs with
  | [.s1 (.agg [.val (.int .i64 a1), .val (.int .i64 a2), .val (.int .i64 a3), .val (.int .i64 a4), .sl 0, .sl 1])], [], [⟨138, (.pair (.int .i64) (.pair (.int .i64) (.pair (.int .i64) (.pair (.int .i64) (.pair (.int .i64) (.pair (.int .i64) (.pair (.int .i64) (.pair (.int .i64) (.pair (.sl 3 (.int .i64)) .bool))))))))), a5, .ro⟩, ⟨141, (.pair (.int .i64) (.pair (.int .i64) (.int .i64))), a6, .ro⟩] => some ⟨Bool, I.isBox a1 a2 a3 a4 a5 a6, R92⟩
  | _, _, _ => none
theorem ev92 (a1 a2 a3 a4 : Int) (a5 : List (Int × Int × Int × Int × Int × Int × Int × Int × List Int × Bool)) (a6 : List (Int × Int × Int)) : evF Try.prog G92 L92 (0, 0) Try.f92 c92 [.s1 (.agg [ai a1, ai a2, ai a3, ai a4, .sl 0, .sl 1])] [] [⟨138, (.pair (.int .i64) (.pair (.int .i64) (.pair (.int .i64) (.pair (.int .i64) (.pair (.int .i64) (.pair (.int .i64) (.pair (.int .i64) (.pair (.int .i64) (.pair (.sl 3 (.int .i64)) .bool))))))))), a5, .ro⟩, ⟨141, (.pair (.int .i64) (.pair (.int .i64) (.int .i64))), a6, .ro⟩] K92 = I.isBox a1 a2 a3 a4 a5 a6 := by kernel_rfl
theorem good92 : Vm.Good Try.prog 92 E92 := by
  refine evF_good (G := G92) (c := c92) (envCons_good good78 (envCons_good good134 (envCons_good good140 (envCons_good good141 envNil_good)))) Try.func92 (by kernel_rfl) (by kernel_rfl) (0, 0) (fun args bs rs out t h h2 => ?_)
  unfold E92 at h
  split at h
  · injection h with h
    subst h
    exact ⟨rfl, L92, K92, lp92, (fun r t h => by unfold K92 at h; split at h; (injection h with h; subst h; rfl); cases h), (ev92 _ _ _ _ _ _).trans h2⟩
  · cases h
/-! ### I.BoxOk -/
noncomputable def G31 : Env := (envCons 92 [] E92 envNil)
noncomputable def c31 : Code := bodyOf Try.f31
noncomputable def I.BoxOk (a1 a2 a3 a4 : Int) (a5 : List (Int × Int × Int × Int × Int × Int × Int × Int × List Int × Bool)) (a6 : List (Int × Int × Int)) : Option Bool :=
(Option.bind (I.isBox a1 a2 a3 a4 a5 a6) fun r7 =>
(some r7))
noncomputable def R31 (x : Bool) : Res := ⟨[.one (ab x)], [], []⟩
noncomputable def K31 (r : Res) : Option Bool :=
  match r with
  | ⟨[.one (.val (.bool v1))], [], []⟩ => some (v1)
  | _ => none
noncomputable def E31 : Fun2 := fun args bs rs =>
  match args, bs, rs with
  | [.s1 (.agg [.val (.int .i64 a1), .val (.int .i64 a2), .val (.int .i64 a3), .val (.int .i64 a4), .sl 0, .sl 1])], [], [⟨138, (.pair (.int .i64) (.pair (.int .i64) (.pair (.int .i64) (.pair (.int .i64) (.pair (.int .i64) (.pair (.int .i64) (.pair (.int .i64) (.pair (.int .i64) (.pair (.sl 3 (.int .i64)) .bool))))))))), a5, .ro⟩, ⟨141, (.pair (.int .i64) (.pair (.int .i64) (.int .i64))), a6, .ro⟩] => some ⟨Bool, I.BoxOk a1 a2 a3 a4 a5 a6, R31⟩
  | _, _, _ => none
theorem ev31 (a1 a2 a3 a4 : Int) (a5 : List (Int × Int × Int × Int × Int × Int × Int × Int × List Int × Bool)) (a6 : List (Int × Int × Int)) : evF Try.prog G31 loopNil (0, 0) Try.f31 c31 [.s1 (.agg [ai a1, ai a2, ai a3, ai a4, .sl 0, .sl 1])] [] [⟨138, (.pair (.int .i64) (.pair (.int .i64) (.pair (.int .i64) (.pair (.int .i64) (.pair (.int .i64) (.pair (.int .i64) (.pair (.int .i64) (.pair (.int .i64) (.pair (.sl 3 (.int .i64)) .bool))))))))), a5, .ro⟩, ⟨141, (.pair (.int .i64) (.pair (.int .i64) (.int .i64))), a6, .ro⟩] K31 = I.BoxOk a1 a2 a3 a4 a5 a6 := by kernel_rfl
theorem good31 : Vm.Good Try.prog 31 E31 := by
  refine evF_good (G := G31) (c := c31) (envCons_good good92 envNil_good) Try.func31 (by kernel_rfl) (by kernel_rfl) (0, 0) (fun args bs rs out t h h2 => ?_)
  unfold E31 at h
  split at h
  · injection h with h
    subst h
    exact ⟨rfl, loopNil, K31, (by intro x hx; simp [show loopsOf c31 = [] from by kernel_rfl] at hx), (fun r t h => by unfold K31 at h; split at h; (injection h with h; subst h; rfl); cases h), (ev31 _ _ _ _ _ _).trans h2⟩
  · cases h
/-! ### L.eqIntS -/
noncomputable def G160 : Env := envNil
noncomputable def c160 : Code := bodyOf Try.f160
noncomputable def c160_4 : Code := (loopsOf c160).getD 0 .skip
noncomputable def L.eqIntS_l0 : Nat → (Bool → Option Bool) → (Option Bool) → Int → List Int → List Int → Option Bool
  | 0, _, _, _, _, _ => none
  | m + 1, e4_0, e4_1, a5, a6, a7 =>
    (bif (decide (a5 < (a6.length : Int))) then
    (bif decide ((0 : Int) ≤ a5 ∧ a5 < (a6.length : Int)) then
    (bif decide ((0 : Int) ≤ a5 ∧ a5 < (a7.length : Int)) then
    (bif ((nthI a6 a5 (0 : Int)) != (nthI a7 a5 (0 : Int))) then
    (e4_0 false)
    else
    (L.eqIntS_l0 m e4_0 e4_1 (IntKind.wrap .i64 (a5 + 1)) a6 a7))
    else
    none)
    else
    none)
    else
    e4_1)
noncomputable def L.eqIntS (a1 a2 : List Int) : Option Bool :=
(bif ((a1.length : Int) != (a2.length : Int)) then
(some false)
else
(L.eqIntS_l0 fu (fun y12 =>
(some y12)) (some true) 0 a1 a2))
noncomputable def H160_4 : LoopH := ⟨⟨((.one (.sl 0)) :: (.one (.sl 1)) :: (hu 3 (hh :: (hu 20 [])))), [], [(3, (.int .i64), .ro), (3, (.int .i64), .ro)]⟩, [2, 3, 4, 6, 7, 8, 9, 10, 11, 12, 13, 14, 15, 16, 17, 18, 19, 20, 21, 22, 23, 24, 25], [], [0, 1, 2, 3, 5, 6, 7, 8, 9, 10, 11, 12, 13, 14, 15, 16, 17, 18, 19, 20, 21, 22, 23, 24, 25]⟩
noncomputable def E160_4 (m : Nat) (ps : List Prm) (k : Kont Bool) : Option Bool :=
  match ps with
  | [.v (.int .i64 a5), .row (.int .i64) a6, .row (.int .i64) a7] => L.eqIntS_l0 m (fun z14 => k .ret (⟨(vu 4 ((vb z14) :: (vu 21 []))), [], []⟩ : St)) (k (.exit 0) (⟨(vu 26 []), [], []⟩ : St)) a5 a6 a7
  | _ => none
noncomputable def S160_4 (a5 : Int) (a6 a7 : List Int) : St := (⟨((vl 0) :: (vl 1) :: (vu 3 ((vi a5) :: (vu 20 [])))), [], [⟨3, (.int .i64), a6, .ro⟩, ⟨3, (.int .i64), a7, .ro⟩]⟩ : St)
theorem ev160_4 (m : Nat) (k : Kont Bool) (a5 : Int) (a6 a7 : List Int) : evC Try.prog G160 loopNil c160_4 (S160_4 a5 a6 a7) (turn Try.prog (0, 0) H160_4 (E160_4 m) k) = E160_4 (m + 1) [.v (.int .i64 a5), .row (.int .i64) a6, .row (.int .i64) a7] k := by kernel_rfl
theorem ok160_4 (m : Nat) : LoopOk Try.prog (0, 0) c160_4 (enter Try.prog (0, 0) H160_4 (E160_4 m)) := by
  refine loop_ok (G := G160) (L := loopNil) envNil_good (by intro x hx; simp [show loopsOf c160_4 = [] from by kernel_rfl] at hx) (fun ps k => by unfold E160_4; split <;> rfl) (fun m ps k r h => ?_) m
  have h0 := h
  unfold E160_4 at h
  split at h
  · exact ⟨S160_4 _ _ _, by kernel_rfl, (ev160_4 m k _ _ _).trans h0⟩
  · cases h
noncomputable def L160 : LEnv Bool := (loopCons 4 (enter Try.prog (0, 0) H160_4 (E160_4 fu)) loopNil)
theorem lq160 : loopsOf c160 = [c160_4] := by kernel_rfl
theorem fr160_4 : firstReg c160_4 = some 4 := by kernel_rfl
theorem le160_4 : L160 4 = enter Try.prog (0, 0) H160_4 (E160_4 fu) := by kernel_rfl
theorem lm160 : ∀ x ∈ [c160_4], ∀ id, firstReg x = some id → LoopOk Try.prog (0, 0) x (L160 id) := (loops_cons fr160_4 le160_4 (ok160_4 fu) loops_nil)
theorem lp160 : ∀ x ∈ loopsOf c160, ∀ id, firstReg x = some id → LoopOk Try.prog (0, 0) x (L160 id) := loops_eq lq160 lm160
noncomputable def R160 (x : Bool) : Res := ⟨[.one (ab x)], [], []⟩
noncomputable def K160 (r : Res) : Option Bool :=
  match r with
  | ⟨[.one (.val (.bool v1))], [], []⟩ => some (v1)
  | _ => none
noncomputable def E160 : Fun2 := fun args bs rs =>
  match args, bs, rs with
  | [.s1 (.one (.sl 0)), .s1 (.one (.sl 1))], [], [⟨3, (.int .i64), a1, .ro⟩, ⟨3, (.int .i64), a2, .ro⟩] => some ⟨Bool, L.eqIntS a1 a2, R160⟩
  | _, _, _ => none
theorem ev160 (a1 a2 : List Int) : evF Try.prog G160 L160 (0, 0) Try.f160 c160 [vl 0, vl 1] [] [⟨3, (.int .i64), a1, .ro⟩, ⟨3, (.int .i64), a2, .ro⟩] K160 = L.eqIntS a1 a2 := by kernel_rfl
theorem good160 : Vm.Good Try.prog 160 E160 := by
  refine evF_good (G := G160) (c := c160) envNil_good Try.func160 (by kernel_rfl) (by kernel_rfl) (0, 0) (fun args bs rs out t h h2 => ?_)
  unfold E160 at h
  split at h
  · injection h with h
    subst h
    exact ⟨rfl, L160, K160, lp160, (fun r t h => by unfold K160 at h; split at h; (injection h with h; subst h; rfl); cases h), (ev160 _ _).trans h2⟩
  · cases h
/-! ### L.eqPane -/
noncomputable def G111 : Env := (envCons 160 [] E160 envNil)
noncomputable def c111 : Code := bodyOf Try.f111
noncomputable def L.eqPane (a1 a2 a3 a4 a5 a6 : Int) (a7 : Bool) (a8 a9 a10 a11 a12 a13 : Int) (a14 : Bool) (a15 a16 : List Int) : Option Bool :=
(bif (a1 != a8) then
(some false)
else
(bif (a2 != a9) then
(some false)
else
(bif (a3 != a10) then
(some false)
else
(bif (a4 != a11) then
(some false)
else
(bif (a5 != a12) then
(some false)
else
(bif (a6 != a13) then
(some false)
else
(Option.bind (L.eqIntS a15 a16) fun r17 =>
(bif (!r17) then
(some false)
else
(bif (!(a7 == a14)) then
(some false)
else
(some true))))))))))
noncomputable def R111 (x : Bool) : Res := ⟨[.one (ab x)], [], []⟩
noncomputable def K111 (r : Res) : Option Bool :=
  match r with
  | ⟨[.one (.val (.bool v1))], [], []⟩ => some (v1)
  | _ => none
noncomputable def E111 : Fun2 := fun args bs rs =>
  match args, bs, rs with
  | [.s1 (.agg [.val (.int .i64 a1), .val (.int .i64 a2), .val (.int .i64 a3), .val (.int .i64 a4), .val (.int .i64 a5), .val (.int .i64 a6), .sl 0, .val (.bool a7)]), .s1 (.agg [.val (.int .i64 a8), .val (.int .i64 a9), .val (.int .i64 a10), .val (.int .i64 a11), .val (.int .i64 a12), .val (.int .i64 a13), .sl 1, .val (.bool a14)])], [], [⟨3, (.int .i64), a15, .ro⟩, ⟨3, (.int .i64), a16, .ro⟩] => some ⟨Bool, L.eqPane a1 a2 a3 a4 a5 a6 a7 a8 a9 a10 a11 a12 a13 a14 a15 a16, R111⟩
  | _, _, _ => none
theorem ev111 (a1 a2 a3 a4 a5 a6 : Int) (a7 : Bool) (a8 a9 a10 a11 a12 a13 : Int) (a14 : Bool) (a15 a16 : List Int) : evF Try.prog G111 loopNil (0, 0) Try.f111 c111 [.s1 (.agg [ai a1, ai a2, ai a3, ai a4, ai a5, ai a6, .sl 0, ab a7]), .s1 (.agg [ai a8, ai a9, ai a10, ai a11, ai a12, ai a13, .sl 1, ab a14])] [] [⟨3, (.int .i64), a15, .ro⟩, ⟨3, (.int .i64), a16, .ro⟩] K111 = L.eqPane a1 a2 a3 a4 a5 a6 a7 a8 a9 a10 a11 a12 a13 a14 a15 a16 := by kernel_rfl
theorem good111 : Vm.Good Try.prog 111 E111 := by
  refine evF_good (G := G111) (c := c111) (envCons_good good160 envNil_good) Try.func111 (by kernel_rfl) (by kernel_rfl) (0, 0) (fun args bs rs out t h h2 => ?_)
  unfold E111 at h
  split at h
  · injection h with h
    subst h
    exact ⟨rfl, loopNil, K111, (by intro x hx; simp [show loopsOf c111 = [] from by kernel_rfl] at hx), (fun r t h => by unfold K111 at h; split at h; (injection h with h; subst h; rfl); cases h), (ev111 _ _ _ _ _ _ _ _ _ _ _ _ _ _ _ _).trans h2⟩
  · cases h
/-! ### L.eqItem -/
noncomputable def G135 : Env := (envCons 111 [] E111 envNil)
noncomputable def c135 : Code := bodyOf Try.f135
noncomputable def L.eqItem (a1 a2 a3 a4 a5 a6 a7 a8 : Int) (a9 : Bool) (a10 a11 a12 a13 a14 a15 a16 a17 : Int) (a18 : Bool) (a19 a20 : List Int) : Option Bool :=
(bif (a1 != a10) then
(some false)
else
(bif (a2 != a11) then
(some false)
else
(Option.bind (L.eqPane a3 a4 a5 a6 a7 a8 a9 a12 a13 a14 a15 a16 a17 a18 a19 a20) fun r21 =>
(bif (!r21) then
(some false)
else
(some true)))))
noncomputable def R135 (x : Bool) : Res := ⟨[.one (ab x)], [], []⟩
noncomputable def K135 (r : Res) : Option Bool :=
  match r with
  | ⟨[.one (.val (.bool v1))], [], []⟩ => some (v1)
  | _ => none
noncomputable def E135 : Fun2 := fun args bs rs =>
  match args, bs, rs with
  | [.s1 (.agg [.val (.int .i64 a1), .val (.int .i64 a2), .val (.int .i64 a3), .val (.int .i64 a4), .val (.int .i64 a5), .val (.int .i64 a6), .val (.int .i64 a7), .val (.int .i64 a8), .sl 0, .val (.bool a9)]), .s1 (.agg [.val (.int .i64 a10), .val (.int .i64 a11), .val (.int .i64 a12), .val (.int .i64 a13), .val (.int .i64 a14), .val (.int .i64 a15), .val (.int .i64 a16), .val (.int .i64 a17), .sl 1, .val (.bool a18)])], [], [⟨3, (.int .i64), a19, .ro⟩, ⟨3, (.int .i64), a20, .ro⟩] => some ⟨Bool, L.eqItem a1 a2 a3 a4 a5 a6 a7 a8 a9 a10 a11 a12 a13 a14 a15 a16 a17 a18 a19 a20, R135⟩
  | _, _, _ => none
theorem ev135 (a1 a2 a3 a4 a5 a6 a7 a8 : Int) (a9 : Bool) (a10 a11 a12 a13 a14 a15 a16 a17 : Int) (a18 : Bool) (a19 a20 : List Int) : evF Try.prog G135 loopNil (0, 0) Try.f135 c135 [.s1 (.agg [ai a1, ai a2, ai a3, ai a4, ai a5, ai a6, ai a7, ai a8, .sl 0, ab a9]), .s1 (.agg [ai a10, ai a11, ai a12, ai a13, ai a14, ai a15, ai a16, ai a17, .sl 1, ab a18])] [] [⟨3, (.int .i64), a19, .ro⟩, ⟨3, (.int .i64), a20, .ro⟩] K135 = L.eqItem a1 a2 a3 a4 a5 a6 a7 a8 a9 a10 a11 a12 a13 a14 a15 a16 a17 a18 a19 a20 := by kernel_rfl
theorem good135 : Vm.Good Try.prog 135 E135 := by
  refine evF_good (G := G135) (c := c135) (envCons_good good111 envNil_good) Try.func135 (by kernel_rfl) (by kernel_rfl) (0, 0) (fun args bs rs out t h h2 => ?_)
  unfold E135 at h
  split at h
  · injection h with h
    subst h
    exact ⟨rfl, loopNil, K135, (by intro x hx; simp [show loopsOf c135 = [] from by kernel_rfl] at hx), (fun r t h => by unfold K135 at h; split at h; (injection h with h; subst h; rfl); cases h), (ev135 _ _ _ _ _ _ _ _ _ _ _ _ _ _ _ _ _ _ _ _).trans h2⟩
  · cases h
/-! ### L.eqItemS -/
noncomputable def G79 : Env := (envCons 135 [] E135 envNil)
noncomputable def c79 : Code := bodyOf Try.f79
noncomputable def c79_4 : Code := (loopsOf c79).getD 0 .skip
noncomputable def L.eqItemS_l0 : Nat → (Bool → Option Bool) → (Option Bool) → Int → (List (Int × Int × Int × Int × Int × Int × Int × Int × List Int × Bool)) → (List (Int × Int × Int × Int × Int × Int × Int × Int × List Int × Bool)) → Option Bool
  | 0, _, _, _, _, _ => none
  | m + 1, e4_0, e4_1, a5, a6, a7 =>
    (bif (decide (a5 < (a6.length : Int))) then
    (bif decide ((0 : Int) ≤ a5 ∧ a5 < (a6.length : Int)) then
    (bif decide ((0 : Int) ≤ a5 ∧ a5 < (a7.length : Int)) then
    (Option.bind (L.eqItem ((nthI a6 a5 ((0 : Int), ((0 : Int), ((0 : Int), ((0 : Int), ((0 : Int), ((0 : Int), ((0 : Int), ((0 : Int), ([], false)))))))))).1) ((nthI a6 a5 ((0 : Int), ((0 : Int), ((0 : Int), ((0 : Int), ((0 : Int), ((0 : Int), ((0 : Int), ((0 : Int), ([], false)))))))))).2.1) ((nthI a6 a5 ((0 : Int), ((0 : Int), ((0 : Int), ((0 : Int), ((0 : Int), ((0 : Int), ((0 : Int), ((0 : Int), ([], false)))))))))).2.2.1) ((nthI a6 a5 ((0 : Int), ((0 : Int), ((0 : Int), ((0 : Int), ((0 : Int), ((0 : Int), ((0 : Int), ((0 : Int), ([], false)))))))))).2.2.2.1) ((nthI a6 a5 ((0 : Int), ((0 : Int), ((0 : Int), ((0 : Int), ((0 : Int), ((0 : Int), ((0 : Int), ((0 : Int), ([], false)))))))))).2.2.2.2.1) ((nthI a6 a5 ((0 : Int), ((0 : Int), ((0 : Int), ((0 : Int), ((0 : Int), ((0 : Int), ((0 : Int), ((0 : Int), ([], false)))))))))).2.2.2.2.2.1) ((nthI a6 a5 ((0 : Int), ((0 : Int), ((0 : Int), ((0 : Int), ((0 : Int), ((0 : Int), ((0 : Int), ((0 : Int), ([], false)))))))))).2.2.2.2.2.2.1) ((nthI a6 a5 ((0 : Int), ((0 : Int), ((0 : Int), ((0 : Int), ((0 : Int), ((0 : Int), ((0 : Int), ((0 : Int), ([], false)))))))))).2.2.2.2.2.2.2.1) ((nthI a6 a5 ((0 : Int), ((0 : Int), ((0 : Int), ((0 : Int), ((0 : Int), ((0 : Int), ((0 : Int), ((0 : Int), ([], false)))))))))).2.2.2.2.2.2.2.2.2) ((nthI a7 a5 ((0 : Int), ((0 : Int), ((0 : Int), ((0 : Int), ((0 : Int), ((0 : Int), ((0 : Int), ((0 : Int), ([], false)))))))))).1) ((nthI a7 a5 ((0 : Int), ((0 : Int), ((0 : Int), ((0 : Int), ((0 : Int), ((0 : Int), ((0 : Int), ((0 : Int), ([], false)))))))))).2.1) ((nthI a7 a5 ((0 : Int), ((0 : Int), ((0 : Int), ((0 : Int), ((0 : Int), ((0 : Int), ((0 : Int), ((0 : Int), ([], false)))))))))).2.2.1) ((nthI a7 a5 ((0 : Int), ((0 : Int), ((0 : Int), ((0 : Int), ((0 : Int), ((0 : Int), ((0 : Int), ((0 : Int), ([], false)))))))))).2.2.2.1) ((nthI a7 a5 ((0 : Int), ((0 : Int), ((0 : Int), ((0 : Int), ((0 : Int), ((0 : Int), ((0 : Int), ((0 : Int), ([], false)))))))))).2.2.2.2.1) ((nthI a7 a5 ((0 : Int), ((0 : Int), ((0 : Int), ((0 : Int), ((0 : Int), ((0 : Int), ((0 : Int), ((0 : Int), ([], false)))))))))).2.2.2.2.2.1) ((nthI a7 a5 ((0 : Int), ((0 : Int), ((0 : Int), ((0 : Int), ((0 : Int), ((0 : Int), ((0 : Int), ((0 : Int), ([], false)))))))))).2.2.2.2.2.2.1) ((nthI a7 a5 ((0 : Int), ((0 : Int), ((0 : Int), ((0 : Int), ((0 : Int), ((0 : Int), ((0 : Int), ((0 : Int), ([], false)))))))))).2.2.2.2.2.2.2.1) ((nthI a7 a5 ((0 : Int), ((0 : Int), ((0 : Int), ((0 : Int), ((0 : Int), ((0 : Int), ((0 : Int), ((0 : Int), ([], false)))))))))).2.2.2.2.2.2.2.2.2) ((nthI a6 a5 ((0 : Int), ((0 : Int), ((0 : Int), ((0 : Int), ((0 : Int), ((0 : Int), ((0 : Int), ((0 : Int), ([], false)))))))))).2.2.2.2.2.2.2.2.1) ((nthI a7 a5 ((0 : Int), ((0 : Int), ((0 : Int), ((0 : Int), ((0 : Int), ((0 : Int), ((0 : Int), ((0 : Int), ([], false)))))))))).2.2.2.2.2.2.2.2.1)) fun r10 =>
    (bif (!r10) then
    (e4_0 false)
    else
    (L.eqItemS_l0 m e4_0 e4_1 (IntKind.wrap .i64 (a5 + 1)) a6 a7)))
    else
    none)
    else
    none)
    else
    e4_1)
noncomputable def L.eqItemS (a1 a2 : List (Int × Int × Int × Int × Int × Int × Int × Int × List Int × Bool)) : Option Bool :=
(bif ((a1.length : Int) != (a2.length : Int)) then
(some false)
else
(L.eqItemS_l0 fu (fun y12 =>
(some y12)) (some true) 0 a1 a2))
noncomputable def H79_4 : LoopH := ⟨⟨((.one (.sl 0)) :: (.one (.sl 1)) :: (hu 3 (hh :: (hu 21 [])))), [], [(138, (.pair (.int .i64) (.pair (.int .i64) (.pair (.int .i64) (.pair (.int .i64) (.pair (.int .i64) (.pair (.int .i64) (.pair (.int .i64) (.pair (.int .i64) (.pair (.sl 3 (.int .i64)) .bool))))))))), .ro), (138, (.pair (.int .i64) (.pair (.int .i64) (.pair (.int .i64) (.pair (.int .i64) (.pair (.int .i64) (.pair (.int .i64) (.pair (.int .i64) (.pair (.int .i64) (.pair (.sl 3 (.int .i64)) .bool))))))))), .ro)]⟩, [2, 3, 4, 6, 7, 8, 9, 10, 11, 12, 13, 14, 15, 16, 17, 18, 19, 20, 21, 22, 23, 24, 25, 26], [], [0, 1, 2, 3, 5, 6, 7, 8, 9, 10, 11, 12, 13, 14, 15, 16, 17, 18, 19, 20, 21, 22, 23, 24, 25, 26]⟩
noncomputable def E79_4 (m : Nat) (ps : List Prm) (k : Kont Bool) : Option Bool :=
  match ps with
  | [.v (.int .i64 a5), .row (.pair (.int .i64) (.pair (.int .i64) (.pair (.int .i64) (.pair (.int .i64) (.pair (.int .i64) (.pair (.int .i64) (.pair (.int .i64) (.pair (.int .i64) (.pair (.sl 3 (.int .i64)) .bool))))))))) a6, .row (.pair (.int .i64) (.pair (.int .i64) (.pair (.int .i64) (.pair (.int .i64) (.pair (.int .i64) (.pair (.int .i64) (.pair (.int .i64) (.pair (.int .i64) (.pair (.sl 3 (.int .i64)) .bool))))))))) a7] => L.eqItemS_l0 m (fun z14 => k .ret (⟨(vu 4 ((vb z14) :: (vu 22 []))), [], []⟩ : St)) (k (.exit 0) (⟨(vu 27 []), [], []⟩ : St)) a5 a6 a7
  | _ => none
noncomputable def S79_4 (a5 : Int) (a6 a7 : List (Int × Int × Int × Int × Int × Int × Int × Int × List Int × Bool)) : St := (⟨((vl 0) :: (vl 1) :: (vu 3 ((vi a5) :: (vu 21 [])))), [], [⟨138, (.pair (.int .i64) (.pair (.int .i64) (.pair (.int .i64) (.pair (.int .i64) (.pair (.int .i64) (.pair (.int .i64) (.pair (.int .i64) (.pair (.int .i64) (.pair (.sl 3 (.int .i64)) .bool))))))))), a6, .ro⟩, ⟨138, (.pair (.int .i64) (.pair (.int .i64) (.pair (.int .i64) (.pair (.int .i64) (.pair (.int .i64) (.pair (.int .i64) (.pair (.int .i64) (.pair (.int .i64) (.pair (.sl 3 (.int .i64)) .bool))))))))), a7, .ro⟩]⟩ : St)
theorem ev79_4 (m : Nat) (k : Kont Bool) (a5 : Int) (a6 a7 : List (Int × Int × Int × Int × Int × Int × Int × Int × List Int × Bool)) : evC Try.prog G79 loopNil c79_4 (S79_4 a5 a6 a7) (turn Try.prog (0, 0) H79_4 (E79_4 m) k) = E79_4 (m + 1) [.v (.int .i64 a5), .row (.pair (.int .i64) (.pair (.int .i64) (.pair (.int .i64) (.pair (.int .i64) (.pair (.int .i64) (.pair (.int .i64) (.pair (.int .i64) (.pair (.int .i64) (.pair (.sl 3 (.int .i64)) .bool))))))))) a6, .row (.pair (.int .i64) (.pair (.int .i64) (.pair (.int .i64) (.pair (.int .i64) (.pair (.int .i64) (.pair (.int .i64) (.pair (.int .i64) (.pair (.int .i64) (.pair (.sl 3 (.int .i64)) .bool))))))))) a7] k := by kernel_rfl
theorem ok79_4 (m : Nat) : LoopOk Try.prog (0, 0) c79_4 (enter Try.prog (0, 0) H79_4 (E79_4 m)) := by
  refine loop_ok (G := G79) (L := loopNil) (envCons_good good135 envNil_good) (by intro x hx; simp [show loopsOf c79_4 = [] from by kernel_rfl] at hx) (fun ps k => by unfold E79_4; split <;> rfl) (fun m ps k r h => ?_) m
  have h0 := h
  unfold E79_4 at h
  split at h
  · exact ⟨S79_4 _ _ _, by kernel_rfl, (ev79_4 m k _ _ _).trans h0⟩
  · cases h
noncomputable def L79 : LEnv Bool := (loopCons 4 (enter Try.prog (0, 0) H79_4 (E79_4 fu)) loopNil)
theorem lq79 : loopsOf c79 = [c79_4] := by kernel_rfl
theorem fr79_4 : firstReg c79_4 = some 4 := by kernel_rfl
theorem le79_4 : L79 4 = enter Try.prog (0, 0) H79_4 (E79_4 fu) := by kernel_rfl
theorem lm79 : ∀ x ∈ [c79_4], ∀ id, firstReg x = some id → LoopOk Try.prog (0, 0) x (L79 id) := (loops_cons fr79_4 le79_4 (ok79_4 fu) loops_nil)
theorem lp79 : ∀ x ∈ loopsOf c79, ∀ id, firstReg x = some id → LoopOk Try.prog (0, 0) x (L79 id) := loops_eq lq79 lm79
noncomputable def R79 (x : Bool) : Res := ⟨[.one (ab x)], [], []⟩
noncomputable def K79 (r : Res) : Option Bool :=
  match r with
  | ⟨[.one (.val (.bool v1))], [], []⟩ => some (v1)
  | _ => none
noncomputable def E79 : Fun2 := fun args bs rs =>
  match args, bs, rs with
  | [.s1 (.one (.sl 0)), .s1 (.one (.sl 1))], [], [⟨138, (.pair (.int .i64) (.pair (.int .i64) (.pair (.int .i64) (.pair (.int .i64) (.pair (.int .i64) (.pair (.int .i64) (.pair (.int .i64) (.pair (.int .i64) (.pair (.sl 3 (.int .i64)) .bool))))))))), a1, .ro⟩, ⟨138, (.pair (.int .i64) (.pair (.int .i64) (.pair (.int .i64) (.pair (.int .i64) (.pair (.int .i64) (.pair (.int .i64) (.pair (.int .i64) (.pair (.int .i64) (.pair (.sl 3 (.int .i64)) .bool))))))))), a2, .ro⟩] => some ⟨Bool, L.eqItemS a1 a2, R79⟩
  | _, _, _ => none
theorem ev79 (a1 a2 : List (Int × Int × Int × Int × Int × Int × Int × Int × List Int × Bool)) : evF Try.prog G79 L79 (0, 0) Try.f79 c79 [vl 0, vl 1] [] [⟨138, (.pair (.int .i64) (.pair (.int .i64) (.pair (.int .i64) (.pair (.int .i64) (.pair (.int .i64) (.pair (.int .i64) (.pair (.int .i64) (.pair (.int .i64) (.pair (.sl 3 (.int .i64)) .bool))))))))), a1, .ro⟩, ⟨138, (.pair (.int .i64) (.pair (.int .i64) (.pair (.int .i64) (.pair (.int .i64) (.pair (.int .i64) (.pair (.int .i64) (.pair (.int .i64) (.pair (.int .i64) (.pair (.sl 3 (.int .i64)) .bool))))))))), a2, .ro⟩] K79 = L.eqItemS a1 a2 := by kernel_rfl
theorem good79 : Vm.Good Try.prog 79 E79 := by
  refine evF_good (G := G79) (c := c79) (envCons_good good135 envNil_good) Try.func79 (by kernel_rfl) (by kernel_rfl) (0, 0) (fun args bs rs out t h h2 => ?_)
  unfold E79 at h
  split at h
  · injection h with h
    subst h
    exact ⟨rfl, L79, K79, lp79, (fun r t h => by unfold K79 at h; split at h; (injection h with h; subst h; rfl); cases h), (ev79 _ _).trans h2⟩
  · cases h
/-! ### L.eqRec -/
noncomputable def G136 : Env := envNil
noncomputable def c136 : Code := bodyOf Try.f136
noncomputable def L.eqRec (a1 a2 a3 a4 a5 a6 : Int) : Option Bool :=
(bif (a1 != a4) then
(some false)
else
(bif (a2 != a5) then
(some false)
else
(bif (a3 != a6) then
(some false)
else
(some true))))
noncomputable def R136 (x : Bool) : Res := ⟨[.one (ab x)], [], []⟩
noncomputable def K136 (r : Res) : Option Bool :=
  match r with
  | ⟨[.one (.val (.bool v1))], [], []⟩ => some (v1)
  | _ => none
noncomputable def E136 : Fun2 := fun args bs rs =>
  match args, bs, rs with
  | [.s1 (.agg [.val (.int .i64 a1), .val (.int .i64 a2), .val (.int .i64 a3)]), .s1 (.agg [.val (.int .i64 a4), .val (.int .i64 a5), .val (.int .i64 a6)])], [], [] => some ⟨Bool, L.eqRec a1 a2 a3 a4 a5 a6, R136⟩
  | _, _, _ => none
theorem ev136 (a1 a2 a3 a4 a5 a6 : Int) : evF Try.prog G136 loopNil (0, 0) Try.f136 c136 [.s1 (.agg [ai a1, ai a2, ai a3]), .s1 (.agg [ai a4, ai a5, ai a6])] [] [] K136 = L.eqRec a1 a2 a3 a4 a5 a6 := by kernel_rfl
theorem good136 : Vm.Good Try.prog 136 E136 := by
  refine evF_good (G := G136) (c := c136) envNil_good Try.func136 (by kernel_rfl) (by kernel_rfl) (0, 0) (fun args bs rs out t h h2 => ?_)
  unfold E136 at h
  split at h
  · injection h with h
    subst h
    exact ⟨rfl, loopNil, K136, (by intro x hx; simp [show loopsOf c136 = [] from by kernel_rfl] at hx), (fun r t h => by unfold K136 at h; split at h; (injection h with h; subst h; rfl); cases h), (ev136 _ _ _ _ _ _).trans h2⟩
  · cases h
/-! ### L.eqRecS -/
noncomputable def G80 : Env := (envCons 136 [] E136 envNil)
noncomputable def c80 : Code := bodyOf Try.f80
noncomputable def c80_4 : Code := (loopsOf c80).getD 0 .skip
noncomputable def L.eqRecS_l0 : Nat → (Bool → Option Bool) → (Option Bool) → Int → (List (Int × Int × Int)) → (List (Int × Int × Int)) → Option Bool
  | 0, _, _, _, _, _ => none
  | m + 1, e4_0, e4_1, a5, a6, a7 =>
    (bif (decide (a5 < (a6.length : Int))) then
    (bif decide ((0 : Int) ≤ a5 ∧ a5 < (a6.length : Int)) then
    (bif decide ((0 : Int) ≤ a5 ∧ a5 < (a7.length : Int)) then
    (Option.bind (L.eqRec ((nthI a6 a5 ((0 : Int), ((0 : Int), (0 : Int)))).1) ((nthI a6 a5 ((0 : Int), ((0 : Int), (0 : Int)))).2.1) ((nthI a6 a5 ((0 : Int), ((0 : Int), (0 : Int)))).2.2) ((nthI a7 a5 ((0 : Int), ((0 : Int), (0 : Int)))).1) ((nthI a7 a5 ((0 : Int), ((0 : Int), (0 : Int)))).2.1) ((nthI a7 a5 ((0 : Int), ((0 : Int), (0 : Int)))).2.2)) fun r10 =>
    (bif (!r10) then
    (e4_0 false)
    else
    (L.eqRecS_l0 m e4_0 e4_1 (IntKind.wrap .i64 (a5 + 1)) a6 a7)))
    else
    none)
    else
    none)
    else
    e4_1)
noncomputable def L.eqRecS (a1 a2 : List (Int × Int × Int)) : Option Bool :=
(bif ((a1.length : Int) != (a2.length : Int)) then
(some false)
else
(L.eqRecS_l0 fu (fun y12 =>
(some y12)) (some true) 0 a1 a2))
noncomputable def H80_4 : LoopH := ⟨⟨((.one (.sl 0)) :: (.one (.sl 1)) :: (hu 3 (hh :: (hu 21 [])))), [], [(141, (.pair (.int .i64) (.pair (.int .i64) (.int .i64))), .ro), (141, (.pair (.int .i64) (.pair (.int .i64) (.int .i64))), .ro)]⟩, [2, 3, 4, 6, 7, 8, 9, 10, 11, 12, 13, 14, 15, 16, 17, 18, 19, 20, 21, 22, 23, 24, 25, 26], [], [0, 1, 2, 3, 5, 6, 7, 8, 9, 10, 11, 12, 13, 14, 15, 16, 17, 18, 19, 20, 21, 22, 23, 24, 25, 26]⟩
noncomputable def E80_4 (m : Nat) (ps : List Prm) (k : Kont Bool) : Option Bool :=
  match ps with
  | [.v (.int .i64 a5), .row (.pair (.int .i64) (.pair (.int .i64) (.int .i64))) a6, .row (.pair (.int .i64) (.pair (.int .i64) (.int .i64))) a7] => L.eqRecS_l0 m (fun z14 => k .ret (⟨(vu 4 ((vb z14) :: (vu 22 []))), [], []⟩ : St)) (k (.exit 0) (⟨(vu 27 []), [], []⟩ : St)) a5 a6 a7
  | _ => none
noncomputable def S80_4 (a5 : Int) (a6 a7 : List (Int × Int × Int)) : St := (⟨((vl 0) :: (vl 1) :: (vu 3 ((vi a5) :: (vu 21 [])))), [], [⟨141, (.pair (.int .i64) (.pair (.int .i64) (.int .i64))), a6, .ro⟩, ⟨141, (.pair (.int .i64) (.pair (.int .i64) (.int .i64))), a7, .ro⟩]⟩ : St)
theorem ev80_4 (m : Nat) (k : Kont Bool) (a5 : Int) (a6 a7 : List (Int × Int × Int)) : evC Try.prog G80 loopNil c80_4 (S80_4 a5 a6 a7) (turn Try.prog (0, 0) H80_4 (E80_4 m) k) = E80_4 (m + 1) [.v (.int .i64 a5), .row (.pair (.int .i64) (.pair (.int .i64) (.int .i64))) a6, .row (.pair (.int .i64) (.pair (.int .i64) (.int .i64))) a7] k := by kernel_rfl
theorem ok80_4 (m : Nat) : LoopOk Try.prog (0, 0) c80_4 (enter Try.prog (0, 0) H80_4 (E80_4 m)) := by
  refine loop_ok (G := G80) (L := loopNil) (envCons_good good136 envNil_good) (by intro x hx; simp [show loopsOf c80_4 = [] from by kernel_rfl] at hx) (fun ps k => by unfold E80_4; split <;> rfl) (fun m ps k r h => ?_) m
  have h0 := h
  unfold E80_4 at h
  split at h
  · exact ⟨S80_4 _ _ _, by kernel_rfl, (ev80_4 m k _ _ _).trans h0⟩
  · cases h
noncomputable def L80 : LEnv Bool := (loopCons 4 (enter Try.prog (0, 0) H80_4 (E80_4 fu)) loopNil)
theorem lq80 : loopsOf c80 = [c80_4] := by kernel_rfl
theorem fr80_4 : firstReg c80_4 = some 4 := by kernel_rfl
theorem le80_4 : L80 4 = enter Try.prog (0, 0) H80_4 (E80_4 fu) := by kernel_rfl
theorem lm80 : ∀ x ∈ [c80_4], ∀ id, firstReg x = some id → LoopOk Try.prog (0, 0) x (L80 id) := (loops_cons fr80_4 le80_4 (ok80_4 fu) loops_nil)
theorem lp80 : ∀ x ∈ loopsOf c80, ∀ id, firstReg x = some id → LoopOk Try.prog (0, 0) x (L80 id) := loops_eq lq80 lm80
noncomputable def R80 (x : Bool) : Res := ⟨[.one (ab x)], [], []⟩
noncomputable def K80 (r : Res) : Option Bool :=
  match r with
  | ⟨[.one (.val (.bool v1))], [], []⟩ => some (v1)
  | _ => none
noncomputable def E80 : Fun2 := fun args bs rs =>
  match args, bs, rs with
  | [.s1 (.one (.sl 0)), .s1 (.one (.sl 1))], [], [⟨141, (.pair (.int .i64) (.pair (.int .i64) (.int .i64))), a1, .ro⟩, ⟨141, (.pair (.int .i64) (.pair (.int .i64) (.int .i64))), a2, .ro⟩] => some ⟨Bool, L.eqRecS a1 a2, R80⟩
  | _, _, _ => none
theorem ev80 (a1 a2 : List (Int × Int × Int)) : evF Try.prog G80 L80 (0, 0) Try.f80 c80 [vl 0, vl 1] [] [⟨141, (.pair (.int .i64) (.pair (.int .i64) (.int .i64))), a1, .ro⟩, ⟨141, (.pair (.int .i64) (.pair (.int .i64) (.int .i64))), a2, .ro⟩] K80 = L.eqRecS a1 a2 := by kernel_rfl
theorem good80 : Vm.Good Try.prog 80 E80 := by
  refine evF_good (G := G80) (c := c80) (envCons_good good136 envNil_good) Try.func80 (by kernel_rfl) (by kernel_rfl) (0, 0) (fun args bs rs out t h h2 => ?_)
  unfold E80 at h
  split at h
  · injection h with h
    subst h
    exact ⟨rfl, L80, K80, lp80, (fun r t h => by unfold K80 at h; split at h; (injection h with h; subst h; rfl); cases h), (ev80 _ _).trans h2⟩
  · cases h
/-! ### L.eqBox -/
noncomputable def G25 : Env := (envCons 79 [] E79 (envCons 80 [] E80 envNil))
noncomputable def c25 : Code := bodyOf Try.f25
noncomputable def L.eqBox (a1 a2 a3 a4 a5 a6 a7 a8 : Int) (a9 : List (Int × Int × Int × Int × Int × Int × Int × Int × List Int × Bool)) (a10 : List (Int × Int × Int)) (a11 : List (Int × Int × Int × Int × Int × Int × Int × Int × List Int × Bool)) (a12 : List (Int × Int × Int)) : Option Bool :=
(bif (a1 != a5) then
(some false)
else
(bif (a2 != a6) then
(some false)
else
(bif (a3 != a7) then
(some false)
else
(bif (a4 != a8) then
(some false)
else
(Option.bind (L.eqItemS a9 a11) fun r13 =>
(bif (!r13) then
(some false)
else
(Option.bind (L.eqRecS a10 a12) fun r14 =>
(bif (!r14) then
(some false)
else
(some true)))))))))
noncomputable def R25 (x : Bool) : Res := ⟨[.one (ab x)], [], []⟩
noncomputable def K25 (r : Res) : Option Bool :=
  match r with
  | ⟨[.one (.val (.bool v1))], [], []⟩ => some (v1)
  | _ => none
noncomputable def E25 : Fun2 := fun args bs rs =>
  match args, bs, rs with
  | [.s1 (.agg [.val (.int .i64 a1), .val (.int .i64 a2), .val (.int .i64 a3), .val (.int .i64 a4), .sl 0, .sl 1]), .s1 (.agg [.val (.int .i64 a5), .val (.int .i64 a6), .val (.int .i64 a7), .val (.int .i64 a8), .sl 2, .sl 3])], [], [⟨138, (.pair (.int .i64) (.pair (.int .i64) (.pair (.int .i64) (.pair (.int .i64) (.pair (.int .i64) (.pair (.int .i64) (.pair (.int .i64) (.pair (.int .i64) (.pair (.sl 3 (.int .i64)) .bool))))))))), a9, .ro⟩, ⟨141, (.pair (.int .i64) (.pair (.int .i64) (.int .i64))), a10, .ro⟩, ⟨138, (.pair (.int .i64) (.pair (.int .i64) (.pair (.int .i64) (.pair (.int .i64) (.pair (.int .i64) (.pair (.int .i64) (.pair (.int .i64) (.pair (.int .i64) (.pair (.sl 3 (.int .i64)) .bool))))))))), a11, .ro⟩, ⟨141, (.pair (.int .i64) (.pair (.int .i64) (.int .i64))), a12, .ro⟩] => some ⟨Bool, L.eqBox a1 a2 a3 a4 a5 a6 a7 a8 a9 a10 a11 a12, R25⟩
  | _, _, _ => none
theorem ev25 (a1 a2 a3 a4 a5 a6 a7 a8 : Int) (a9 : List (Int × Int × Int × Int × Int × Int × Int × Int × List Int × Bool)) (a10 : List (Int × Int × Int)) (a11 : List (Int × Int × Int × Int × Int × Int × Int × Int × List Int × Bool)) (a12 : List (Int × Int × Int)) : evF Try.prog G25 loopNil (0, 0) Try.f25 c25 [.s1 (.agg [ai a1, ai a2, ai a3, ai a4, .sl 0, .sl 1]), .s1 (.agg [ai a5, ai a6, ai a7, ai a8, .sl 2, .sl 3])] [] [⟨138, (.pair (.int .i64) (.pair (.int .i64) (.pair (.int .i64) (.pair (.int .i64) (.pair (.int .i64) (.pair (.int .i64) (.pair (.int .i64) (.pair (.int .i64) (.pair (.sl 3 (.int .i64)) .bool))))))))), a9, .ro⟩, ⟨141, (.pair (.int .i64) (.pair (.int .i64) (.int .i64))), a10, .ro⟩, ⟨138, (.pair (.int .i64) (.pair (.int .i64) (.pair (.int .i64) (.pair (.int .i64) (.pair (.int .i64) (.pair (.int .i64) (.pair (.int .i64) (.pair (.int .i64) (.pair (.sl 3 (.int .i64)) .bool))))))))), a11, .ro⟩, ⟨141, (.pair (.int .i64) (.pair (.int .i64) (.int .i64))), a12, .ro⟩] K25 = L.eqBox a1 a2 a3 a4 a5 a6 a7 a8 a9 a10 a11 a12 := by kernel_rfl
theorem good25 : Vm.Good Try.prog 25 E25 := by
  refine evF_good (G := G25) (c := c25) (envCons_good good79 (envCons_good good80 envNil_good)) Try.func25 (by kernel_rfl) (by kernel_rfl) (0, 0) (fun args bs rs out t h h2 => ?_)
  unfold E25 at h
  split at h
  · injection h with h
    subst h
    exact ⟨rfl, loopNil, K25, (by intro x hx; simp [show loopsOf c25 = [] from by kernel_rfl] at hx), (fun r t h => by unfold K25 at h; split at h; (injection h with h; subst h; rfl); cases h), (ev25 _ _ _ _ _ _ _ _ _ _ _ _).trans h2⟩
  · cases h
/-! ### L.FnExactBoxOk -/
noncomputable def G6 : Env := (envCons 28 [] E28 (envCons 30 [] E30 (envCons 29 [] E29 (envCons 31 [] E31 (envCons 25 [] E25 envNil)))))
noncomputable def c6 : Code := bodyOf Try.f6
noncomputable def L.FnExactBoxOk (a1 a2 a3 a4 : Int) (a5 : List (Int × Int × Int × Int × Int × Int × Int × Int × List Int × Bool)) (a6 : List (Int × Int × Int)) : Option Bool :=
(Option.bind (L.szBox a1 a2 a3 a4 1048576 a5 a6) fun r7 =>
(bif (decide (r7 < 0)) then
(some true)
else
(Option.bind (L.toBox a1 a2 a3 a4 a5 a6) fun r9 =>
(Option.bind (S.BoxOk r9.1 r9.2.1 r9.2.2.1 r9.2.2.2.1 r9.2.2.2.2.1 r9.2.2.2.2.2) fun r10 =>
(Option.bind (L.toBox a1 a2 a3 a4 a5 a6) fun r11 =>
(Option.bind (I.BoxOk r11.1 r11.2.1 r11.2.2.1 r11.2.2.2.1 r11.2.2.2.2.1 r11.2.2.2.2.2) fun r12 =>
(bif (!(r12 == r10)) then
(some false)
else
(Option.bind (L.toBox a1 a2 a3 a4 a5 a6) fun r14 =>
(Option.bind (L.eqBox r11.1 r11.2.1 r11.2.2.1 r11.2.2.2.1 r14.1 r14.2.1 r14.2.2.1 r14.2.2.2.1 r11.2.2.2.2.1 r11.2.2.2.2.2 r14.2.2.2.2.1 r14.2.2.2.2.2) fun r15 =>
(bif (!r15) then
(some false)
else
(some true)))))))))))
noncomputable def R6 (x : Bool) : Res := ⟨[.one (ab x)], [], []⟩
noncomputable def K6 (r : Res) : Option Bool :=
  match r with
  | ⟨[.one (.val (.bool v1))], [], []⟩ => some (v1)
  | _ => none
noncomputable def E6 : Fun2 := fun args bs rs =>
  match args, bs, rs with
  | [.s1 (.agg [.val (.int .i64 a1), .val (.int .i64 a2), .val (.int .i64 a3), .val (.int .i64 a4), .sl 0, .sl 1])], [], [⟨181, (.pair (.int .i64) (.pair (.int .i64) (.pair (.int .i64) (.pair (.int .i64) (.pair (.int .i64) (.pair (.int .i64) (.pair (.int .i64) (.pair (.int .i64) (.pair (.sl 3 (.int .i64)) .bool))))))))), a5, .ro⟩, ⟨184, (.pair (.int .i64) (.pair (.int .i64) (.int .i64))), a6, .ro⟩] => some ⟨Bool, L.FnExactBoxOk a1 a2 a3 a4 a5 a6, R6⟩
  | _, _, _ => none
theorem ev6 (a1 a2 a3 a4 : Int) (a5 : List (Int × Int × Int × Int × Int × Int × Int × Int × List Int × Bool)) (a6 : List (Int × Int × Int)) : evF Try.prog G6 loopNil (0, 0) Try.f6 c6 [.s1 (.agg [ai a1, ai a2, ai a3, ai a4, .sl 0, .sl 1])] [] [⟨181, (.pair (.int .i64) (.pair (.int .i64) (.pair (.int .i64) (.pair (.int .i64) (.pair (.int .i64) (.pair (.int .i64) (.pair (.int .i64) (.pair (.int .i64) (.pair (.sl 3 (.int .i64)) .bool))))))))), a5, .ro⟩, ⟨184, (.pair (.int .i64) (.pair (.int .i64) (.int .i64))), a6, .ro⟩] K6 = L.FnExactBoxOk a1 a2 a3 a4 a5 a6 := by kernel_rfl
theorem good6 : Vm.Good Try.prog 6 E6 := by
  refine evF_good (G := G6) (c := c6) (envCons_good good28 (envCons_good good30 (envCons_good good29 (envCons_good good31 (envCons_good good25 envNil_good))))) Try.func6 (by kernel_rfl) (by kernel_rfl) (0, 0) (fun args bs rs out t h h2 => ?_)
  unfold E6 at h
  split at h
  · injection h with h
    subst h
    exact ⟨rfl, loopNil, K6, (by intro x hx; simp [show loopsOf c6 = [] from by kernel_rfl] at hx), (fun r t h => by unfold K6 at h; split at h; (injection h with h; subst h; rfl); cases h), (ev6 _ _ _ _ _ _).trans h2⟩
  · cases h
end Go.Proofs.Ytflagchmcnfigaa.Run
