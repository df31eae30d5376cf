import Derived.Test.YtflagchmcnfigaaVmU
import Derived.Test.YtflagchmcnfigaaProg
namespace Go.Proofs.Ytflagchmcnfigaa.Run
open Go Go.RowKit Go.Proofs.YtflagchmcnfigaaW.PrintWords Go.Proofs.Ytflagchmcnfigaa.Vm
set_option linter.unusedVariables false
set_option maxRecDepth 100000

/-! ### L.szOpS -/
noncomputable def G32 : Env := envNil
noncomputable def c32 : Code := bodyOf Try.f32
noncomputable def L.szOpS (a1 : Int) (a2 : List (Int × (Int × Int × Int × Int) × (Int × Int × Int × Int) × Int × Int)) : Option Int :=
(let v4 : Int := (IntKind.wrap .i64 (a1 - (a2.length : Int)))
(bif (decide (v4 < 0)) then
(some (-1))
else
(some v4)))
noncomputable def R32 (x : Int) : Res := ⟨[.one (ai x)], [], []⟩
noncomputable def K32 (r : Res) : Option Int :=
  match r with
  | ⟨[.one (.val (.int .i64 v1))], [], []⟩ => some (v1)
  | _ => none
noncomputable def E32 : Fun2 := fun args bs rs =>
  match args, bs, rs with
  | [.s1 (.one (.sl 0)), .s1 (.one (.val (.int .i64 a1)))], [], [⟨148, (.pair (.int .i64) (.pair (.pair (.int .i64) (.pair (.int .i64) (.pair (.int .i64) (.int .i64)))) (.pair (.pair (.int .i64) (.pair (.int .i64) (.pair (.int .i64) (.int .i64)))) (.pair (.int .i64) (.int .i64))))), a2, .ro⟩] => some ⟨Int, L.szOpS a1 a2, R32⟩
  | _, _, _ => none
theorem ev32 (a1 : Int) (a2 : List (Int × (Int × Int × Int × Int) × (Int × Int × Int × Int) × Int × Int)) : evF Try.prog G32 loopNil (0, 0) Try.f32 c32 [vl 0, vi a1] [] [⟨148, (.pair (.int .i64) (.pair (.pair (.int .i64) (.pair (.int .i64) (.pair (.int .i64) (.int .i64)))) (.pair (.pair (.int .i64) (.pair (.int .i64) (.pair (.int .i64) (.int .i64)))) (.pair (.int .i64) (.int .i64))))), a2, .ro⟩] K32 = L.szOpS a1 a2 := by kernel_rfl
theorem good32 : Vm.Good Try.prog 32 E32 := by
  refine evF_good (G := G32) (c := c32) envNil_good Try.func32 (by kernel_rfl) (by kernel_rfl) (0, 0) (fun args bs rs out t h h2 => ?_)
  unfold E32 at h
  split at h
  · injection h with h
    subst h
    exact ⟨rfl, loopNil, K32, (by intro x hx; simp [show loopsOf c32 = [] from by kernel_rfl] at hx), (fun r t h => by unfold K32 at h; split at h; (injection h with h; subst h; rfl); cases h), (ev32 _ _).trans h2⟩
  · cases h
/-! ### L.toElem -/
noncomputable def G61 : Env := envNil
noncomputable def c61 : Code := bodyOf Try.f61
noncomputable def L.toElem (a1 a2 a3 a4 : Int) : Option (Int × Int × Int × Int) :=
(some (a1, a2, a3, a4))
noncomputable def R61 (x : Int × Int × Int × Int) : Res := ⟨[.agg [ai x.1, ai x.2.1, ai x.2.2.1, ai x.2.2.2]], [], []⟩
noncomputable def K61 (r : Res) : Option (Int × Int × Int × Int) :=
  match r with
  | ⟨[.agg [.val (.int .i64 v1), .val (.int .i64 v2), .val (.int .i64 v3), .val (.int .i64 v4)]], [], []⟩ => some (v1, v2, v3, v4)
  | _ => none
noncomputable def E61 : Fun2 := fun args bs rs =>
  match args, bs, rs with
  | [.s1 (.agg [.val (.int .i64 a1), .val (.int .i64 a2), .val (.int .i64 a3), .val (.int .i64 a4)])], [], [] => some ⟨Int × Int × Int × Int, L.toElem a1 a2 a3 a4, R61⟩
  | _, _, _ => none
theorem ev61 (a1 a2 a3 a4 : Int) : evF Try.prog G61 loopNil (0, 0) Try.f61 c61 [.s1 (.agg [ai a1, ai a2, ai a3, ai a4])] [] [] K61 = L.toElem a1 a2 a3 a4 := by kernel_rfl
theorem good61 : Vm.Good Try.prog 61 E61 := by
  refine evF_good (G := G61) (c := c61) envNil_good Try.func61 (by kernel_rfl) (by kernel_rfl) (0, 0) (fun args bs rs out t h h2 => ?_)
  unfold E61 at h
  split at h
  · injection h with h
    subst h
    exact ⟨rfl, loopNil, K61, (by intro x hx; simp [show loopsOf c61 = [] from by kernel_rfl] at hx), (fun r t h => by unfold K61 at h; split at h; (injection h with h; subst h; rfl); cases h), (ev61 _ _ _ _).trans h2⟩
  · cases h
/-! ### L.toPunct -/
noncomputable def G143 : Env := envNil
noncomputable def c143 : Code := bodyOf Try.f143
noncomputable def L.toPunct (a1 a2 a3 a4 : Int) : Option (Int × Int × Int × Int) :=
(some (a1, a2, a3, a4))
noncomputable def R143 (x : Int × Int × Int × Int) : Res := ⟨[.agg [ai x.1, ai x.2.1, ai x.2.2.1, ai x.2.2.2]], [], []⟩
noncomputable def K143 (r : Res) : Option (Int × Int × Int × Int) :=
  match r with
  | ⟨[.agg [.val (.int .i64 v1), .val (.int .i64 v2), .val (.int .i64 v3), .val (.int .i64 v4)]], [], []⟩ => some (v1, v2, v3, v4)
  | _ => none
noncomputable def E143 : Fun2 := fun args bs rs =>
  match args, bs, rs with
  | [.s1 (.agg [.val (.int .i64 a1), .val (.int .i64 a2), .val (.int .i64 a3), .val (.int .i64 a4)])], [], [] => some ⟨Int × Int × Int × Int, L.toPunct a1 a2 a3 a4, R143⟩
  | _, _, _ => none
theorem ev143 (a1 a2 a3 a4 : Int) : evF Try.prog G143 loopNil (0, 0) Try.f143 c143 [.s1 (.agg [ai a1, ai a2, ai a3, ai a4])] [] [] K143 = L.toPunct a1 a2 a3 a4 := by kernel_rfl
theorem good143 : Vm.Good Try.prog 143 E143 := by
  refine evF_good (G := G143) (c := c143) envNil_good Try.func143 (by kernel_rfl) (by kernel_rfl) (0, 0) (fun args bs rs out t h h2 => ?_)
  unfold E143 at h
  split at h
  · injection h with h
    subst h
    exact ⟨rfl, loopNil, K143, (by intro x hx; simp [show loopsOf c143 = [] from by kernel_rfl] at hx), (fun r t h => by unfold K143 at h; split at h; (injection h with h; subst h; rfl); cases h), (ev143 _ _ _ _).trans h2⟩
  · cases h
/-! ### L.toOp -/
noncomputable def G95 : Env := (envCons 61 [] E61 (envCons 143 [] E143 envNil))
noncomputable def c95 : Code := bodyOf Try.f95
noncomputable def L.toOp (a1 a2 a3 a4 a5 a6 a7 a8 a9 a10 a11 : Int) : Option (Int × Int × Int × Int × Int × Int × Int × Int × Int × Int × Int) :=
(Option.bind (L.toElem a2 a3 a4 a5) fun r12 =>
(Option.bind (L.toPunct a6 a7 a8 a9) fun r13 =>
(some (a1, r12.1, r12.2.1, r12.2.2.1, r12.2.2.2, r13.1, r13.2.1, r13.2.2.1, r13.2.2.2, a10, a11))))
noncomputable def R95 (x : Int × Int × Int × Int × Int × Int × Int × Int × Int × Int × Int) : Res := ⟨[.agg [ai x.1, ai x.2.1, ai x.2.2.1, ai x.2.2.2.1, ai x.2.2.2.2.1, ai x.2.2.2.2.2.1, ai x.2.2.2.2.2.2.1, ai x.2.2.2.2.2.2.2.1, ai x.2.2.2.2.2.2.2.2.1, ai x.2.2.2.2.2.2.2.2.2.1, ai x.2.2.2.2.2.2.2.2.2.2]], [], []⟩
noncomputable def K95 (r : Res) : Option (Int × Int × Int × Int × Int × Int × Int × Int × Int × Int × Int) :=
  match r with
  | ⟨[.agg [.val (.int .i64 v1), .val (.int .i64 v2), .val (.int .i64 v3), .val (.int .i64 v4), .val (.int .i64 v5), .val (.int .i64 v6), .val (.int .i64 v7), .val (.int .i64 v8), .val (.int .i64 v9), .val (.int .i64 v10), .val (.int .i64 v11)]], [], []⟩ => some (v1, v2, v3, v4, v5, v6, v7, v8, v9, v10, v11)
  | _ => none
noncomputable def E95 : Fun2 := fun args bs rs =>
  match args, bs, rs with
  | [.s1 (.agg [.val (.int .i64 a1), .val (.int .i64 a2), .val (.int .i64 a3), .val (.int .i64 a4), .val (.int .i64 a5), .val (.int .i64 a6), .val (.int .i64 a7), .val (.int .i64 a8), .val (.int .i64 a9), .val (.int .i64 a10), .val (.int .i64 a11)])], [], [] => some ⟨Int × Int × Int × Int × Int × Int × Int × Int × Int × Int × Int, L.toOp a1 a2 a3 a4 a5 a6 a7 a8 a9 a10 a11, R95⟩
  | _, _, _ => none
theorem ev95 (a1 a2 a3 a4 a5 a6 a7 a8 a9 a10 a11 : Int) : evF Try.prog G95 loopNil (0, 0) Try.f95 c95 [.s1 (.agg [ai a1, ai a2, ai a3, ai a4, ai a5, ai a6, ai a7, ai a8, ai a9, ai a10, ai a11])] [] [] K95 = L.toOp a1 a2 a3 a4 a5 a6 a7 a8 a9 a10 a11 := by kernel_rfl
theorem good95 : Vm.Good Try.prog 95 E95 := by
  refine evF_good (G := G95) (c := c95) (envCons_good good61 (envCons_good good143 envNil_good)) Try.func95 (by kernel_rfl) (by kernel_rfl) (0, 0) (fun args bs rs out t h h2 => ?_)
  unfold E95 at h
  split at h
  · injection h with h
    subst h
    exact ⟨rfl, loopNil, K95, (by intro x hx; simp [show loopsOf c95 = [] from by kernel_rfl] at hx), (fun r t h => by unfold K95 at h; split at h; (injection h with h; subst h; rfl); cases h), (ev95 _ _ _ _ _ _ _ _ _ _ _).trans h2⟩
  · cases h
/-! ### L.toOpS -/
noncomputable def G34 : Env := (envCons 95 [] E95 envNil)
noncomputable def c34 : Code := bodyOf Try.f34
noncomputable def c34_3 : Code := (loopsOf c34).getD 0 .skip
noncomputable def L.toOpS_l0 : Nat → ((List (Int × (Int × Int × Int × Int) × (Int × Int × Int × Int) × Int × Int)) → Option ((List (Int × (Int × Int × Int × Int) × (Int × Int × Int × Int) × Int × Int)))) → Int → (List (Int × (Int × Int × Int × Int) × (Int × Int × Int × Int) × Int × Int)) → (List (Int × (Int × Int × Int × Int) × (Int × Int × Int × Int) × Int × Int)) → Option ((List (Int × (Int × Int × Int × Int) × (Int × Int × Int × Int) × Int × Int)))
  | 0, _, _, _, _ => none
  | m + 1, e3_0, a4, a5, a6 =>
    (bif (decide (a4 < (a5.length : Int))) then
    (bif decide (0 ≤ a4 ∧ a4 < (a5.length : Int)) then
    (Option.bind (L.toOp ((nthI a5 a4 ((0 : Int), (((0 : Int), ((0 : Int), ((0 : Int), (0 : Int)))), (((0 : Int), ((0 : Int), ((0 : Int), (0 : Int)))), ((0 : Int), (0 : Int)))))).1) ((nthI a5 a4 ((0 : Int), (((0 : Int), ((0 : Int), ((0 : Int), (0 : Int)))), (((0 : Int), ((0 : Int), ((0 : Int), (0 : Int)))), ((0 : Int), (0 : Int)))))).2.1.1) ((nthI a5 a4 ((0 : Int), (((0 : Int), ((0 : Int), ((0 : Int), (0 : Int)))), (((0 : Int), ((0 : Int), ((0 : Int), (0 : Int)))), ((0 : Int), (0 : Int)))))).2.1.2.1) ((nthI a5 a4 ((0 : Int), (((0 : Int), ((0 : Int), ((0 : Int), (0 : Int)))), (((0 : Int), ((0 : Int), ((0 : Int), (0 : Int)))), ((0 : Int), (0 : Int)))))).2.1.2.2.1) ((nthI a5 a4 ((0 : Int), (((0 : Int), ((0 : Int), ((0 : Int), (0 : Int)))), (((0 : Int), ((0 : Int), ((0 : Int), (0 : Int)))), ((0 : Int), (0 : Int)))))).2.1.2.2.2) ((nthI a5 a4 ((0 : Int), (((0 : Int), ((0 : Int), ((0 : Int), (0 : Int)))), (((0 : Int), ((0 : Int), ((0 : Int), (0 : Int)))), ((0 : Int), (0 : Int)))))).2.2.1.1) ((nthI a5 a4 ((0 : Int), (((0 : Int), ((0 : Int), ((0 : Int), (0 : Int)))), (((0 : Int), ((0 : Int), ((0 : Int), (0 : Int)))), ((0 : Int), (0 : Int)))))).2.2.1.2.1) ((nthI a5 a4 ((0 : Int), (((0 : Int), ((0 : Int), ((0 : Int), (0 : Int)))), (((0 : Int), ((0 : Int), ((0 : Int), (0 : Int)))), ((0 : Int), (0 : Int)))))).2.2.1.2.2.1) ((nthI a5 a4 ((0 : Int), (((0 : Int), ((0 : Int), ((0 : Int), (0 : Int)))), (((0 : Int), ((0 : Int), ((0 : Int), (0 : Int)))), ((0 : Int), (0 : Int)))))).2.2.1.2.2.2) ((nthI a5 a4 ((0 : Int), (((0 : Int), ((0 : Int), ((0 : Int), (0 : Int)))), (((0 : Int), ((0 : Int), ((0 : Int), (0 : Int)))), ((0 : Int), (0 : Int)))))).2.2.2.1) ((nthI a5 a4 ((0 : Int), (((0 : Int), ((0 : Int), ((0 : Int), (0 : Int)))), (((0 : Int), ((0 : Int), ((0 : Int), (0 : Int)))), ((0 : Int), (0 : Int)))))).2.2.2.2)) fun r9 =>
    (bif decide (0 ≤ a4 ∧ a4 < (a6.length : Int)) then
    (let v10 : List (Int × (Int × Int × Int × Int) × (Int × Int × Int × Int) × Int × Int) := (a6.set (Int.toNat a4) (r9.1, ((r9.2.1, (r9.2.2.1, (r9.2.2.2.1, r9.2.2.2.2.1))), ((r9.2.2.2.2.2.1, (r9.2.2.2.2.2.2.1, (r9.2.2.2.2.2.2.2.1, r9.2.2.2.2.2.2.2.2.1))), (r9.2.2.2.2.2.2.2.2.2.1, r9.2.2.2.2.2.2.2.2.2.2)))))
    (L.toOpS_l0 m e3_0 (IntKind.wrap .i64 (a4 + 1)) a5 v10))
    else
    none))
    else
    none)
    else
    (e3_0 a6))
noncomputable def L.toOpS (a1 : List (Int × (Int × Int × Int × Int) × (Int × Int × Int × Int) × Int × Int)) : Option ((List (Int × (Int × Int × Int × Int) × (Int × Int × Int × Int) × Int × Int))) :=
(let v2 : Int := (a1.length : Int)
(bif decide (0 ≤ v2 ∧ v2 ≤ v2 ∧ (88 : Int) * v2 ≤ 281474976710656 ∧ v2 ≤ 9223372036854775807) then
(let v3 : List (Int × (Int × Int × Int × Int) × (Int × Int × Int × Int) × Int × Int) := (List.replicate (Int.toNat v2) (0, ((0, (0, (0, 0))), ((0, (0, (0, 0))), (0, 0)))))
(L.toOpS_l0 fu (fun y12 =>
(some y12)) 0 a1 v3))
else
none))
noncomputable def H34_3 : LoopH := ⟨⟨((.one (.sl 0)) :: (hu 2 ((.one (.sl 1)) :: hh :: (hu 18 [])))), [], [(148, (.pair (.int .i64) (.pair (.pair (.int .i64) (.pair (.int .i64) (.pair (.int .i64) (.int .i64)))) (.pair (.pair (.int .i64) (.pair (.int .i64) (.pair (.int .i64) (.int .i64)))) (.pair (.int .i64) (.int .i64))))), .ro), (42, (.pair (.int .i64) (.pair (.pair (.int .i64) (.pair (.int .i64) (.pair (.int .i64) (.int .i64)))) (.pair (.pair (.int .i64) (.pair (.int .i64) (.pair (.int .i64) (.int .i64)))) (.pair (.int .i64) (.int .i64))))), .own)]⟩, [1, 2, 5, 6, 7, 8, 9, 10, 11, 12, 13, 14, 15, 16, 17, 18, 19, 20, 21, 22], [], [0, 1, 4, 5, 6, 7, 8, 9, 10, 11, 12, 13, 14, 15, 16, 17, 18, 19, 20, 21, 22]⟩
noncomputable def E34_3 (m : Nat) (ps : List Prm) (k : Kont ((List (Int × (Int × Int × Int × Int) × (Int × Int × Int × Int) × Int × Int)))) : Option ((List (Int × (Int × Int × Int × Int) × (Int × Int × Int × Int) × Int × Int))) :=
  match ps with
  | [.v (.int .i64 a4), .row (.pair (.int .i64) (.pair (.pair (.int .i64) (.pair (.int .i64) (.pair (.int .i64) (.int .i64)))) (.pair (.pair (.int .i64) (.pair (.int .i64) (.pair (.int .i64) (.int .i64)))) (.pair (.int .i64) (.int .i64))))) a5, .row (.pair (.int .i64) (.pair (.pair (.int .i64) (.pair (.int .i64) (.pair (.int .i64) (.int .i64)))) (.pair (.pair (.int .i64) (.pair (.int .i64) (.pair (.int .i64) (.int .i64)))) (.pair (.int .i64) (.int .i64))))) a6] => L.toOpS_l0 m (fun z14 => k (.exit 0) (⟨(vu 3 ((vl 0) :: (vu 19 []))), [], [⟨42, (.pair (.int .i64) (.pair (.pair (.int .i64) (.pair (.int .i64) (.pair (.int .i64) (.int .i64)))) (.pair (.pair (.int .i64) (.pair (.int .i64) (.pair (.int .i64) (.int .i64)))) (.pair (.int .i64) (.int .i64))))), z14, .own⟩]⟩ : St)) a4 a5 a6
  | _ => none
noncomputable def S34_3 (a4 : Int) (a5 a6 : List (Int × (Int × Int × Int × Int) × (Int × Int × Int × Int) × Int × Int)) : St := (⟨((vl 0) :: (vu 2 ((vl 1) :: (vi a4) :: (vu 18 [])))), [], [⟨148, (.pair (.int .i64) (.pair (.pair (.int .i64) (.pair (.int .i64) (.pair (.int .i64) (.int .i64)))) (.pair (.pair (.int .i64) (.pair (.int .i64) (.pair (.int .i64) (.int .i64)))) (.pair (.int .i64) (.int .i64))))), a5, .ro⟩, ⟨42, (.pair (.int .i64) (.pair (.pair (.int .i64) (.pair (.int .i64) (.pair (.int .i64) (.int .i64)))) (.pair (.pair (.int .i64) (.pair (.int .i64) (.pair (.int .i64) (.int .i64)))) (.pair (.int .i64) (.int .i64))))), a6, .own⟩]⟩ : St)
theorem ev34_3 (m : Nat) (k : Kont ((List (Int × (Int × Int × Int × Int) × (Int × Int × Int × Int) × Int × Int)))) (a4 : Int) (a5 a6 : List (Int × (Int × Int × Int × Int) × (Int × Int × Int × Int) × Int × Int)) : evC Try.prog G34 loopNil c34_3 (S34_3 a4 a5 a6) (turn Try.prog (0, 0) H34_3 (E34_3 m) k) = E34_3 (m + 1) [.v (.int .i64 a4), .row (.pair (.int .i64) (.pair (.pair (.int .i64) (.pair (.int .i64) (.pair (.int .i64) (.int .i64)))) (.pair (.pair (.int .i64) (.pair (.int .i64) (.pair (.int .i64) (.int .i64)))) (.pair (.int .i64) (.int .i64))))) a5, .row (.pair (.int .i64) (.pair (.pair (.int .i64) (.pair (.int .i64) (.pair (.int .i64) (.int .i64)))) (.pair (.pair (.int .i64) (.pair (.int .i64) (.pair (.int .i64) (.int .i64)))) (.pair (.int .i64) (.int .i64))))) a6] k := by kernel_rfl
theorem ok34_3 (m : Nat) : LoopOk Try.prog (0, 0) c34_3 (enter Try.prog (0, 0) H34_3 (E34_3 m)) := by
  refine loop_ok (G := G34) (L := loopNil) (envCons_good good95 envNil_good) (by intro x hx; simp [show loopsOf c34_3 = [] from by kernel_rfl] at hx) (fun ps k => by unfold E34_3; split <;> rfl) (fun m ps k r h => ?_) m
  have h0 := h
  unfold E34_3 at h
  split at h
  · exact ⟨S34_3 _ _ _, by kernel_rfl, (ev34_3 m k _ _ _).trans h0⟩
  · cases h
noncomputable def L34 : LEnv ((List (Int × (Int × Int × Int × Int) × (Int × Int × Int × Int) × Int × Int))) := (loopCons 3 (enter Try.prog (0, 0) H34_3 (E34_3 fu)) loopNil)
theorem lq34 : loopsOf c34 = [c34_3] := by kernel_rfl
theorem fr34_3 : firstReg c34_3 = some 3 := by kernel_rfl
theorem le34_3 : L34 3 = enter Try.prog (0, 0) H34_3 (E34_3 fu) := by kernel_rfl
theorem lm34 : ∀ x ∈ [c34_3], ∀ id, firstReg x = some id → LoopOk Try.prog (0, 0) x (L34 id) := (loops_cons fr34_3 le34_3 (ok34_3 fu) loops_nil)
theorem lp34 : ∀ x ∈ loopsOf c34, ∀ id, firstReg x = some id → LoopOk Try.prog (0, 0) x (L34 id) := loops_eq lq34 lm34
noncomputable def R34 (x : (List (Int × (Int × Int × Int × Int) × (Int × Int × Int × Int) × Int × Int))) : Res := ⟨[.one (.sl 0)], [], [⟨42, (.pair (.int .i64) (.pair (.pair (.int .i64) (.pair (.int .i64) (.pair (.int .i64) (.int .i64)))) (.pair (.pair (.int .i64) (.pair (.int .i64) (.pair (.int .i64) (.int .i64)))) (.pair (.int .i64) (.int .i64))))), x, .own⟩]⟩
noncomputable def K34 (r : Res) : Option ((List (Int × (Int × Int × Int × Int) × (Int × Int × Int × Int) × Int × Int))) :=
  match r with
  | ⟨[.one (.sl 0)], [], [⟨42, (.pair (.int .i64) (.pair (.pair (.int .i64) (.pair (.int .i64) (.pair (.int .i64) (.int .i64)))) (.pair (.pair (.int .i64) (.pair (.int .i64) (.pair (.int .i64) (.int .i64)))) (.pair (.int .i64) (.int .i64))))), v1, .own⟩]⟩ => some (v1)
  | _ => none
noncomputable def E34 : Fun2 := fun args bs rs =>
  match args, bs, rs with
  | [.s1 (.one (.sl 0))], [], [⟨148, (.pair (.int .i64) (.pair (.pair (.int .i64) (.pair (.int .i64) (.pair (.int .i64) (.int .i64)))) (.pair (.pair (.int .i64) (.pair (.int .i64) (.pair (.int .i64) (.int .i64)))) (.pair (.int .i64) (.int .i64))))), a1, .ro⟩] => some ⟨(List (Int × (Int × Int × Int × Int) × (Int × Int × Int × Int) × Int × Int)), L.toOpS a1, R34⟩
  | _, _, _ => none
theorem ev34 (a1 : List (Int × (Int × Int × Int × Int) × (Int × Int × Int × Int) × Int × Int)) : evF Try.prog G34 L34 (0, 0) Try.f34 c34 [vl 0] [] [⟨148, (.pair (.int .i64) (.pair (.pair (.int .i64) (.pair (.int .i64) (.pair (.int .i64) (.int .i64)))) (.pair (.pair (.int .i64) (.pair (.int .i64) (.pair (.int .i64) (.int .i64)))) (.pair (.int .i64) (.int .i64))))), a1, .ro⟩] K34 = L.toOpS a1 := by kernel_rfl
theorem good34 : Vm.Good Try.prog 34 E34 := by
  refine evF_good (G := G34) (c := c34) (envCons_good good95 envNil_good) Try.func34 (by kernel_rfl) (by kernel_rfl) (0, 0) (fun args bs rs out t h h2 => ?_)
  unfold E34 at h
  split at h
  · injection h with h
    subst h
    exact ⟨rfl, L34, K34, lp34, (fun r t h => by unfold K34 at h; split at h; (injection h with h; subst h; rfl); cases h), (ev34 _).trans h2⟩
  · cases h
/-! ### S.l04Src -/
noncomputable def G129 : Env := envNil
noncomputable def c129 : Code := bodyOf Try.f129
noncomputable def S.l04Src (a1 : Int) : Option Bool :=
(bif (decide (0 ≤ a1)) then
(some (decide (a1 < 4)))
else
(some false))
noncomputable def R129 (x : Bool) : Res := ⟨[.one (ab x)], [], []⟩
noncomputable def K129 (r : Res) : Option Bool :=
  match r with
  | ⟨[.one (.val (.bool v1))], [], []⟩ => some (v1)
  | _ => none
noncomputable def E129 : Fun2 := fun args bs rs =>
  match args, bs, rs with
  | [.s1 (.one (.val (.int .i64 a1)))], [], [] => some ⟨Bool, S.l04Src a1, R129⟩
  | _, _, _ => none
theorem ev129 (a1 : Int) : evF Try.prog G129 loopNil (0, 0) Try.f129 c129 [vi a1] [] [] K129 = S.l04Src a1 := by kernel_rfl
theorem good129 : Vm.Good Try.prog 129 E129 := by
  refine evF_good (G := G129) (c := c129) envNil_good Try.func129 (by kernel_rfl) (by kernel_rfl) (0, 0) (fun args bs rs out t h h2 => ?_)
  unfold E129 at h
  split at h
  · injection h with h
    subst h
    exact ⟨rfl, loopNil, K129, (by intro x hx; simp [show loopsOf c129 = [] from by kernel_rfl] at hx), (fun r t h => by unfold K129 at h; split at h; (injection h with h; subst h; rfl); cases h), (ev129 _).trans h2⟩
  · cases h
/-! ### S.l04Key -/
noncomputable def G98 : Env := envNil
noncomputable def c98 : Code := bodyOf Try.f98
noncomputable def S.l04Key (a1 : Int) : Option Bool :=
(bif (decide (0 ≤ a1)) then
(some (decide (a1 ≤ 15)))
else
(some false))
noncomputable def R98 (x : Bool) : Res := ⟨[.one (ab x)], [], []⟩
noncomputable def K98 (r : Res) : Option Bool :=
  match r with
  | ⟨[.one (.val (.bool v1))], [], []⟩ => some (v1)
  | _ => none
noncomputable def E98 : Fun2 := fun args bs rs =>
  match args, bs, rs with
  | [.s1 (.one (.val (.int .i64 a1)))], [], [] => some ⟨Bool, S.l04Key a1, R98⟩
  | _, _, _ => none
theorem ev98 (a1 : Int) : evF Try.prog G98 loopNil (0, 0) Try.f98 c98 [vi a1] [] [] K98 = S.l04Key a1 := by kernel_rfl
theorem good98 : Vm.Good Try.prog 98 E98 := by
  refine evF_good (G := G98) (c := c98) envNil_good Try.func98 (by kernel_rfl) (by kernel_rfl) (0, 0) (fun args bs rs out t h h2 => ?_)
  unfold E98 at h
  split at h
  · injection h with h
    subst h
    exact ⟨rfl, loopNil, K98, (by intro x hx; simp [show loopsOf c98 = [] from by kernel_rfl] at hx), (fun r t h => by unfold K98 at h; split at h; (injection h with h; subst h; rfl); cases h), (ev98 _).trans h2⟩
  · cases h
/-! ### S.l05Time -/
noncomputable def G130 : Env := envNil
noncomputable def c130 : Code := bodyOf Try.f130
noncomputable def S.l05Time (a1 : Int) : Option Bool :=
(bif (decide (0 ≤ a1)) then
(some (decide (a1 ≤ 1000)))
else
(some false))
noncomputable def R130 (x : Bool) : Res := ⟨[.one (ab x)], [], []⟩
noncomputable def K130 (r : Res) : Option Bool :=
  match r with
  | ⟨[.one (.val (.bool v1))], [], []⟩ => some (v1)
  | _ => none
noncomputable def E130 : Fun2 := fun args bs rs =>
  match args, bs, rs with
  | [.s1 (.one (.val (.int .i64 a1)))], [], [] => some ⟨Bool, S.l05Time a1, R130⟩
  | _, _, _ => none
theorem ev130 (a1 : Int) : evF Try.prog G130 loopNil (0, 0) Try.f130 c130 [vi a1] [] [] K130 = S.l05Time a1 := by kernel_rfl
theorem good130 : Vm.Good Try.prog 130 E130 := by
  refine evF_good (G := G130) (c := c130) envNil_good Try.func130 (by kernel_rfl) (by kernel_rfl) (0, 0) (fun args bs rs out t h h2 => ?_)
  unfold E130 at h
  split at h
  · injection h with h
    subst h
    exact ⟨rfl, loopNil, K130, (by intro x hx; simp [show loopsOf c130 = [] from by kernel_rfl] at hx), (fun r t h => by unfold K130 at h; split at h; (injection h with h; subst h; rfl); cases h), (ev130 _).trans h2⟩
  · cases h
/-! ### S.ElemOk -/
noncomputable def G117 : Env := (envCons 129 [] E129 (envCons 98 [] E98 (envCons 130 [] E130 envNil)))
noncomputable def c117 : Code := bodyOf Try.f117
noncomputable def S.ElemOk (a1 a2 a3 a4 : Int) : Option Bool :=
(Option.bind (S.l04Src a1) fun r5 =>
(bif r5 then
(Option.bind (S.l04Key a2) fun r6 =>
(bif r6 then
(Option.bind (S.l05Time a4) fun r7 =>
(some r7))
else
(some false)))
else
(some false)))
noncomputable def R117 (x : Bool) : Res := ⟨[.one (ab x)], [], []⟩
noncomputable def K117 (r : Res) : Option Bool :=
  match r with
  | ⟨[.one (.val (.bool v1))], [], []⟩ => some (v1)
  | _ => none
noncomputable def E117 : Fun2 := fun args bs rs =>
  match args, bs, rs with
  | [.s1 (.agg [.val (.int .i64 a1), .val (.int .i64 a2), .val (.int .i64 a3), .val (.int .i64 a4)])], [], [] => some ⟨Bool, S.ElemOk a1 a2 a3 a4, R117⟩
  | _, _, _ => none
theorem ev117 (a1 a2 a3 a4 : Int) : evF Try.prog G117 loopNil (0, 0) Try.f117 c117 [.s1 (.agg [ai a1, ai a2, ai a3, ai a4])] [] [] K117 = S.ElemOk a1 a2 a3 a4 := by kernel_rfl
theorem good117 : Vm.Good Try.prog 117 E117 := by
  refine evF_good (G := G117) (c := c117) (envCons_good good129 (envCons_good good98 (envCons_good good130 envNil_good))) Try.func117 (by kernel_rfl) (by kernel_rfl) (0, 0) (fun args bs rs out t h h2 => ?_)
  unfold E117 at h
  split at h
  · injection h with h
    subst h
    exact ⟨rfl, loopNil, K117, (by intro x hx; simp [show loopsOf c117 = [] from by kernel_rfl] at hx), (fun r t h => by unfold K117 at h; split at h; (injection h with h; subst h; rfl); cases h), (ev117 _ _ _ _).trans h2⟩
  · cases h
/-! ### S.l04Bits -/
noncomputable def G175 : Env := envNil
noncomputable def c175 : Code := bodyOf Try.f175
noncomputable def S.l04Bits (a1 : Int) : Option Bool :=
(bif (decide (0 ≤ a1)) then
(some (decide (a1 ≤ 4)))
else
(some false))
noncomputable def R175 (x : Bool) : Res := ⟨[.one (ab x)], [], []⟩
noncomputable def K175 (r : Res) : Option Bool :=
  match r with
  | ⟨[.one (.val (.bool v1))], [], []⟩ => some (v1)
  | _ => none
noncomputable def E175 : Fun2 := fun args bs rs =>
  match args, bs, rs with
  | [.s1 (.one (.val (.int .i64 a1)))], [], [] => some ⟨Bool, S.l04Bits a1, R175⟩
  | _, _, _ => none
theorem ev175 (a1 : Int) : evF Try.prog G175 loopNil (0, 0) Try.f175 c175 [vi a1] [] [] K175 = S.l04Bits a1 := by kernel_rfl
theorem good175 : Vm.Good Try.prog 175 E175 := by
  refine evF_good (G := G175) (c := c175) envNil_good Try.func175 (by kernel_rfl) (by kernel_rfl) (0, 0) (fun args bs rs out t h h2 => ?_)
  unfold E175 at h
  split at h
  · injection h with h
    subst h
    exact ⟨rfl, loopNil, K175, (by intro x hx; simp [show loopsOf c175 = [] from by kernel_rfl] at hx), (fun r t h => by unfold K175 at h; split at h; (injection h with h; subst h; rfl); cases h), (ev175 _).trans h2⟩
  · cases h
/-! ### S.l11Punct -/
noncomputable def G128 : Env := (envCons 129 [] E129 (envCons 175 [] E175 (envCons 98 [] E98 envNil)))
noncomputable def c128 : Code := bodyOf Try.f128
noncomputable def S.l11Punct (a1 a2 a3 a4 : Int) : Option Bool :=
(Option.bind (S.l04Src a1) fun r5 =>
(bif r5 then
(Option.bind (S.l04Bits a2) fun r6 =>
(bif r6 then
(Option.bind (S.l04Key a3) fun r7 =>
(bif r7 then
(bif (decide (0 ≤ a4)) then
(some (decide (a4 < 16)))
else
(some false))
else
(some false)))
else
(some false)))
else
(some false)))
noncomputable def R128 (x : Bool) : Res := ⟨[.one (ab x)], [], []⟩
noncomputable def K128 (r : Res) : Option Bool :=
  match r with
  | ⟨[.one (.val (.bool v1))], [], []⟩ => some (v1)
  | _ => none
noncomputable def E128 : Fun2 := fun args bs rs =>
  match args, bs, rs with
  | [.s1 (.agg [.val (.int .i64 a1), .val (.int .i64 a2), .val (.int .i64 a3), .val (.int .i64 a4)])], [], [] => some ⟨Bool, S.l11Punct a1 a2 a3 a4, R128⟩
  | _, _, _ => none
theorem ev128 (a1 a2 a3 a4 : Int) : evF Try.prog G128 loopNil (0, 0) Try.f128 c128 [.s1 (.agg [ai a1, ai a2, ai a3, ai a4])] [] [] K128 = S.l11Punct a1 a2 a3 a4 := by kernel_rfl
theorem good128 : Vm.Good Try.prog 128 E128 := by
  refine evF_good (G := G128) (c := c128) (envCons_good good129 (envCons_good good175 (envCons_good good98 envNil_good))) Try.func128 (by kernel_rfl) (by kernel_rfl) (0, 0) (fun args bs rs out t h h2 => ?_)
  unfold E128 at h
  split at h
  · injection h with h
    subst h
    exact ⟨rfl, loopNil, K128, (by intro x hx; simp [show loopsOf c128 = [] from by kernel_rfl] at hx), (fun r t h => by unfold K128 at h; split at h; (injection h with h; subst h; rfl); cases h), (ev128 _ _ _ _).trans h2⟩
  · cases h
/-! ### S.l10Count -/
noncomputable def G87 : Env := envNil
noncomputable def c87 : Code := bodyOf Try.f87
noncomputable def S.l10Count (a1 : Int) : Option Bool :=
(bif (decide (0 ≤ a1)) then
(some (decide (a1 ≤ 1000000)))
else
(some false))
noncomputable def R87 (x : Bool) : Res := ⟨[.one (ab x)], [], []⟩
noncomputable def K87 (r : Res) : Option Bool :=
  match r with
  | ⟨[.one (.val (.bool v1))], [], []⟩ => some (v1)
  | _ => none
noncomputable def E87 : Fun2 := fun args bs rs =>
  match args, bs, rs with
  | [.s1 (.one (.val (.int .i64 a1)))], [], [] => some ⟨Bool, S.l10Count a1, R87⟩
  | _, _, _ => none
theorem ev87 (a1 : Int) : evF Try.prog G87 loopNil (0, 0) Try.f87 c87 [vi a1] [] [] K87 = S.l10Count a1 := by kernel_rfl
theorem good87 : Vm.Good Try.prog 87 E87 := by
  refine evF_good (G := G87) (c := c87) envNil_good Try.func87 (by kernel_rfl) (by kernel_rfl) (0, 0) (fun args bs rs out t h h2 => ?_)
  unfold E87 at h
  split at h
  · injection h with h
    subst h
    exact ⟨rfl, loopNil, K87, (by intro x hx; simp [show loopsOf c87 = [] from by kernel_rfl] at hx), (fun r t h => by unfold K87 at h; split at h; (injection h with h; subst h; rfl); cases h), (ev87 _).trans h2⟩
  · cases h
/-! ### S.OpOk -/
noncomputable def G73 : Env := (envCons 117 [] E117 (envCons 128 [] E128 (envCons 129 [] E129 (envCons 130 [] E130 (envCons 87 [] E87 envNil)))))
noncomputable def c73 : Code := bodyOf Try.f73
noncomputable def S.OpOk (a1 a2 a3 a4 a5 a6 a7 a8 a9 a10 a11 : Int) : Option Bool :=
(let v12 : Bool := ((a2 == 0) && ((a3 == 0) && ((a4 == 0) && ((a5 == 0) && true))))
(let v13 : Bool := ((a6 == 0) && ((a7 == 0) && ((a8 == 0) && ((a9 == 0) && true))))
(bif (a1 == 1) then
(Option.bind (S.ElemOk a2 a3 a4 a5) fun r14 =>
(bif r14 then
(bif v13 then
(bif (a10 == 0) then
(some (a11 == 0))
else
(some false))
else
(some false))
else
(some false)))
else
(bif (a1 == 2) then
(bif v12 then
(Option.bind (S.l11Punct a6 a7 a8 a9) fun r15 =>
(bif r15 then
(bif (a10 == 0) then
(bif (a11 == 0) then
(bif (a1 == 2) then
(some true)
else
(some (a9 == 0)))
else
(some false))
else
(some false))
else
(some false)))
else
(some false))
else
(bif (a1 == 3) then
(bif v12 then
(Option.bind (S.l11Punct a6 a7 a8 a9) fun r16 =>
(bif r16 then
(bif (a10 == 0) then
(bif (a11 == 0) then
(bif (a1 == 2) then
(some true)
else
(some (a9 == 0)))
else
(some false))
else
(some false))
else
(some false)))
else
(some false))
else
(bif (a1 == 4) then
(bif v12 then
(bif v13 then
(Option.bind (S.l04Src a10) fun r17 =>
(bif r17 then
(Option.bind (S.l05Time a11) fun r18 =>
(some r18))
else
(some false)))
else
(some false))
else
(some false))
else
(bif (a1 == 5) then
(bif v12 then
(bif v13 then
(Option.bind (S.l04Src a10) fun r19 =>
(bif r19 then
(some (a11 == 0))
else
(some false)))
else
(some false))
else
(some false))
else
(bif (a1 == 6) then
(bif v12 then
(bif v13 then
(Option.bind (S.l04Src a10) fun r20 =>
(bif r20 then
(some (a11 == 0))
else
(some false)))
else
(some false))
else
(some false))
else
(bif (a1 == 7) then
(bif v12 then
(bif v13 then
(bif (decide (0 ≤ a10)) then
(bif (decide (a10 < 4)) then
(Option.bind (S.l10Count a11) fun r23 =>
(some r23))
else
(some false))
else
(some false))
else
(some false))
else
(some false))
else
(bif (a1 == 8) then
(bif v12 then
(bif v13 then
(bif (decide (0 ≤ a10)) then
(bif (decide (a10 < 4)) then
(Option.bind (S.l10Count a11) fun r26 =>
(some r26))
else
(some false))
else
(some false))
else
(some false))
else
(some false))
else
(bif (a1 == 9) then
(bif v12 then
(bif v13 then
(bif (decide (0 ≤ a10)) then
(bif (decide (a10 < 4)) then
(Option.bind (S.l10Count a11) fun r29 =>
(some r29))
else
(some false))
else
(some false))
else
(some false))
else
(some false))
else
(some false))))))))))))
noncomputable def R73 (x : Bool) : Res := ⟨[.one (ab x)], [], []⟩
noncomputable def K73 (r : Res) : Option Bool :=
  match r with
  | ⟨[.one (.val (.bool v1))], [], []⟩ => some (v1)
  | _ => none
noncomputable def E73 : Fun2 := fun args bs rs =>
  match args, bs, rs with
  | [.s1 (.agg [.val (.int .i64 a1), .val (.int .i64 a2), .val (.int .i64 a3), .val (.int .i64 a4), .val (.int .i64 a5), .val (.int .i64 a6), .val (.int .i64 a7), .val (.int .i64 a8), .val (.int .i64 a9), .val (.int .i64 a10), .val (.int .i64 a11)])], [], [] => some ⟨Bool, S.OpOk a1 a2 a3 a4 a5 a6 a7 a8 a9 a10 a11, R73⟩
  | _, _, _ => none
theorem ev73 (a1 a2 a3 a4 a5 a6 a7 a8 a9 a10 a11 : Int) : evF Try.prog G73 loopNil (0, 0) Try.f73 c73 [.s1 (.agg [ai a1, ai a2, ai a3, ai a4, ai a5, ai a6, ai a7, ai a8, ai a9, ai a10, ai a11])] [] [] K73 = S.OpOk a1 a2 a3 a4 a5 a6 a7 a8 a9 a10 a11 := by kernel_rfl
theorem good73 : Vm.Good Try.prog 73 E73 := by
  refine evF_good (G := G73) (c := c73) (envCons_good good117 (envCons_good good128 (envCons_good good129 (envCons_good good130 (envCons_good good87 envNil_good))))) Try.func73 (by kernel_rfl) (by kernel_rfl) (0, 0) (fun args bs rs out t h h2 => ?_)
  unfold E73 at h
  split at h
  · injection h with h
    subst h
    exact ⟨rfl, loopNil, K73, (by intro x hx; simp [show loopsOf c73 = [] from by kernel_rfl] at hx), (fun r t h => by unfold K73 at h; split at h; (injection h with h; subst h; rfl); cases h), (ev73 _ _ _ _ _ _ _ _ _ _ _).trans h2⟩
  · cases h
/-! ### S.l13Fields -/
noncomputable def G142 : Env := envNil
noncomputable def c142 : Code := bodyOf Try.f142
noncomputable def S.l13Fields (a1 a2 a3 a4 a5 a6 a7 a8 a9 a10 a11 : Int) : Option (List Int) :=
(some [a1, a2, a3, a4, a5, a6, a7, a8, a9, a10, a11])
noncomputable def R142 (x : List Int) : Res := ⟨[.one (.sl 0)], [], [⟨3, (.int .i64), x, .own⟩]⟩
noncomputable def K142 (r : Res) : Option (List Int) :=
  match r with
  | ⟨[.one (.sl 0)], [], [⟨3, (.int .i64), v1, .own⟩]⟩ => some (v1)
  | _ => none
noncomputable def E142 : Fun2 := fun args bs rs =>
  match args, bs, rs with
  | [.s1 (.agg [.val (.int .i64 a1), .val (.int .i64 a2), .val (.int .i64 a3), .val (.int .i64 a4), .val (.int .i64 a5), .val (.int .i64 a6), .val (.int .i64 a7), .val (.int .i64 a8), .val (.int .i64 a9), .val (.int .i64 a10), .val (.int .i64 a11)])], [], [] => some ⟨List Int, S.l13Fields a1 a2 a3 a4 a5 a6 a7 a8 a9 a10 a11, R142⟩
  | _, _, _ => none
theorem ev142 (a1 a2 a3 a4 a5 a6 a7 a8 a9 a10 a11 : Int) : evF Try.prog G142 loopNil (0, 0) Try.f142 c142 [.s1 (.agg [ai a1, ai a2, ai a3, ai a4, ai a5, ai a6, ai a7, ai a8, ai a9, ai a10, ai a11])] [] [] K142 = S.l13Fields a1 a2 a3 a4 a5 a6 a7 a8 a9 a10 a11 := by kernel_rfl
theorem good142 : Vm.Good Try.prog 142 E142 := by
  refine evF_good (G := G142) (c := c142) envNil_good Try.func142 (by kernel_rfl) (by kernel_rfl) (0, 0) (fun args bs rs out t h h2 => ?_)
  unfold E142 at h
  split at h
  · injection h with h
    subst h
    exact ⟨rfl, loopNil, K142, (by intro x hx; simp [show loopsOf c142 = [] from by kernel_rfl] at hx), (fun r t h => by unfold K142 at h; split at h; (injection h with h; subst h; rfl); cases h), (ev142 _ _ _ _ _ _ _ _ _ _ _).trans h2⟩
  · cases h
/-! ### S.NumBytes -/
noncomputable def G127 : Env := envNil
noncomputable def c127 : Code := bodyOf Try.f127
noncomputable def c127_5 : Code := (loopsOf c127).getD 0 .skip
noncomputable def S.NumBytes_l0 : Nat → (Int → List Int → Option (List Int)) → Int → List Int → Option (List Int)
  | 0, _, _, _ => none
  | m + 1, e5_0, a9, a10 =>
    (bif (decide (128 ≤ a9)) then
    (bif decide (128 = 0) then
    none
    else
    (let v14 : Int := (IntKind.wrap .u8 (IntKind.wrap .u64 (128 + (Int.tmod a9 128))))
    (bif decide ((a10.length + [v14].length) * 1 ≤ 140737488355328) then
    (bif decide (128 = 0) then
    none
    else
    (S.NumBytes_l0 m e5_0 (IntKind.wrap .u64 (Int.tdiv a9 128)) (a10 ++ [v14])))
    else
    none)))
    else
    (e5_0 a9 a10))
noncomputable def S.NumBytes (a1 : Int) : Option (List Int) :=
(bif (decide (a1 < 0)) then
(S.NumBytes_l0 fu (fun y16 y17 =>
(let v18 : Int := (IntKind.wrap .u8 y16)
(bif decide ((y17.length + [v18].length) * 1 ≤ 140737488355328) then
(some (y17 ++ [v18]))
else
none))) (IntKind.wrap .u64 ((IntKind.wrap .u64 (2 * (IntKind.wrap .u64 (IntKind.wrap .i64 ((-1) - a1))))) + 1)) [])
else
(S.NumBytes_l0 fu (fun y19 y20 =>
(let v21 : Int := (IntKind.wrap .u8 y19)
(bif decide ((y20.length + [v21].length) * 1 ≤ 140737488355328) then
(some (y20 ++ [v21]))
else
none))) (IntKind.wrap .u64 (2 * (IntKind.wrap .u64 a1))) []))
noncomputable def H127_5 : LoopH := ⟨⟨(hu 3 (hh :: (.one (.sl 0)) :: (hu 27 []))), [], [(5, (.int .u8), .own)]⟩, [0, 1, 2, 5, 6, 7, 8, 9, 10, 11, 12, 13, 14, 15, 16, 17, 18, 19, 20, 21, 22, 23, 24, 25, 26, 27, 28, 29, 30, 31], [], [0, 1, 5, 6, 7, 8, 9, 10, 11, 12, 13, 14, 15, 16, 17, 18, 19, 20, 21, 22, 23, 24, 25, 26, 27, 28, 29, 30, 31]⟩
noncomputable def E127_5 (m : Nat) (ps : List Prm) (k : Kont (List Int)) : Option (List Int) :=
  match ps with
  | [.v (.int .u64 a9), .row (.int .u8) a10] => S.NumBytes_l0 m (fun z24 z25 => k (.exit 0) (⟨(vu 3 ((vk .u64 z24) :: (vl 0) :: (vu 27 []))), [], [⟨5, (.int .u8), z25, .own⟩]⟩ : St)) a9 a10
  | _ => none
noncomputable def S127_5 (a9 : Int) (a10 : List Int) : St := (⟨(vu 3 ((vk .u64 a9) :: (vl 0) :: (vu 27 []))), [], [⟨5, (.int .u8), a10, .own⟩]⟩ : St)
theorem ev127_5 (m : Nat) (k : Kont (List Int)) (a9 : Int) (a10 : List Int) : evC Try.prog G127 loopNil c127_5 (S127_5 a9 a10) (turn Try.prog (0, 0) H127_5 (E127_5 m) k) = E127_5 (m + 1) [.v (.int .u64 a9), .row (.int .u8) a10] k := by kernel_rfl
theorem ok127_5 (m : Nat) : LoopOk Try.prog (0, 0) c127_5 (enter Try.prog (0, 0) H127_5 (E127_5 m)) := by
  refine loop_ok (G := G127) (L := loopNil) envNil_good (by intro x hx; simp [show loopsOf c127_5 = [] from by kernel_rfl] at hx) (fun ps k => by unfold E127_5; split <;> rfl) (fun m ps k r h => ?_) m
  have h0 := h
  unfold E127_5 at h
  split at h
  · exact ⟨S127_5 _ _, by kernel_rfl, (ev127_5 m k _ _).trans h0⟩
  · cases h
noncomputable def L127 : LEnv (List Int) := (loopCons 5 (enter Try.prog (0, 0) H127_5 (E127_5 fu)) loopNil)
theorem lq127 : loopsOf c127 = [c127_5] := by kernel_rfl
theorem fr127_5 : firstReg c127_5 = some 5 := by kernel_rfl
theorem le127_5 : L127 5 = enter Try.prog (0, 0) H127_5 (E127_5 fu) := by kernel_rfl
theorem lm127 : ∀ x ∈ [c127_5], ∀ id, firstReg x = some id → LoopOk Try.prog (0, 0) x (L127 id) := (loops_cons fr127_5 le127_5 (ok127_5 fu) loops_nil)
theorem lp127 : ∀ x ∈ loopsOf c127, ∀ id, firstReg x = some id → LoopOk Try.prog (0, 0) x (L127 id) := loops_eq lq127 lm127
noncomputable def R127 (x : List Int) : Res := ⟨[.one (.sl 0)], [], [⟨5, (.int .u8), x, .own⟩]⟩
noncomputable def K127 (r : Res) : Option (List Int) :=
  match r with
  | ⟨[.one (.sl 0)], [], [⟨5, (.int .u8), v1, .own⟩]⟩ => some (v1)
  | _ => none
noncomputable def E127 : Fun2 := fun args bs rs =>
  match args, bs, rs with
  | [.s1 (.one (.val (.int .i64 a1)))], [], [] => some ⟨List Int, S.NumBytes a1, R127⟩
  | _, _, _ => none
theorem ev127 (a1 : Int) : evF Try.prog G127 L127 (0, 0) Try.f127 c127 [vi a1] [] [] K127 = S.NumBytes a1 := by kernel_rfl
theorem good127 : Vm.Good Try.prog 127 E127 := by
  refine evF_good (G := G127) (c := c127) envNil_good Try.func127 (by kernel_rfl) (by kernel_rfl) (0, 0) (fun args bs rs out t h h2 => ?_)
  unfold E127 at h
  split at h
  · injection h with h
    subst h
    exact ⟨rfl, L127, K127, lp127, (fun r t h => by unfold K127 at h; split at h; (injection h with h; subst h; rfl); cases h), (ev127 _).trans h2⟩
  · cases h
/-! ### S.OpBytes -/
noncomputable def G94 : Env := (envCons 73 [] E73 (envCons 142 [] E142 (envCons 127 [] E127 envNil)))
noncomputable def c94 : Code := bodyOf Try.f94
noncomputable def c94_6 : Code := (loopsOf c94).getD 0 .skip
noncomputable def S.OpBytes_l0 : Nat → (List Int → Option (List Int)) → Int → List Int → List Int → Option (List Int)
  | 0, _, _, _, _ => none
  | m + 1, e6_0, a14, a15, a16 =>
    (bif (decide (a14 < (a16.length : Int))) then
    (bif decide (0 ≤ a14 ∧ a14 < (a16.length : Int)) then
    (Option.bind (S.NumBytes (nthI a16 a14 (0 : Int))) fun r19 =>
    (bif decide ((a15.length + r19.length) * 1 ≤ 140737488355328) then
    (S.OpBytes_l0 m e6_0 (IntKind.wrap .i64 (a14 + 1)) (a15 ++ r19) a16)
    else
    none))
    else
    none)
    else
    (e6_0 a15))
noncomputable def S.OpBytes (a1 a2 a3 a4 a5 a6 a7 a8 a9 a10 a11 : Int) : Option (List Int) :=
(Option.bind (S.OpOk a1 a2 a3 a4 a5 a6 a7 a8 a9 a10 a11) fun r12 =>
(bif (!r12) then
(some [])
else
(Option.bind (S.l13Fields a1 a2 a3 a4 a5 a6 a7 a8 a9 a10 a11) fun r13 =>
(S.OpBytes_l0 fu (fun y21 =>
(some y21)) 0 [] r13))))
noncomputable def H94_6 : LoopH := ⟨⟨(hu 3 ((.one (.sl 0)) :: (.one (.sl 1)) :: hh :: (hu 20 []))), [], [(5, (.int .u8), .own), (3, (.int .i64), .own)]⟩, [0, 1, 2, 6, 7, 8, 9, 10, 11, 12, 13, 14, 15, 16, 17, 18, 19, 20, 21, 22, 23, 24, 25], [], [0, 1, 4, 5, 6, 7, 8, 9, 10, 11, 12, 13, 14, 15, 16, 17, 18, 19, 20, 21, 22, 23, 24, 25]⟩
noncomputable def E94_6 (m : Nat) (ps : List Prm) (k : Kont (List Int)) : Option (List Int) :=
  match ps with
  | [.v (.int .i64 a14), .row (.int .u8) a15, .row (.int .i64) a16] => S.OpBytes_l0 m (fun z23 => k (.exit 0) (⟨(vu 3 ((vl 0) :: (vu 22 []))), [], [⟨5, (.int .u8), z23, .own⟩]⟩ : St)) a14 a15 a16
  | _ => none
noncomputable def S94_6 (a14 : Int) (a15 a16 : List Int) : St := (⟨(vu 3 ((vl 0) :: (vl 1) :: (vi a14) :: (vu 20 []))), [], [⟨5, (.int .u8), a15, .own⟩, ⟨3, (.int .i64), a16, .own⟩]⟩ : St)
theorem ev94_6 (m : Nat) (k : Kont (List Int)) (a14 : Int) (a15 a16 : List Int) : evC Try.prog G94 loopNil c94_6 (S94_6 a14 a15 a16) (turn Try.prog (0, 0) H94_6 (E94_6 m) k) = E94_6 (m + 1) [.v (.int .i64 a14), .row (.int .u8) a15, .row (.int .i64) a16] k := by kernel_rfl
theorem ok94_6 (m : Nat) : LoopOk Try.prog (0, 0) c94_6 (enter Try.prog (0, 0) H94_6 (E94_6 m)) := by
  refine loop_ok (G := G94) (L := loopNil) (envCons_good good73 (envCons_good good142 (envCons_good good127 envNil_good))) (by intro x hx; simp [show loopsOf c94_6 = [] from by kernel_rfl] at hx) (fun ps k => by unfold E94_6; split <;> rfl) (fun m ps k r h => ?_) m
  have h0 := h
  unfold E94_6 at h
  split at h
  · exact ⟨S94_6 _ _ _, by kernel_rfl, (ev94_6 m k _ _ _).trans h0⟩
  · cases h
noncomputable def L94 : LEnv (List Int) := (loopCons 6 (enter Try.prog (0, 0) H94_6 (E94_6 fu)) loopNil)
theorem lq94 : loopsOf c94 = [c94_6] := by kernel_rfl
theorem fr94_6 : firstReg c94_6 = some 6 := by kernel_rfl
theorem le94_6 : L94 6 = enter Try.prog (0, 0) H94_6 (E94_6 fu) := by kernel_rfl
theorem lm94 : ∀ x ∈ [c94_6], ∀ id, firstReg x = some id → LoopOk Try.prog (0, 0) x (L94 id) := (loops_cons fr94_6 le94_6 (ok94_6 fu) loops_nil)
theorem lp94 : ∀ x ∈ loopsOf c94, ∀ id, firstReg x = some id → LoopOk Try.prog (0, 0) x (L94 id) := loops_eq lq94 lm94
noncomputable def R94 (x : List Int) : Res := ⟨[.one (.sl 0)], [], [⟨5, (.int .u8), x, .own⟩]⟩
noncomputable def K94 (r : Res) : Option (List Int) :=
  match r with
  | ⟨[.one (.sl 0)], [], [⟨5, (.int .u8), v1, .own⟩]⟩ => some (v1)
  | _ => none
noncomputable def E94 : Fun2 := fun args bs rs =>
  match args, bs, rs with
  | [.s1 (.agg [.val (.int .i64 a1), .val (.int .i64 a2), .val (.int .i64 a3), .val (.int .i64 a4), .val (.int .i64 a5), .val (.int .i64 a6), .val (.int .i64 a7), .val (.int .i64 a8), .val (.int .i64 a9), .val (.int .i64 a10), .val (.int .i64 a11)])], [], [] => some ⟨List Int, S.OpBytes a1 a2 a3 a4 a5 a6 a7 a8 a9 a10 a11, R94⟩
  | _, _, _ => none
theorem ev94 (a1 a2 a3 a4 a5 a6 a7 a8 a9 a10 a11 : Int) : evF Try.prog G94 L94 (0, 0) Try.f94 c94 [.s1 (.agg [ai a1, ai a2, ai a3, ai a4, ai a5, ai a6, ai a7, ai a8, ai a9, ai a10, ai a11])] [] [] K94 = S.OpBytes a1 a2 a3 a4 a5 a6 a7 a8 a9 a10 a11 := by kernel_rfl
theorem good94 : Vm.Good Try.prog 94 E94 := by
  refine evF_good (G := G94) (c := c94) (envCons_good good73 (envCons_good good142 (envCons_good good127 envNil_good))) Try.func94 (by kernel_rfl) (by kernel_rfl) (0, 0) (fun args bs rs out t h h2 => ?_)
  unfold E94 at h
  split at h
  · injection h with h
    subst h
    exact ⟨rfl, L94, K94, lp94, (fun r t h => by unfold K94 at h; split at h; (injection h with h; subst h; rfl); cases h), (ev94 _ _ _ _ _ _ _ _ _ _ _).trans h2⟩
  · cases h
/-! ### S.RecordOf -/
noncomputable def G93 : Env := envNil
noncomputable def c93 : Code := bodyOf Try.f93
noncomputable def c93_5 : Code := (loopsOf c93).getD 0 .skip
noncomputable def S.RecordOf_l0 : Nat → (Int → List Int → Option (List Int)) → Int → Int → List Int → Option (List Int)
  | 0, _, _, _, _ => none
  | m + 1, e5_0, a4, a5, a6 =>
    (bif (decide (a5 < (a6.length : Int))) then
    (bif decide (0 ≤ a5 ∧ a5 < (a6.length : Int)) then
    (S.RecordOf_l0 m e5_0 (IntKind.wrap .i64 (a4 + (IntKind.wrap .i64 (nthI a6 a5 (0 : Int))))) (IntKind.wrap .i64 (a5 + 1)) a6)
    else
    none)
    else
    (e5_0 a4 a6))
noncomputable def S.RecordOf (a1 : List Int) : Option (List Int) :=
(bif (decide (255 < (a1.length : Int))) then
(some [])
else
(S.RecordOf_l0 fu (fun y12 y13 =>
(let v15 : Int := (IntKind.wrap .u8 (y13.length : Int))
(bif decide (([v15].length + y13.length) * 1 ≤ 140737488355328) then
(bif decide (256 = 0) then
none
else
(bif decide (256 = 0) then
none
else
(let v18 : Int := (IntKind.wrap .u8 (Int.tmod (IntKind.wrap .i64 (Int.tdiv y12 256)) 256))
(bif decide (256 = 0) then
none
else
(let v20 : Int := (IntKind.wrap .u8 (Int.tmod y12 256))
(bif decide ((([v15] ++ y13).length + [v18, v20].length) * 1 ≤ 140737488355328) then
(some (([v15] ++ y13) ++ [v18, v20]))
else
none))))))
else
none))) 0 0 a1))
noncomputable def H93_5 : LoopH := ⟨⟨((.one (.sl 0)) :: (hu 2 (hh :: hh :: (hu 33 [])))), [], [(5, (.int .u8), .ro)]⟩, [1, 2, 5, 6, 7, 8, 9, 10, 11, 12, 13, 14, 15, 16, 17, 18, 19, 20, 21, 22, 23, 24, 25, 26, 27, 28, 29, 30, 31, 32, 33, 34, 35, 36, 37], [], [1, 4, 5, 6, 7, 8, 9, 10, 11, 12, 13, 14, 15, 16, 17, 18, 19, 20, 21, 22, 23, 24, 25, 26, 27, 28, 29, 30, 31, 32, 33, 34, 35, 36, 37]⟩
noncomputable def E93_5 (m : Nat) (ps : List Prm) (k : Kont (List Int)) : Option (List Int) :=
  match ps with
  | [.v (.int .i64 a4), .v (.int .i64 a5), .row (.int .u8) a6] => S.RecordOf_l0 m (fun z24 z25 => k (.exit 0) (⟨((vl 0) :: (vu 2 ((vi z24) :: (vu 34 [])))), [], [⟨5, (.int .u8), z25, .ro⟩]⟩ : St)) a4 a5 a6
  | _ => none
noncomputable def S93_5 (a4 a5 : Int) (a6 : List Int) : St := (⟨((vl 0) :: (vu 2 ((vi a4) :: (vi a5) :: (vu 33 [])))), [], [⟨5, (.int .u8), a6, .ro⟩]⟩ : St)
theorem ev93_5 (m : Nat) (k : Kont (List Int)) (a4 a5 : Int) (a6 : List Int) : evC Try.prog G93 loopNil c93_5 (S93_5 a4 a5 a6) (turn Try.prog (0, 0) H93_5 (E93_5 m) k) = E93_5 (m + 1) [.v (.int .i64 a4), .v (.int .i64 a5), .row (.int .u8) a6] k := by kernel_rfl
theorem ok93_5 (m : Nat) : LoopOk Try.prog (0, 0) c93_5 (enter Try.prog (0, 0) H93_5 (E93_5 m)) := by
  refine loop_ok (G := G93) (L := loopNil) envNil_good (by intro x hx; simp [show loopsOf c93_5 = [] from by kernel_rfl] at hx) (fun ps k => by unfold E93_5; split <;> rfl) (fun m ps k r h => ?_) m
  have h0 := h
  unfold E93_5 at h
  split at h
  · exact ⟨S93_5 _ _ _, by kernel_rfl, (ev93_5 m k _ _ _).trans h0⟩
  · cases h
noncomputable def L93 : LEnv (List Int) := (loopCons 5 (enter Try.prog (0, 0) H93_5 (E93_5 fu)) loopNil)
theorem lq93 : loopsOf c93 = [c93_5] := by kernel_rfl
theorem fr93_5 : firstReg c93_5 = some 5 := by kernel_rfl
theorem le93_5 : L93 5 = enter Try.prog (0, 0) H93_5 (E93_5 fu) := by kernel_rfl
theorem lm93 : ∀ x ∈ [c93_5], ∀ id, firstReg x = some id → LoopOk Try.prog (0, 0) x (L93 id) := (loops_cons fr93_5 le93_5 (ok93_5 fu) loops_nil)
theorem lp93 : ∀ x ∈ loopsOf c93, ∀ id, firstReg x = some id → LoopOk Try.prog (0, 0) x (L93 id) := loops_eq lq93 lm93
noncomputable def R93 (x : List Int) : Res := ⟨[.one (.sl 0)], [], [⟨5, (.int .u8), x, .own⟩]⟩
noncomputable def K93 (r : Res) : Option (List Int) :=
  match r with
  | ⟨[.one (.sl 0)], [], [⟨5, (.int .u8), v1, .own⟩]⟩ => some (v1)
  | _ => none
noncomputable def E93 : Fun2 := fun args bs rs =>
  match args, bs, rs with
  | [.s1 (.one (.sl 0))], [], [⟨5, (.int .u8), a1, .ro⟩] => some ⟨List Int, S.RecordOf a1, R93⟩
  | _, _, _ => none
theorem ev93 (a1 : List Int) : evF Try.prog G93 L93 (0, 0) Try.f93 c93 [vl 0] [] [⟨5, (.int .u8), a1, .ro⟩] K93 = S.RecordOf a1 := by kernel_rfl
theorem good93 : Vm.Good Try.prog 93 E93 := by
  refine evF_good (G := G93) (c := c93) envNil_good Try.func93 (by kernel_rfl) (by kernel_rfl) (0, 0) (fun args bs rs out t h h2 => ?_)
  unfold E93 at h
  split at h
  · injection h with h
    subst h
    exact ⟨rfl, L93, K93, lp93, (fun r t h => by unfold K93 at h; split at h; (injection h with h; subst h; rfl); cases h), (ev93 _).trans h2⟩
  · cases h
/-! ### S.LogOf -/
noncomputable def G33 : Env := (envCons 73 [] E73 (envCons 94 [] E94 (envCons 93 [] E93 envNil)))
noncomputable def c33 : Code := bodyOf Try.f33
noncomputable def c33_5 : Code := (loopsOf c33).getD 0 .skip
noncomputable def S.LogOf_l0 : Nat → (Bool → List Int → Option (Bool × List Int)) → (List Int → Option (Bool × List Int)) → Int → (List (Int × (Int × Int × Int × Int) × (Int × Int × Int × Int) × Int × Int)) → List Int → Option (Bool × List Int)
  | 0, _, _, _, _, _ => none
  | m + 1, e5_0, e5_1, a4, a5, a6 =>
    (bif (decide (a4 < (a5.length : Int))) then
    (bif decide (0 ≤ a4 ∧ a4 < (a5.length : Int)) then
    (Option.bind (S.OpOk ((nthI a5 a4 ((0 : Int), (((0 : Int), ((0 : Int), ((0 : Int), (0 : Int)))), (((0 : Int), ((0 : Int), ((0 : Int), (0 : Int)))), ((0 : Int), (0 : Int)))))).1) ((nthI a5 a4 ((0 : Int), (((0 : Int), ((0 : Int), ((0 : Int), (0 : Int)))), (((0 : Int), ((0 : Int), ((0 : Int), (0 : Int)))), ((0 : Int), (0 : Int)))))).2.1.1) ((nthI a5 a4 ((0 : Int), (((0 : Int), ((0 : Int), ((0 : Int), (0 : Int)))), (((0 : Int), ((0 : Int), ((0 : Int), (0 : Int)))), ((0 : Int), (0 : Int)))))).2.1.2.1) ((nthI a5 a4 ((0 : Int), (((0 : Int), ((0 : Int), ((0 : Int), (0 : Int)))), (((0 : Int), ((0 : Int), ((0 : Int), (0 : Int)))), ((0 : Int), (0 : Int)))))).2.1.2.2.1) ((nthI a5 a4 ((0 : Int), (((0 : Int), ((0 : Int), ((0 : Int), (0 : Int)))), (((0 : Int), ((0 : Int), ((0 : Int), (0 : Int)))), ((0 : Int), (0 : Int)))))).2.1.2.2.2) ((nthI a5 a4 ((0 : Int), (((0 : Int), ((0 : Int), ((0 : Int), (0 : Int)))), (((0 : Int), ((0 : Int), ((0 : Int), (0 : Int)))), ((0 : Int), (0 : Int)))))).2.2.1.1) ((nthI a5 a4 ((0 : Int), (((0 : Int), ((0 : Int), ((0 : Int), (0 : Int)))), (((0 : Int), ((0 : Int), ((0 : Int), (0 : Int)))), ((0 : Int), (0 : Int)))))).2.2.1.2.1) ((nthI a5 a4 ((0 : Int), (((0 : Int), ((0 : Int), ((0 : Int), (0 : Int)))), (((0 : Int), ((0 : Int), ((0 : Int), (0 : Int)))), ((0 : Int), (0 : Int)))))).2.2.1.2.2.1) ((nthI a5 a4 ((0 : Int), (((0 : Int), ((0 : Int), ((0 : Int), (0 : Int)))), (((0 : Int), ((0 : Int), ((0 : Int), (0 : Int)))), ((0 : Int), (0 : Int)))))).2.2.1.2.2.2) ((nthI a5 a4 ((0 : Int), (((0 : Int), ((0 : Int), ((0 : Int), (0 : Int)))), (((0 : Int), ((0 : Int), ((0 : Int), (0 : Int)))), ((0 : Int), (0 : Int)))))).2.2.2.1) ((nthI a5 a4 ((0 : Int), (((0 : Int), ((0 : Int), ((0 : Int), (0 : Int)))), (((0 : Int), ((0 : Int), ((0 : Int), (0 : Int)))), ((0 : Int), (0 : Int)))))).2.2.2.2)) fun r9 =>
    (bif (!r9) then
    (e5_0 false a6)
    else
    (bif decide (0 ≤ a4 ∧ a4 < (a5.length : Int)) then
    (Option.bind (S.OpBytes ((nthI a5 a4 ((0 : Int), (((0 : Int), ((0 : Int), ((0 : Int), (0 : Int)))), (((0 : Int), ((0 : Int), ((0 : Int), (0 : Int)))), ((0 : Int), (0 : Int)))))).1) ((nthI a5 a4 ((0 : Int), (((0 : Int), ((0 : Int), ((0 : Int), (0 : Int)))), (((0 : Int), ((0 : Int), ((0 : Int), (0 : Int)))), ((0 : Int), (0 : Int)))))).2.1.1) ((nthI a5 a4 ((0 : Int), (((0 : Int), ((0 : Int), ((0 : Int), (0 : Int)))), (((0 : Int), ((0 : Int), ((0 : Int), (0 : Int)))), ((0 : Int), (0 : Int)))))).2.1.2.1) ((nthI a5 a4 ((0 : Int), (((0 : Int), ((0 : Int), ((0 : Int), (0 : Int)))), (((0 : Int), ((0 : Int), ((0 : Int), (0 : Int)))), ((0 : Int), (0 : Int)))))).2.1.2.2.1) ((nthI a5 a4 ((0 : Int), (((0 : Int), ((0 : Int), ((0 : Int), (0 : Int)))), (((0 : Int), ((0 : Int), ((0 : Int), (0 : Int)))), ((0 : Int), (0 : Int)))))).2.1.2.2.2) ((nthI a5 a4 ((0 : Int), (((0 : Int), ((0 : Int), ((0 : Int), (0 : Int)))), (((0 : Int), ((0 : Int), ((0 : Int), (0 : Int)))), ((0 : Int), (0 : Int)))))).2.2.1.1) ((nthI a5 a4 ((0 : Int), (((0 : Int), ((0 : Int), ((0 : Int), (0 : Int)))), (((0 : Int), ((0 : Int), ((0 : Int), (0 : Int)))), ((0 : Int), (0 : Int)))))).2.2.1.2.1) ((nthI a5 a4 ((0 : Int), (((0 : Int), ((0 : Int), ((0 : Int), (0 : Int)))), (((0 : Int), ((0 : Int), ((0 : Int), (0 : Int)))), ((0 : Int), (0 : Int)))))).2.2.1.2.2.1) ((nthI a5 a4 ((0 : Int), (((0 : Int), ((0 : Int), ((0 : Int), (0 : Int)))), (((0 : Int), ((0 : Int), ((0 : Int), (0 : Int)))), ((0 : Int), (0 : Int)))))).2.2.1.2.2.2) ((nthI a5 a4 ((0 : Int), (((0 : Int), ((0 : Int), ((0 : Int), (0 : Int)))), (((0 : Int), ((0 : Int), ((0 : Int), (0 : Int)))), ((0 : Int), (0 : Int)))))).2.2.2.1) ((nthI a5 a4 ((0 : Int), (((0 : Int), ((0 : Int), ((0 : Int), (0 : Int)))), (((0 : Int), ((0 : Int), ((0 : Int), (0 : Int)))), ((0 : Int), (0 : Int)))))).2.2.2.2)) fun r10 =>
    (Option.bind (S.RecordOf r10) fun r11 =>
    (bif decide ((a6.length + r11.length) * 1 ≤ 140737488355328) then
    (S.LogOf_l0 m e5_0 e5_1 (IntKind.wrap .i64 (a4 + 1)) a5 (a6 ++ r11))
    else
    none)))
    else
    none)))
    else
    none)
    else
    (e5_1 a6))
noncomputable def S.LogOf (a1 : List (Int × (Int × Int × Int × Int) × (Int × Int × Int × Int) × Int × Int)) : Option (Bool × List Int) :=
(bif (decide (250 < (a1.length : Int))) then
(some (false, []))
else
(S.LogOf_l0 fu (fun y13 y14 =>
(some (y13, []))) (fun y15 =>
(some (true, y15))) 0 a1 []))
noncomputable def H33_5 : LoopH := ⟨⟨((.one (.sl 0)) :: (hu 3 ((.one (.sl 1)) :: hh :: (hu 25 [])))), [], [(42, (.pair (.int .i64) (.pair (.pair (.int .i64) (.pair (.int .i64) (.pair (.int .i64) (.int .i64)))) (.pair (.pair (.int .i64) (.pair (.int .i64) (.pair (.int .i64) (.int .i64)))) (.pair (.int .i64) (.int .i64))))), .ro), (5, (.int .u8), .own)]⟩, [1, 2, 3, 6, 7, 8, 9, 10, 11, 12, 13, 14, 15, 16, 17, 18, 19, 20, 21, 22, 23, 24, 25, 26, 27, 28, 29, 30], [], [0, 1, 5, 6, 7, 8, 9, 10, 11, 12, 13, 14, 15, 16, 17, 18, 19, 20, 21, 22, 23, 24, 25, 26, 27, 28, 29, 30]⟩
noncomputable def E33_5 (m : Nat) (ps : List Prm) (k : Kont (Bool × List Int)) : Option (Bool × List Int) :=
  match ps with
  | [.v (.int .i64 a4), .row (.pair (.int .i64) (.pair (.pair (.int .i64) (.pair (.int .i64) (.pair (.int .i64) (.int .i64)))) (.pair (.pair (.int .i64) (.pair (.int .i64) (.pair (.int .i64) (.int .i64)))) (.pair (.int .i64) (.int .i64))))) a5, .row (.int .u8) a6] => S.LogOf_l0 m (fun z19 z20 => k .ret (⟨(vu 2 ((.s1 (.one (.val (.slice none 0 0)))) :: (vb z19) :: (vl 0) :: (vu 26 []))), [], [⟨5, (.int .u8), z20, .own⟩]⟩ : St)) (fun z21 => k (.exit 0) (⟨(vu 4 ((vl 0) :: (vu 26 []))), [], [⟨5, (.int .u8), z21, .own⟩]⟩ : St)) a4 a5 a6
  | _ => none
noncomputable def S33_5 (a4 : Int) (a5 : List (Int × (Int × Int × Int × Int) × (Int × Int × Int × Int) × Int × Int)) (a6 : List Int) : St := (⟨((vl 0) :: (vu 3 ((vl 1) :: (vi a4) :: (vu 25 [])))), [], [⟨42, (.pair (.int .i64) (.pair (.pair (.int .i64) (.pair (.int .i64) (.pair (.int .i64) (.int .i64)))) (.pair (.pair (.int .i64) (.pair (.int .i64) (.pair (.int .i64) (.int .i64)))) (.pair (.int .i64) (.int .i64))))), a5, .ro⟩, ⟨5, (.int .u8), a6, .own⟩]⟩ : St)
theorem ev33_5 (m : Nat) (k : Kont (Bool × List Int)) (a4 : Int) (a5 : List (Int × (Int × Int × Int × Int) × (Int × Int × Int × Int) × Int × Int)) (a6 : List Int) : evC Try.prog G33 loopNil c33_5 (S33_5 a4 a5 a6) (turn Try.prog (0, 0) H33_5 (E33_5 m) k) = E33_5 (m + 1) [.v (.int .i64 a4), .row (.pair (.int .i64) (.pair (.pair (.int .i64) (.pair (.int .i64) (.pair (.int .i64) (.int .i64)))) (.pair (.pair (.int .i64) (.pair (.int .i64) (.pair (.int .i64) (.int .i64)))) (.pair (.int .i64) (.int .i64))))) a5, .row (.int .u8) a6] k := by kernel_rfl
theorem ok33_5 (m : Nat) : LoopOk Try.prog (0, 0) c33_5 (enter Try.prog (0, 0) H33_5 (E33_5 m)) := by
  refine loop_ok (G := G33) (L := loopNil) (envCons_good good73 (envCons_good good94 (envCons_good good93 envNil_good))) (by intro x hx; simp [show loopsOf c33_5 = [] from by kernel_rfl] at hx) (fun ps k => by unfold E33_5; split <;> rfl) (fun m ps k r h => ?_) m
  have h0 := h
  unfold E33_5 at h
  split at h
  · exact ⟨S33_5 _ _ _, by kernel_rfl, (ev33_5 m k _ _ _).trans h0⟩
  · cases h
noncomputable def L33 : LEnv (Bool × List Int) := (loopCons 5 (enter Try.prog (0, 0) H33_5 (E33_5 fu)) loopNil)
theorem lq33 : loopsOf c33 = [c33_5] := by kernel_rfl
theorem fr33_5 : firstReg c33_5 = some 5 := by kernel_rfl
theorem le33_5 : L33 5 = enter Try.prog (0, 0) H33_5 (E33_5 fu) := by kernel_rfl
theorem lm33 : ∀ x ∈ [c33_5], ∀ id, firstReg x = some id → LoopOk Try.prog (0, 0) x (L33 id) := (loops_cons fr33_5 le33_5 (ok33_5 fu) loops_nil)
theorem lp33 : ∀ x ∈ loopsOf c33, ∀ id, firstReg x = some id → LoopOk Try.prog (0, 0) x (L33 id) := loops_eq lq33 lm33
noncomputable def R33 (x : Bool × List Int) : Res := ⟨[.one (.sl 0), .one (ab x.1)], [], [⟨5, (.int .u8), x.2, .own⟩]⟩
noncomputable def K33 (r : Res) : Option (Bool × List Int) :=
  match r with
  | ⟨[.one (.sl 0), .one (.val (.bool v1))], [], [⟨5, (.int .u8), v2, .own⟩]⟩ => some (v1, v2)
  | _ => none
noncomputable def E33 : Fun2 := fun args bs rs =>
  match args, bs, rs with
  | [.s1 (.one (.sl 0))], [], [⟨42, (.pair (.int .i64) (.pair (.pair (.int .i64) (.pair (.int .i64) (.pair (.int .i64) (.int .i64)))) (.pair (.pair (.int .i64) (.pair (.int .i64) (.pair (.int .i64) (.int .i64)))) (.pair (.int .i64) (.int .i64))))), a1, .ro⟩] => some ⟨Bool × List Int, S.LogOf a1, R33⟩
  | _, _, _ => none
theorem ev33 (a1 : List (Int × (Int × Int × Int × Int) × (Int × Int × Int × Int) × Int × Int)) : evF Try.prog G33 L33 (0, 0) Try.f33 c33 [vl 0] [] [⟨42, (.pair (.int .i64) (.pair (.pair (.int .i64) (.pair (.int .i64) (.pair (.int .i64) (.int .i64)))) (.pair (.pair (.int .i64) (.pair (.int .i64) (.pair (.int .i64) (.int .i64)))) (.pair (.int .i64) (.int .i64))))), a1, .ro⟩] K33 = S.LogOf a1 := by kernel_rfl
theorem good33 : Vm.Good Try.prog 33 E33 := by
  refine evF_good (G := G33) (c := c33) (envCons_good good73 (envCons_good good94 (envCons_good good93 envNil_good))) Try.func33 (by kernel_rfl) (by kernel_rfl) (0, 0) (fun args bs rs out t h h2 => ?_)
  unfold E33 at h
  split at h
  · injection h with h
    subst h
    exact ⟨rfl, L33, K33, lp33, (fun r t h => by unfold K33 at h; split at h; (injection h with h; subst h; rfl); cases h), (ev33 _).trans h2⟩
  · cases h
/-! ### I.in -/
noncomputable def G134 : Env := envNil
noncomputable def c134 : Code := bodyOf Try.f134
noncomputable def I.in (a1 a2 a3 : Int) : Option Bool :=
(bif (decide (a2 ≤ a1)) then
(some (decide (a1 ≤ a3)))
else
(some false))
noncomputable def R134 (x : Bool) : Res := ⟨[.one (ab x)], [], []⟩
noncomputable def K134 (r : Res) : Option Bool :=
  match r with
  | ⟨[.one (.val (.bool v1))], [], []⟩ => some (v1)
  | _ => none
noncomputable def E134 : Fun2 := fun args bs rs =>
  match args, bs, rs with
  | [.s1 (.one (.val (.int .i64 a1))), .s1 (.one (.val (.int .i64 a2))), .s1 (.one (.val (.int .i64 a3)))], [], [] => some ⟨Bool, I.in a1 a2 a3, R134⟩
  | _, _, _ => none
theorem ev134 (a1 a2 a3 : Int) : evF Try.prog G134 loopNil (0, 0) Try.f134 c134 [vi a1, vi a2, vi a3] [] [] K134 = I.in a1 a2 a3 := by kernel_rfl
theorem good134 : Vm.Good Try.prog 134 E134 := by
  refine evF_good (G := G134) (c := c134) envNil_good Try.func134 (by kernel_rfl) (by kernel_rfl) (0, 0) (fun args bs rs out t h h2 => ?_)
  unfold E134 at h
  split at h
  · injection h with h
    subst h
    exact ⟨rfl, loopNil, K134, (by intro x hx; simp [show loopsOf c134 = [] from by kernel_rfl] at hx), (fun r t h => by unfold K134 at h; split at h; (injection h with h; subst h; rfl); cases h), (ev134 _ _ _).trans h2⟩
  · cases h
/-! ### I.isSource -/
noncomputable def G169 : Env := (envCons 134 [] E134 envNil)
noncomputable def c169 : Code := bodyOf Try.f169
noncomputable def I.isSource (a1 : Int) : Option Bool :=
(Option.bind (I.in a1 0 3) fun r2 =>
(some r2))
noncomputable def R169 (x : Bool) : Res := ⟨[.one (ab x)], [], []⟩
noncomputable def K169 (r : Res) : Option Bool :=
  match r with
  | ⟨[.one (.val (.bool v1))], [], []⟩ => some (v1)
  | _ => none
noncomputable def E169 : Fun2 := fun args bs rs =>
  match args, bs, rs with
  | [.s1 (.one (.val (.int .i64 a1)))], [], [] => some ⟨Bool, I.isSource a1, R169⟩
  | _, _, _ => none
theorem ev169 (a1 : Int) : evF Try.prog G169 loopNil (0, 0) Try.f169 c169 [vi a1] [] [] K169 = I.isSource a1 := by kernel_rfl
theorem good169 : Vm.Good Try.prog 169 E169 := by
  refine evF_good (G := G169) (c := c169) (envCons_good good134 envNil_good) Try.func169 (by kernel_rfl) (by kernel_rfl) (0, 0) (fun args bs rs out t h h2 => ?_)
  unfold E169 at h
  split at h
  · injection h with h
    subst h
    exact ⟨rfl, loopNil, K169, (by intro x hx; simp [show loopsOf c169 = [] from by kernel_rfl] at hx), (fun r t h => by unfold K169 at h; split at h; (injection h with h; subst h; rfl); cases h), (ev169 _).trans h2⟩
  · cases h
/-! ### I.isKey -/
noncomputable def G170 : Env := (envCons 134 [] E134 envNil)
noncomputable def c170 : Code := bodyOf Try.f170
noncomputable def I.isKey (a1 : Int) : Option Bool :=
(Option.bind (I.in a1 0 15) fun r2 =>
(some r2))
noncomputable def R170 (x : Bool) : Res := ⟨[.one (ab x)], [], []⟩
noncomputable def K170 (r : Res) : Option Bool :=
  match r with
  | ⟨[.one (.val (.bool v1))], [], []⟩ => some (v1)
  | _ => none
noncomputable def E170 : Fun2 := fun args bs rs =>
  match args, bs, rs with
  | [.s1 (.one (.val (.int .i64 a1)))], [], [] => some ⟨Bool, I.isKey a1, R170⟩
  | _, _, _ => none
theorem ev170 (a1 : Int) : evF Try.prog G170 loopNil (0, 0) Try.f170 c170 [vi a1] [] [] K170 = I.isKey a1 := by kernel_rfl
theorem good170 : Vm.Good Try.prog 170 E170 := by
  refine evF_good (G := G170) (c := c170) (envCons_good good134 envNil_good) Try.func170 (by kernel_rfl) (by kernel_rfl) (0, 0) (fun args bs rs out t h h2 => ?_)
  unfold E170 at h
  split at h
  · injection h with h
    subst h
    exact ⟨rfl, loopNil, K170, (by intro x hx; simp [show loopsOf c170 = [] from by kernel_rfl] at hx), (fun r t h => by unfold K170 at h; split at h; (injection h with h; subst h; rfl); cases h), (ev170 _).trans h2⟩
  · cases h
/-! ### I.isTime -/
noncomputable def G171 : Env := (envCons 134 [] E134 envNil)
noncomputable def c171 : Code := bodyOf Try.f171
noncomputable def I.isTime (a1 : Int) : Option Bool :=
(Option.bind (I.in a1 0 1000) fun r2 =>
(some r2))
noncomputable def R171 (x : Bool) : Res := ⟨[.one (ab x)], [], []⟩
noncomputable def K171 (r : Res) : Option Bool :=
  match r with
  | ⟨[.one (.val (.bool v1))], [], []⟩ => some (v1)
  | _ => none
noncomputable def E171 : Fun2 := fun args bs rs =>
  match args, bs, rs with
  | [.s1 (.one (.val (.int .i64 a1)))], [], [] => some ⟨Bool, I.isTime a1, R171⟩
  | _, _, _ => none
theorem ev171 (a1 : Int) : evF Try.prog G171 loopNil (0, 0) Try.f171 c171 [vi a1] [] [] K171 = I.isTime a1 := by kernel_rfl
theorem good171 : Vm.Good Try.prog 171 E171 := by
  refine evF_good (G := G171) (c := c171) (envCons_good good134 envNil_good) Try.func171 (by kernel_rfl) (by kernel_rfl) (0, 0) (fun args bs rs out t h h2 => ?_)
  unfold E171 at h
  split at h
  · injection h with h
    subst h
    exact ⟨rfl, loopNil, K171, (by intro x hx; simp [show loopsOf c171 = [] from by kernel_rfl] at hx), (fun r t h => by unfold K171 at h; split at h; (injection h with h; subst h; rfl); cases h), (ev171 _).trans h2⟩
  · cases h
/-! ### I.isElem -/
noncomputable def G119 : Env := (envCons 169 [] E169 (envCons 170 [] E170 (envCons 171 [] E171 envNil)))
noncomputable def c119 : Code := bodyOf Try.f119
noncomputable def I.isElem (a1 a2 a3 a4 : Int) : Option Bool :=
(Option.bind (I.isSource a1) fun r5 =>
(bif r5 then
(Option.bind (I.isKey a2) fun r6 =>
(bif r6 then
(Option.bind (I.isTime a4) fun r7 =>
(some r7))
else
(some false)))
else
(some false)))
noncomputable def R119 (x : Bool) : Res := ⟨[.one (ab x)], [], []⟩
noncomputable def K119 (r : Res) : Option Bool :=
  match r with
  | ⟨[.one (.val (.bool v1))], [], []⟩ => some (v1)
  | _ => none
noncomputable def E119 : Fun2 := fun args bs rs =>
  match args, bs, rs with
  | [.s1 (.agg [.val (.int .i64 a1), .val (.int .i64 a2), .val (.int .i64 a3), .val (.int .i64 a4)])], [], [] => some ⟨Bool, I.isElem a1 a2 a3 a4, R119⟩
  | _, _, _ => none
theorem ev119 (a1 a2 a3 a4 : Int) : evF Try.prog G119 loopNil (0, 0) Try.f119 c119 [.s1 (.agg [ai a1, ai a2, ai a3, ai a4])] [] [] K119 = I.isElem a1 a2 a3 a4 := by kernel_rfl
theorem good119 : Vm.Good Try.prog 119 E119 := by
  refine evF_good (G := G119) (c := c119) (envCons_good good169 (envCons_good good170 (envCons_good good171 envNil_good))) Try.func119 (by kernel_rfl) (by kernel_rfl) (0, 0) (fun args bs rs out t h h2 => ?_)
  unfold E119 at h
  split at h
  · injection h with h
    subst h
    exact ⟨rfl, loopNil, K119, (by intro x hx; simp [show loopsOf c119 = [] from by kernel_rfl] at hx), (fun r t h => by unfold K119 at h; split at h; (injection h with h; subst h; rfl); cases h), (ev119 _ _ _ _).trans h2⟩
  · cases h
/-! ### I.Punct_isPlace -/
noncomputable def G177 : Env := (envCons 169 [] E169 (envCons 134 [] E134 (envCons 170 [] E170 envNil)))
noncomputable def c177 : Code := bodyOf Try.f177
noncomputable def I.Punct_isPlace (a1 a2 a3 a4 : Int) : Option Bool :=
(Option.bind (I.isSource a1) fun r5 =>
(bif r5 then
(Option.bind (I.in a2 0 4) fun r6 =>
(bif r6 then
(Option.bind (I.isKey a3) fun r7 =>
(some r7))
else
(some false)))
else
(some false)))
noncomputable def R177 (x : Bool) : Res := ⟨[.one (ab x)], [], []⟩
noncomputable def K177 (r : Res) : Option Bool :=
  match r with
  | ⟨[.one (.val (.bool v1))], [], []⟩ => some (v1)
  | _ => none
noncomputable def E177 : Fun2 := fun args bs rs =>
  match args, bs, rs with
  | [.s1 (.agg [.val (.int .i64 a1), .val (.int .i64 a2), .val (.int .i64 a3), .val (.int .i64 a4)])], [], [] => some ⟨Bool, I.Punct_isPlace a1 a2 a3 a4, R177⟩
  | _, _, _ => none
theorem ev177 (a1 a2 a3 a4 : Int) : evF Try.prog G177 loopNil (0, 0) Try.f177 c177 [.s1 (.agg [ai a1, ai a2, ai a3, ai a4])] [] [] K177 = I.Punct_isPlace a1 a2 a3 a4 := by kernel_rfl
theorem good177 : Vm.Good Try.prog 177 E177 := by
  refine evF_good (G := G177) (c := c177) (envCons_good good169 (envCons_good good134 (envCons_good good170 envNil_good))) Try.func177 (by kernel_rfl) (by kernel_rfl) (0, 0) (fun args bs rs out t h h2 => ?_)
  unfold E177 at h
  split at h
  · injection h with h
    subst h
    exact ⟨rfl, loopNil, K177, (by intro x hx; simp [show loopsOf c177 = [] from by kernel_rfl] at hx), (fun r t h => by unfold K177 at h; split at h; (injection h with h; subst h; rfl); cases h), (ev177 _ _ _ _).trans h2⟩
  · cases h
/-! ### I.isOp -/
noncomputable def G133 : Env := (envCons 119 [] E119 (envCons 177 [] E177 (envCons 134 [] E134 (envCons 169 [] E169 (envCons 171 [] E171 envNil)))))
noncomputable def c133 : Code := bodyOf Try.f133
noncomputable def I.isOp (a1 a2 a3 a4 a5 a6 a7 a8 a9 a10 a11 : Int) : Option Bool :=
(bif (a1 == 1) then
(let v12 : Bool := ((a1 == a1) && (((a2 == a2) && ((a3 == a3) && ((a4 == a4) && ((a5 == a5) && true)))) && (((a6 == 0) && ((a7 == 0) && ((a8 == 0) && ((a9 == 0) && true)))) && ((a10 == 0) && ((a11 == 0) && true)))))
(bif v12 then
(Option.bind (I.isElem a2 a3 a4 a5) fun r13 =>
(some r13))
else
(some false)))
else
(bif (a1 == 2) then
(let v14 : Bool := ((a1 == a1) && (((a2 == 0) && ((a3 == 0) && ((a4 == 0) && ((a5 == 0) && true)))) && (((a6 == a6) && ((a7 == a7) && ((a8 == a8) && ((a9 == a9) && true)))) && ((a10 == 0) && ((a11 == 0) && true)))))
(bif v14 then
(Option.bind (I.Punct_isPlace a6 a7 a8 a9) fun r15 =>
(bif r15 then
(Option.bind (I.in a9 0 15) fun r16 =>
(bif r16 then
(bif (a1 == 2) then
(some true)
else
(some (a9 == 0)))
else
(some false)))
else
(some false)))
else
(some false)))
else
(bif (a1 == 3) then
(let v17 : Bool := ((a1 == a1) && (((a2 == 0) && ((a3 == 0) && ((a4 == 0) && ((a5 == 0) && true)))) && (((a6 == a6) && ((a7 == a7) && ((a8 == a8) && ((a9 == a9) && true)))) && ((a10 == 0) && ((a11 == 0) && true)))))
(bif v17 then
(Option.bind (I.Punct_isPlace a6 a7 a8 a9) fun r18 =>
(bif r18 then
(Option.bind (I.in a9 0 15) fun r19 =>
(bif r19 then
(bif (a1 == 2) then
(some true)
else
(some (a9 == 0)))
else
(some false)))
else
(some false)))
else
(some false)))
else
(bif (a1 == 4) then
(dup (let v20 : Bool := ((a1 == a1) && (((a2 == 0) && ((a3 == 0) && ((a4 == 0) && ((a5 == 0) && true)))) && (((a6 == 0) && ((a7 == 0) && ((a8 == 0) && ((a9 == 0) && true)))) && ((a10 == a10) && ((a11 == a11) && true)))))
(bif v20 then
(Option.bind (I.isSource a10) fun r21 =>
(bif r21 then
(Option.bind (I.isTime a11) fun r22 =>
(some r22))
else
(some false)))
else
(some false))))
else
(bif (a1 == 5) then
(let v23 : Bool := ((a1 == a1) && (((a2 == 0) && ((a3 == 0) && ((a4 == 0) && ((a5 == 0) && true)))) && (((a6 == 0) && ((a7 == 0) && ((a8 == 0) && ((a9 == 0) && true)))) && ((a10 == a10) && ((a11 == 0) && true)))))
(bif v23 then
(Option.bind (I.isSource a10) fun r24 =>
(some r24))
else
(some false)))
else
(bif (a1 == 6) then
(let v25 : Bool := ((a1 == a1) && (((a2 == 0) && ((a3 == 0) && ((a4 == 0) && ((a5 == 0) && true)))) && (((a6 == 0) && ((a7 == 0) && ((a8 == 0) && ((a9 == 0) && true)))) && ((a10 == a10) && ((a11 == 0) && true)))))
(bif v25 then
(Option.bind (I.isSource a10) fun r26 =>
(some r26))
else
(some false)))
else
(bif (a1 == 7) then
(dup (let v27 : Bool := ((a1 == a1) && (((a2 == 0) && ((a3 == 0) && ((a4 == 0) && ((a5 == 0) && true)))) && (((a6 == 0) && ((a7 == 0) && ((a8 == 0) && ((a9 == 0) && true)))) && ((a10 == a10) && ((a11 == a11) && true)))))
(bif v27 then
(Option.bind (I.in a10 0 3) fun r28 =>
(bif r28 then
(Option.bind (I.in a11 0 1000000) fun r29 =>
(some r29))
else
(some false)))
else
(some false))))
else
(bif (a1 == 8) then
(dup (let v30 : Bool := ((a1 == a1) && (((a2 == 0) && ((a3 == 0) && ((a4 == 0) && ((a5 == 0) && true)))) && (((a6 == 0) && ((a7 == 0) && ((a8 == 0) && ((a9 == 0) && true)))) && ((a10 == a10) && ((a11 == a11) && true)))))
(bif v30 then
(Option.bind (I.in a10 0 3) fun r31 =>
(bif r31 then
(Option.bind (I.in a11 0 1000000) fun r32 =>
(some r32))
else
(some false)))
else
(some false))))
else
(bif (a1 == 9) then
(dup (let v33 : Bool := ((a1 == a1) && (((a2 == 0) && ((a3 == 0) && ((a4 == 0) && ((a5 == 0) && true)))) && (((a6 == 0) && ((a7 == 0) && ((a8 == 0) && ((a9 == 0) && true)))) && ((a10 == a10) && ((a11 == a11) && true)))))
(bif v33 then
(Option.bind (I.in a10 0 3) fun r34 =>
(bif r34 then
(Option.bind (I.in a11 0 1000000) fun r35 =>
(some r35))
else
(some false)))
else
(some false))))
else
(some false))))))))))
noncomputable def R133 (x : Bool) : Res := ⟨[.one (ab x)], [], []⟩
noncomputable def K133 (r : Res) : Option Bool :=
  match r with
  | ⟨[.one (.val (.bool v1))], [], []⟩ => some (v1)
  | _ => none
noncomputable def E133 : Fun2 := fun args bs rs =>
  match args, bs, rs with
  | [.s1 (.agg [.val (.int .i64 a1), .val (.int .i64 a2), .val (.int .i64 a3), .val (.int .i64 a4), .val (.int .i64 a5), .val (.int .i64 a6), .val (.int .i64 a7), .val (.int .i64 a8), .val (.int .i64 a9), .val (.int .i64 a10), .val (.int .i64 a11)])], [], [] => some ⟨Bool, I.isOp a1 a2 a3 a4 a5 a6 a7 a8 a9 a10 a11, R133⟩
  | _, _, _ => none
theorem ev133 (a1 a2 a3 a4 a5 a6 a7 a8 a9 a10 a11 : Int) : evF Try.prog G133 loopNil (0, 0) Try.f133 c133 [.s1 (.agg [ai a1, ai a2, ai a3, ai a4, ai a5, ai a6, ai a7, ai a8, ai a9, ai a10, ai a11])] [] [] K133 = I.isOp a1 a2 a3 a4 a5 a6 a7 a8 a9 a10 a11 := by kernel_rfl
theorem good133 : Vm.Good Try.prog 133 E133 := by
  refine evF_good (G := G133) (c := c133) (envCons_good good119 (envCons_good good177 (envCons_good good134 (envCons_good good169 (envCons_good good171 envNil_good))))) Try.func133 (by kernel_rfl) (by kernel_rfl) (0, 0) (fun args bs rs out t h h2 => ?_)
  unfold E133 at h
  split at h
  · injection h with h
    subst h
    exact ⟨rfl, loopNil, K133, (by intro x hx; simp [show loopsOf c133 = [] from by kernel_rfl] at hx), (fun r t h => by unfold K133 at h; split at h; (injection h with h; subst h; rfl); cases h), (ev133 _ _ _ _ _ _ _ _ _ _ _).trans h2⟩
  · cases h
/-! ### I.Op_fields -/
noncomputable def G179 : Env := envNil
noncomputable def c179 : Code := bodyOf Try.f179
noncomputable def I.Op_fields (a1 a2 a3 a4 a5 a6 a7 a8 a9 a10 a11 : Int) : Option (List Int) :=
(some [a1, a2, a3, a4, a5, a6, a7, a8, a9, a10, a11])
noncomputable def R179 (x : List Int) : Res := ⟨[.one (.sl 0)], [], [⟨3, (.int .i64), x, .own⟩]⟩
noncomputable def K179 (r : Res) : Option (List Int) :=
  match r with
  | ⟨[.one (.sl 0)], [], [⟨3, (.int .i64), v1, .own⟩]⟩ => some (v1)
  | _ => none
noncomputable def E179 : Fun2 := fun args bs rs =>
  match args, bs, rs with
  | [.s1 (.agg [.val (.int .i64 a1), .val (.int .i64 a2), .val (.int .i64 a3), .val (.int .i64 a4), .val (.int .i64 a5), .val (.int .i64 a6), .val (.int .i64 a7), .val (.int .i64 a8), .val (.int .i64 a9), .val (.int .i64 a10), .val (.int .i64 a11)])], [], [] => some ⟨List Int, I.Op_fields a1 a2 a3 a4 a5 a6 a7 a8 a9 a10 a11, R179⟩
  | _, _, _ => none
theorem ev179 (a1 a2 a3 a4 a5 a6 a7 a8 a9 a10 a11 : Int) : evF Try.prog G179 loopNil (0, 0) Try.f179 c179 [.s1 (.agg [ai a1, ai a2, ai a3, ai a4, ai a5, ai a6, ai a7, ai a8, ai a9, ai a10, ai a11])] [] [] K179 = I.Op_fields a1 a2 a3 a4 a5 a6 a7 a8 a9 a10 a11 := by kernel_rfl
theorem good179 : Vm.Good Try.prog 179 E179 := by
  refine evF_good (G := G179) (c := c179) envNil_good Try.func179 (by kernel_rfl) (by kernel_rfl) (0, 0) (fun args bs rs out t h h2 => ?_)
  unfold E179 at h
  split at h
  · injection h with h
    subst h
    exact ⟨rfl, loopNil, K179, (by intro x hx; simp [show loopsOf c179 = [] from by kernel_rfl] at hx), (fun r t h => by unfold K179 at h; split at h; (injection h with h; subst h; rfl); cases h), (ev179 _ _ _ _ _ _ _ _ _ _ _).trans h2⟩
  · cases h
/-! ### I.zigzag -/
noncomputable def G195 : Env := envNil
noncomputable def c195 : Code := bodyOf Try.f195
noncomputable def I.zigzag (a1 : Int) : Option Int :=
(bif decide (0 ≤ 1) then
(let v3 : Int := (IntKind.wrap .u64 ((IntKind.wrap .u64 a1) * 2 ^ min (Int.toNat 1) (IntKind.bits .u64)))
(bif decide (0 ≤ 63) then
(some (Go.bits .xor .u64 v3 (IntKind.wrap .u64 (Int.fdiv a1 (2 ^ min (Int.toNat 63) (IntKind.bits .i64))))))
else
none))
else
none)
noncomputable def R195 (x : Int) : Res := ⟨[.one (ak .u64 x)], [], []⟩
noncomputable def K195 (r : Res) : Option Int :=
  match r with
  | ⟨[.one (.val (.int .u64 v1))], [], []⟩ => some (v1)
  | _ => none
noncomputable def E195 : Fun2 := fun args bs rs =>
  match args, bs, rs with
  | [.s1 (.one (.val (.int .i64 a1)))], [], [] => some ⟨Int, I.zigzag a1, R195⟩
  | _, _, _ => none
theorem ev195 (a1 : Int) : evF Try.prog G195 loopNil (0, 0) Try.f195 c195 [vi a1] [] [] K195 = I.zigzag a1 := by kernel_rfl
theorem good195 : Vm.Good Try.prog 195 E195 := by
  refine evF_good (G := G195) (c := c195) envNil_good Try.func195 (by kernel_rfl) (by kernel_rfl) (0, 0) (fun args bs rs out t h h2 => ?_)
  unfold E195 at h
  split at h
  · injection h with h
    subst h
    exact ⟨rfl, loopNil, K195, (by intro x hx; simp [show loopsOf c195 = [] from by kernel_rfl] at hx), (fun r t h => by unfold K195 at h; split at h; (injection h with h; subst h; rfl); cases h), (ev195 _).trans h2⟩
  · cases h
/-! ### I.NumBytes -/
noncomputable def G176 : Env := (envCons 195 [] E195 envNil)
noncomputable def c176 : Code := bodyOf Try.f176
noncomputable def c176_3 : Code := (loopsOf c176).getD 0 .skip
noncomputable def I.NumBytes_l0 : Nat → (Int → List Int → Option (List Int)) → Int → List Int → Option (List Int)
  | 0, _, _, _ => none
  | m + 1, e3_0, a3, a4 =>
    (bif (decide (128 ≤ a3)) then
    (let v7 : Int := (Go.bits .or .u8 (IntKind.wrap .u8 a3) 128)
    (bif decide ((a4.length + [v7].length) * 1 ≤ 140737488355328) then
    (bif decide (0 ≤ 7) then
    (I.NumBytes_l0 m e3_0 (Int.fdiv a3 (2 ^ min (Int.toNat 7) (IntKind.bits .u64))) (a4 ++ [v7]))
    else
    none)
    else
    none))
    else
    (e3_0 a3 a4))
noncomputable def I.NumBytes (a1 : Int) : Option (List Int) :=
(Option.bind (I.zigzag a1) fun r2 =>
(I.NumBytes_l0 fu (fun y9 y10 =>
(let v11 : Int := (IntKind.wrap .u8 y9)
(bif decide ((y10.length + [v11].length) * 1 ≤ 140737488355328) then
(some (y10 ++ [v11]))
else
none))) r2 []))
noncomputable def H176_3 : LoopH := ⟨⟨(hu 3 ((.one (.sl 0)) :: hh :: (hu 18 []))), [], [(5, (.int .u8), .own)]⟩, [0, 1, 2, 5, 6, 7, 8, 9, 10, 11, 12, 13, 14, 15, 16, 17, 18, 19, 20, 21, 22], [], [0, 1, 5, 6, 7, 8, 9, 10, 11, 12, 13, 14, 15, 16, 17, 18, 19, 20, 21, 22]⟩
noncomputable def E176_3 (m : Nat) (ps : List Prm) (k : Kont (List Int)) : Option (List Int) :=
  match ps with
  | [.v (.int .u64 a3), .row (.int .u8) a4] => I.NumBytes_l0 m (fun z14 z15 => k (.exit 0) (⟨(vu 3 ((vl 0) :: (vk .u64 z14) :: (vu 18 []))), [], [⟨5, (.int .u8), z15, .own⟩]⟩ : St)) a3 a4
  | _ => none
noncomputable def S176_3 (a3 : Int) (a4 : List Int) : St := (⟨(vu 3 ((vl 0) :: (vk .u64 a3) :: (vu 18 []))), [], [⟨5, (.int .u8), a4, .own⟩]⟩ : St)
theorem ev176_3 (m : Nat) (k : Kont (List Int)) (a3 : Int) (a4 : List Int) : evC Try.prog G176 loopNil c176_3 (S176_3 a3 a4) (turn Try.prog (0, 0) H176_3 (E176_3 m) k) = E176_3 (m + 1) [.v (.int .u64 a3), .row (.int .u8) a4] k := by kernel_rfl
theorem ok176_3 (m : Nat) : LoopOk Try.prog (0, 0) c176_3 (enter Try.prog (0, 0) H176_3 (E176_3 m)) := by
  refine loop_ok (G := G176) (L := loopNil) (envCons_good good195 envNil_good) (by intro x hx; simp [show loopsOf c176_3 = [] from by kernel_rfl] at hx) (fun ps k => by unfold E176_3; split <;> rfl) (fun m ps k r h => ?_) m
  have h0 := h
  unfold E176_3 at h
  split at h
  · exact ⟨S176_3 _ _, by kernel_rfl, (ev176_3 m k _ _).trans h0⟩
  · cases h
noncomputable def L176 : LEnv (List Int) := (loopCons 3 (enter Try.prog (0, 0) H176_3 (E176_3 fu)) loopNil)
theorem lq176 : loopsOf c176 = [c176_3] := by kernel_rfl
theorem fr176_3 : firstReg c176_3 = some 3 := by kernel_rfl
theorem le176_3 : L176 3 = enter Try.prog (0, 0) H176_3 (E176_3 fu) := by kernel_rfl
theorem lm176 : ∀ x ∈ [c176_3], ∀ id, firstReg x = some id → LoopOk Try.prog (0, 0) x (L176 id) := (loops_cons fr176_3 le176_3 (ok176_3 fu) loops_nil)
theorem lp176 : ∀ x ∈ loopsOf c176, ∀ id, firstReg x = some id → LoopOk Try.prog (0, 0) x (L176 id) := loops_eq lq176 lm176
noncomputable def R176 (x : List Int) : Res := ⟨[.one (.sl 0)], [], [⟨5, (.int .u8), x, .own⟩]⟩
noncomputable def K176 (r : Res) : Option (List Int) :=
  match r with
  | ⟨[.one (.sl 0)], [], [⟨5, (.int .u8), v1, .own⟩]⟩ => some (v1)
  | _ => none
noncomputable def E176 : Fun2 := fun args bs rs =>
  match args, bs, rs with
  | [.s1 (.one (.val (.int .i64 a1)))], [], [] => some ⟨List Int, I.NumBytes a1, R176⟩
  | _, _, _ => none
theorem ev176 (a1 : Int) : evF Try.prog G176 L176 (0, 0) Try.f176 c176 [vi a1] [] [] K176 = I.NumBytes a1 := by kernel_rfl
theorem good176 : Vm.Good Try.prog 176 E176 := by
  refine evF_good (G := G176) (c := c176) (envCons_good good195 envNil_good) Try.func176 (by kernel_rfl) (by kernel_rfl) (0, 0) (fun args bs rs out t h h2 => ?_)
  unfold E176 at h
  split at h
  · injection h with h
    subst h
    exact ⟨rfl, L176, K176, lp176, (fun r t h => by unfold K176 at h; split at h; (injection h with h; subst h; rfl); cases h), (ev176 _).trans h2⟩
  · cases h
/-! ### I.opBytes -/
noncomputable def G145 : Env := (envCons 179 [] E179 (envCons 176 [] E176 envNil))
noncomputable def c145 : Code := bodyOf Try.f145
noncomputable def c145_3 : Code := (loopsOf c145).getD 0 .skip
noncomputable def I.opBytes_l0 : Nat → (List Int → Option (List Int)) → Int → Int → List Int → List Int → Option (List Int)
  | 0, _, _, _, _, _ => none
  | m + 1, e3_0, a14, a15, a16, a17 =>
    (bif (decide (a15 < a14)) then
    (bif decide (0 ≤ a15 ∧ a15 < (a17.length : Int)) then
    (Option.bind (I.NumBytes (nthI a17 a15 (0 : Int))) fun r20 =>
    (bif decide ((a16.length + r20.length) * 1 ≤ 140737488355328) then
    (I.opBytes_l0 m e3_0 a14 (IntKind.wrap .i64 (a15 + 1)) (a16 ++ r20) a17)
    else
    none))
    else
    none)
    else
    (e3_0 a16))
noncomputable def I.opBytes (a1 a2 a3 a4 a5 a6 a7 a8 a9 a10 a11 : Int) : Option (List Int) :=
(Option.bind (I.Op_fields a1 a2 a3 a4 a5 a6 a7 a8 a9 a10 a11) fun r12 =>
(I.opBytes_l0 fu (fun y22 =>
(some y22)) (r12.length : Int) 0 [] r12))
noncomputable def H145_3 : LoopH := ⟨⟨(hu 3 ((.one (.sl 0)) :: (hu 4 ((.one (.sl 1)) :: hh :: hh :: (hu 9 []))))), [], [(5, (.int .u8), .own), (3, (.int .i64), .own)]⟩, [0, 1, 2, 4, 5, 6, 7, 11, 12, 13, 14, 15, 16, 17, 18, 19], [], [0, 1, 4, 5, 6, 7, 8, 9, 10, 11, 12, 13, 14, 15, 16, 17, 18, 19]⟩
noncomputable def E145_3 (m : Nat) (ps : List Prm) (k : Kont (List Int)) : Option (List Int) :=
  match ps with
  | [.v (.int .i64 a14), .v (.int .i64 a15), .row (.int .u8) a16, .row (.int .i64) a17] => I.opBytes_l0 m (fun z24 => k (.exit 0) (⟨(vu 3 ((vl 0) :: (vu 16 []))), [], [⟨5, (.int .u8), z24, .own⟩]⟩ : St)) a14 a15 a16 a17
  | _ => none
noncomputable def S145_3 (a14 a15 : Int) (a16 a17 : List Int) : St := (⟨(vu 3 ((vl 0) :: (vu 4 ((vl 1) :: (vi a14) :: (vi a15) :: (vu 9 []))))), [], [⟨5, (.int .u8), a16, .own⟩, ⟨3, (.int .i64), a17, .own⟩]⟩ : St)
theorem ev145_3 (m : Nat) (k : Kont (List Int)) (a14 a15 : Int) (a16 a17 : List Int) : evC Try.prog G145 loopNil c145_3 (S145_3 a14 a15 a16 a17) (turn Try.prog (0, 0) H145_3 (E145_3 m) k) = E145_3 (m + 1) [.v (.int .i64 a14), .v (.int .i64 a15), .row (.int .u8) a16, .row (.int .i64) a17] k := by kernel_rfl
theorem ok145_3 (m : Nat) : LoopOk Try.prog (0, 0) c145_3 (enter Try.prog (0, 0) H145_3 (E145_3 m)) := by
  refine loop_ok (G := G145) (L := loopNil) (envCons_good good179 (envCons_good good176 envNil_good)) (by intro x hx; simp [show loopsOf c145_3 = [] from by kernel_rfl] at hx) (fun ps k => by unfold E145_3; split <;> rfl) (fun m ps k r h => ?_) m
  have h0 := h
  unfold E145_3 at h
  split at h
  · exact ⟨S145_3 _ _ _ _, by kernel_rfl, (ev145_3 m k _ _ _ _).trans h0⟩
  · cases h
noncomputable def L145 : LEnv (List Int) := (loopCons 3 (enter Try.prog (0, 0) H145_3 (E145_3 fu)) loopNil)
theorem lq145 : loopsOf c145 = [c145_3] := by kernel_rfl
theorem fr145_3 : firstReg c145_3 = some 3 := by kernel_rfl
theorem le145_3 : L145 3 = enter Try.prog (0, 0) H145_3 (E145_3 fu) := by kernel_rfl
theorem lm145 : ∀ x ∈ [c145_3], ∀ id, firstReg x = some id → LoopOk Try.prog (0, 0) x (L145 id) := (loops_cons fr145_3 le145_3 (ok145_3 fu) loops_nil)
theorem lp145 : ∀ x ∈ loopsOf c145, ∀ id, firstReg x = some id → LoopOk Try.prog (0, 0) x (L145 id) := loops_eq lq145 lm145
noncomputable def R145 (x : List Int) : Res := ⟨[.one (.sl 0)], [], [⟨5, (.int .u8), x, .own⟩]⟩
noncomputable def K145 (r : Res) : Option (List Int) :=
  match r with
  | ⟨[.one (.sl 0)], [], [⟨5, (.int .u8), v1, .own⟩]⟩ => some (v1)
  | _ => none
noncomputable def E145 : Fun2 := fun args bs rs =>
  match args, bs, rs with
  | [.s1 (.agg [.val (.int .i64 a1), .val (.int .i64 a2), .val (.int .i64 a3), .val (.int .i64 a4), .val (.int .i64 a5), .val (.int .i64 a6), .val (.int .i64 a7), .val (.int .i64 a8), .val (.int .i64 a9), .val (.int .i64 a10), .val (.int .i64 a11)])], [], [] => some ⟨List Int, I.opBytes a1 a2 a3 a4 a5 a6 a7 a8 a9 a10 a11, R145⟩
  | _, _, _ => none
theorem ev145 (a1 a2 a3 a4 a5 a6 a7 a8 a9 a10 a11 : Int) : evF Try.prog G145 L145 (0, 0) Try.f145 c145 [.s1 (.agg [ai a1, ai a2, ai a3, ai a4, ai a5, ai a6, ai a7, ai a8, ai a9, ai a10, ai a11])] [] [] K145 = I.opBytes a1 a2 a3 a4 a5 a6 a7 a8 a9 a10 a11 := by kernel_rfl
theorem good145 : Vm.Good Try.prog 145 E145 := by
  refine evF_good (G := G145) (c := c145) (envCons_good good179 (envCons_good good176 envNil_good)) Try.func145 (by kernel_rfl) (by kernel_rfl) (0, 0) (fun args bs rs out t h h2 => ?_)
  unfold E145 at h
  split at h
  · injection h with h
    subst h
    exact ⟨rfl, L145, K145, lp145, (fun r t h => by unfold K145 at h; split at h; (injection h with h; subst h; rfl); cases h), (ev145 _ _ _ _ _ _ _ _ _ _ _).trans h2⟩
  · cases h
/-! ### I.RecordOf -/
noncomputable def G144 : Env := envNil
noncomputable def c144 : Code := bodyOf Try.f144
noncomputable def c144_5 : Code := (loopsOf c144).getD 0 .skip
noncomputable def I.RecordOf_l0 : Nat → (Int → List Int → Option (List Int)) → Int → Int → Int → List Int → Option (List Int)
  | 0, _, _, _, _, _ => none
  | m + 1, e5_0, a5, a6, a7, a8 =>
    (bif (decide (a7 < a6)) then
    (bif decide (0 ≤ a7 ∧ a7 < (a8.length : Int)) then
    (I.RecordOf_l0 m e5_0 (IntKind.wrap .i64 (a5 + (IntKind.wrap .i64 (nthI a8 a7 (0 : Int))))) a6 (IntKind.wrap .i64 (a7 + 1)) a8)
    else
    none)
    else
    (e5_0 a5 a8))
noncomputable def I.RecordOf (a1 : List Int) : Option (List Int) :=
(bif (decide (255 < (a1.length : Int))) then
(some [])
else
(I.RecordOf_l0 fu (fun y14 y15 =>
(let v17 : Int := (IntKind.wrap .u8 (y15.length : Int))
(bif decide (([v17].length + y15.length) * 1 ≤ 140737488355328) then
(bif decide (0 ≤ 8) then
(let v19 : Int := (IntKind.wrap .u8 (Int.fdiv y14 (2 ^ min (Int.toNat 8) (IntKind.bits .i64))))
(let v20 : Int := (IntKind.wrap .u8 y14)
(bif decide ((([v17] ++ y15).length + [v19, v20].length) * 1 ≤ 140737488355328) then
(some (([v17] ++ y15) ++ [v19, v20]))
else
none)))
else
none)
else
none))) 0 (a1.length : Int) 0 a1))
noncomputable def H144_5 : LoopH := ⟨⟨((.one (.sl 0)) :: (hu 2 (hh :: (hu 6 ((.one (.sl 0)) :: hh :: hh :: (hu 22 [])))))), [], [(5, (.int .u8), .ro)]⟩, [1, 2, 4, 5, 6, 7, 8, 9, 13, 14, 15, 16, 17, 18, 19, 20, 21, 22, 23, 24, 25, 26, 27, 28, 29, 30, 31, 32, 33, 34], [], [1, 4, 5, 6, 7, 8, 9, 10, 11, 12, 13, 14, 15, 16, 17, 18, 19, 20, 21, 22, 23, 24, 25, 26, 27, 28, 29, 30, 31, 32, 33, 34]⟩
noncomputable def E144_5 (m : Nat) (ps : List Prm) (k : Kont (List Int)) : Option (List Int) :=
  match ps with
  | [.v (.int .i64 a5), .v (.int .i64 a6), .v (.int .i64 a7), .row (.int .u8) a8] => I.RecordOf_l0 m (fun z24 z25 => k (.exit 0) (⟨((vl 0) :: (vu 2 ((vi z24) :: (vu 31 [])))), [], [⟨5, (.int .u8), z25, .ro⟩]⟩ : St)) a5 a6 a7 a8
  | _ => none
noncomputable def S144_5 (a5 a6 a7 : Int) (a8 : List Int) : St := (⟨((vl 0) :: (vu 2 ((vi a5) :: (vu 6 ((vl 0) :: (vi a6) :: (vi a7) :: (vu 22 [])))))), [], [⟨5, (.int .u8), a8, .ro⟩]⟩ : St)
theorem ev144_5 (m : Nat) (k : Kont (List Int)) (a5 a6 a7 : Int) (a8 : List Int) : evC Try.prog G144 loopNil c144_5 (S144_5 a5 a6 a7 a8) (turn Try.prog (0, 0) H144_5 (E144_5 m) k) = E144_5 (m + 1) [.v (.int .i64 a5), .v (.int .i64 a6), .v (.int .i64 a7), .row (.int .u8) a8] k := by kernel_rfl
theorem ok144_5 (m : Nat) : LoopOk Try.prog (0, 0) c144_5 (enter Try.prog (0, 0) H144_5 (E144_5 m)) := by
  refine loop_ok (G := G144) (L := loopNil) envNil_good (by intro x hx; simp [show loopsOf c144_5 = [] from by kernel_rfl] at hx) (fun ps k => by unfold E144_5; split <;> rfl) (fun m ps k r h => ?_) m
  have h0 := h
  unfold E144_5 at h
  split at h
  · exact ⟨S144_5 _ _ _ _, by kernel_rfl, (ev144_5 m k _ _ _ _).trans h0⟩
  · cases h
noncomputable def L144 : LEnv (List Int) := (loopCons 5 (enter Try.prog (0, 0) H144_5 (E144_5 fu)) loopNil)
theorem lq144 : loopsOf c144 = [c144_5] := by kernel_rfl
theorem fr144_5 : firstReg c144_5 = some 5 := by kernel_rfl
theorem le144_5 : L144 5 = enter Try.prog (0, 0) H144_5 (E144_5 fu) := by kernel_rfl
theorem lm144 : ∀ x ∈ [c144_5], ∀ id, firstReg x = some id → LoopOk Try.prog (0, 0) x (L144 id) := (loops_cons fr144_5 le144_5 (ok144_5 fu) loops_nil)
theorem lp144 : ∀ x ∈ loopsOf c144, ∀ id, firstReg x = some id → LoopOk Try.prog (0, 0) x (L144 id) := loops_eq lq144 lm144
noncomputable def R144 (x : List Int) : Res := ⟨[.one (.sl 0)], [], [⟨5, (.int .u8), x, .own⟩]⟩
noncomputable def K144 (r : Res) : Option (List Int) :=
  match r with
  | ⟨[.one (.sl 0)], [], [⟨5, (.int .u8), v1, .own⟩]⟩ => some (v1)
  | _ => none
noncomputable def E144 : Fun2 := fun args bs rs =>
  match args, bs, rs with
  | [.s1 (.one (.sl 0))], [], [⟨5, (.int .u8), a1, .ro⟩] => some ⟨List Int, I.RecordOf a1, R144⟩
  | _, _, _ => none
theorem ev144 (a1 : List Int) : evF Try.prog G144 L144 (0, 0) Try.f144 c144 [vl 0] [] [⟨5, (.int .u8), a1, .ro⟩] K144 = I.RecordOf a1 := by kernel_rfl
theorem good144 : Vm.Good Try.prog 144 E144 := by
  refine evF_good (G := G144) (c := c144) envNil_good Try.func144 (by kernel_rfl) (by kernel_rfl) (0, 0) (fun args bs rs out t h h2 => ?_)
  unfold E144 at h
  split at h
  · injection h with h
    subst h
    exact ⟨rfl, L144, K144, lp144, (fun r t h => by unfold K144 at h; split at h; (injection h with h; subst h; rfl); cases h), (ev144 _).trans h2⟩
  · cases h
/-! ### I.logOf -/
noncomputable def G96 : Env := (envCons 133 [] E133 (envCons 145 [] E145 (envCons 144 [] E144 envNil)))
noncomputable def c96 : Code := bodyOf Try.f96
noncomputable def c96_5 : Code := (loopsOf c96).getD 0 .skip
noncomputable def I.logOf_l0 : Nat → (Bool → List Int → Option (Bool × List Int)) → (List Int → Option (Bool × List Int)) → Int → Int → List Int → (List (Int × (Int × Int × Int × Int) × (Int × Int × Int × Int) × Int × Int)) → Option (Bool × List Int)
  | 0, _, _, _, _, _, _ => none
  | m + 1, e5_0, e5_1, a5, a6, a7, a8 =>
    (bif (decide (a6 < a5)) then
    (bif decide (0 ≤ a6 ∧ a6 < (a8.length : Int)) then
    (Option.bind (I.isOp ((nthI a8 a6 ((0 : Int), (((0 : Int), ((0 : Int), ((0 : Int), (0 : Int)))), (((0 : Int), ((0 : Int), ((0 : Int), (0 : Int)))), ((0 : Int), (0 : Int)))))).1) ((nthI a8 a6 ((0 : Int), (((0 : Int), ((0 : Int), ((0 : Int), (0 : Int)))), (((0 : Int), ((0 : Int), ((0 : Int), (0 : Int)))), ((0 : Int), (0 : Int)))))).2.1.1) ((nthI a8 a6 ((0 : Int), (((0 : Int), ((0 : Int), ((0 : Int), (0 : Int)))), (((0 : Int), ((0 : Int), ((0 : Int), (0 : Int)))), ((0 : Int), (0 : Int)))))).2.1.2.1) ((nthI a8 a6 ((0 : Int), (((0 : Int), ((0 : Int), ((0 : Int), (0 : Int)))), (((0 : Int), ((0 : Int), ((0 : Int), (0 : Int)))), ((0 : Int), (0 : Int)))))).2.1.2.2.1) ((nthI a8 a6 ((0 : Int), (((0 : Int), ((0 : Int), ((0 : Int), (0 : Int)))), (((0 : Int), ((0 : Int), ((0 : Int), (0 : Int)))), ((0 : Int), (0 : Int)))))).2.1.2.2.2) ((nthI a8 a6 ((0 : Int), (((0 : Int), ((0 : Int), ((0 : Int), (0 : Int)))), (((0 : Int), ((0 : Int), ((0 : Int), (0 : Int)))), ((0 : Int), (0 : Int)))))).2.2.1.1) ((nthI a8 a6 ((0 : Int), (((0 : Int), ((0 : Int), ((0 : Int), (0 : Int)))), (((0 : Int), ((0 : Int), ((0 : Int), (0 : Int)))), ((0 : Int), (0 : Int)))))).2.2.1.2.1) ((nthI a8 a6 ((0 : Int), (((0 : Int), ((0 : Int), ((0 : Int), (0 : Int)))), (((0 : Int), ((0 : Int), ((0 : Int), (0 : Int)))), ((0 : Int), (0 : Int)))))).2.2.1.2.2.1) ((nthI a8 a6 ((0 : Int), (((0 : Int), ((0 : Int), ((0 : Int), (0 : Int)))), (((0 : Int), ((0 : Int), ((0 : Int), (0 : Int)))), ((0 : Int), (0 : Int)))))).2.2.1.2.2.2) ((nthI a8 a6 ((0 : Int), (((0 : Int), ((0 : Int), ((0 : Int), (0 : Int)))), (((0 : Int), ((0 : Int), ((0 : Int), (0 : Int)))), ((0 : Int), (0 : Int)))))).2.2.2.1) ((nthI a8 a6 ((0 : Int), (((0 : Int), ((0 : Int), ((0 : Int), (0 : Int)))), (((0 : Int), ((0 : Int), ((0 : Int), (0 : Int)))), ((0 : Int), (0 : Int)))))).2.2.2.2)) fun r10 =>
    (bif (!r10) then
    (e5_0 false a7)
    else
    (Option.bind (I.opBytes ((nthI a8 a6 ((0 : Int), (((0 : Int), ((0 : Int), ((0 : Int), (0 : Int)))), (((0 : Int), ((0 : Int), ((0 : Int), (0 : Int)))), ((0 : Int), (0 : Int)))))).1) ((nthI a8 a6 ((0 : Int), (((0 : Int), ((0 : Int), ((0 : Int), (0 : Int)))), (((0 : Int), ((0 : Int), ((0 : Int), (0 : Int)))), ((0 : Int), (0 : Int)))))).2.1.1) ((nthI a8 a6 ((0 : Int), (((0 : Int), ((0 : Int), ((0 : Int), (0 : Int)))), (((0 : Int), ((0 : Int), ((0 : Int), (0 : Int)))), ((0 : Int), (0 : Int)))))).2.1.2.1) ((nthI a8 a6 ((0 : Int), (((0 : Int), ((0 : Int), ((0 : Int), (0 : Int)))), (((0 : Int), ((0 : Int), ((0 : Int), (0 : Int)))), ((0 : Int), (0 : Int)))))).2.1.2.2.1) ((nthI a8 a6 ((0 : Int), (((0 : Int), ((0 : Int), ((0 : Int), (0 : Int)))), (((0 : Int), ((0 : Int), ((0 : Int), (0 : Int)))), ((0 : Int), (0 : Int)))))).2.1.2.2.2) ((nthI a8 a6 ((0 : Int), (((0 : Int), ((0 : Int), ((0 : Int), (0 : Int)))), (((0 : Int), ((0 : Int), ((0 : Int), (0 : Int)))), ((0 : Int), (0 : Int)))))).2.2.1.1) ((nthI a8 a6 ((0 : Int), (((0 : Int), ((0 : Int), ((0 : Int), (0 : Int)))), (((0 : Int), ((0 : Int), ((0 : Int), (0 : Int)))), ((0 : Int), (0 : Int)))))).2.2.1.2.1) ((nthI a8 a6 ((0 : Int), (((0 : Int), ((0 : Int), ((0 : Int), (0 : Int)))), (((0 : Int), ((0 : Int), ((0 : Int), (0 : Int)))), ((0 : Int), (0 : Int)))))).2.2.1.2.2.1) ((nthI a8 a6 ((0 : Int), (((0 : Int), ((0 : Int), ((0 : Int), (0 : Int)))), (((0 : Int), ((0 : Int), ((0 : Int), (0 : Int)))), ((0 : Int), (0 : Int)))))).2.2.1.2.2.2) ((nthI a8 a6 ((0 : Int), (((0 : Int), ((0 : Int), ((0 : Int), (0 : Int)))), (((0 : Int), ((0 : Int), ((0 : Int), (0 : Int)))), ((0 : Int), (0 : Int)))))).2.2.2.1) ((nthI a8 a6 ((0 : Int), (((0 : Int), ((0 : Int), ((0 : Int), (0 : Int)))), (((0 : Int), ((0 : Int), ((0 : Int), (0 : Int)))), ((0 : Int), (0 : Int)))))).2.2.2.2)) fun r11 =>
    (Option.bind (I.RecordOf r11) fun r12 =>
    (bif decide ((a7.length + r12.length) * 1 ≤ 140737488355328) then
    (I.logOf_l0 m e5_0 e5_1 a5 (IntKind.wrap .i64 (a6 + 1)) (a7 ++ r12) a8)
    else
    none)))))
    else
    none)
    else
    (e5_1 a7))
noncomputable def I.logOf (a1 : List (Int × (Int × Int × Int × Int) × (Int × Int × Int × Int) × Int × Int)) : Option (Bool × List Int) :=
(bif (decide (250 < (a1.length : Int))) then
(some (false, []))
else
(I.logOf_l0 fu (fun y14 y15 =>
(some (y14, []))) (fun y16 =>
(some (true, y16))) (a1.length : Int) 0 [] a1))
noncomputable def H96_5 : LoopH := ⟨⟨(hu 4 ((.one (.sl 0)) :: (hu 6 ((.one (.sl 1)) :: hh :: hh :: (hu 13 []))))), [], [(5, (.int .u8), .own), (42, (.pair (.int .i64) (.pair (.pair (.int .i64) (.pair (.int .i64) (.pair (.int .i64) (.int .i64)))) (.pair (.pair (.int .i64) (.pair (.int .i64) (.pair (.int .i64) (.int .i64)))) (.pair (.int .i64) (.int .i64))))), .ro)]⟩, [0, 1, 2, 3, 5, 6, 7, 8, 9, 10, 14, 15, 16, 17, 18, 19, 20, 21, 22, 23, 24, 25, 26], [], [0, 1, 5, 6, 7, 8, 9, 10, 11, 12, 13, 14, 15, 16, 17, 18, 19, 20, 21, 22, 23, 24, 25, 26]⟩
noncomputable def E96_5 (m : Nat) (ps : List Prm) (k : Kont (Bool × List Int)) : Option (Bool × List Int) :=
  match ps with
  | [.v (.int .i64 a5), .v (.int .i64 a6), .row (.int .u8) a7, .row (.pair (.int .i64) (.pair (.pair (.int .i64) (.pair (.int .i64) (.pair (.int .i64) (.int .i64)))) (.pair (.pair (.int .i64) (.pair (.int .i64) (.pair (.int .i64) (.int .i64)))) (.pair (.int .i64) (.int .i64))))) a8] => I.logOf_l0 m (fun z20 z21 => k .ret (⟨(vu 2 ((.s1 (.one (.val (.slice none 0 0)))) :: (vb z20) :: (vl 0) :: (vu 22 []))), [], [⟨5, (.int .u8), z21, .own⟩]⟩ : St)) (fun z22 => k (.exit 0) (⟨(vu 4 ((vl 0) :: (vu 22 []))), [], [⟨5, (.int .u8), z22, .own⟩]⟩ : St)) a5 a6 a7 a8
  | _ => none
noncomputable def S96_5 (a5 a6 : Int) (a7 : List Int) (a8 : List (Int × (Int × Int × Int × Int) × (Int × Int × Int × Int) × Int × Int)) : St := (⟨(vu 4 ((vl 0) :: (vu 6 ((vl 1) :: (vi a5) :: (vi a6) :: (vu 13 []))))), [], [⟨5, (.int .u8), a7, .own⟩, ⟨42, (.pair (.int .i64) (.pair (.pair (.int .i64) (.pair (.int .i64) (.pair (.int .i64) (.int .i64)))) (.pair (.pair (.int .i64) (.pair (.int .i64) (.pair (.int .i64) (.int .i64)))) (.pair (.int .i64) (.int .i64))))), a8, .ro⟩]⟩ : St)
theorem ev96_5 (m : Nat) (k : Kont (Bool × List Int)) (a5 a6 : Int) (a7 : List Int) (a8 : List (Int × (Int × Int × Int × Int) × (Int × Int × Int × Int) × Int × Int)) : evC Try.prog G96 loopNil c96_5 (S96_5 a5 a6 a7 a8) (turn Try.prog (0, 0) H96_5 (E96_5 m) k) = E96_5 (m + 1) [.v (.int .i64 a5), .v (.int .i64 a6), .row (.int .u8) a7, .row (.pair (.int .i64) (.pair (.pair (.int .i64) (.pair (.int .i64) (.pair (.int .i64) (.int .i64)))) (.pair (.pair (.int .i64) (.pair (.int .i64) (.pair (.int .i64) (.int .i64)))) (.pair (.int .i64) (.int .i64))))) a8] k := by kernel_rfl
theorem ok96_5 (m : Nat) : LoopOk Try.prog (0, 0) c96_5 (enter Try.prog (0, 0) H96_5 (E96_5 m)) := by
  refine loop_ok (G := G96) (L := loopNil) (envCons_good good133 (envCons_good good145 (envCons_good good144 envNil_good))) (by intro x hx; simp [show loopsOf c96_5 = [] from by kernel_rfl] at hx) (fun ps k => by unfold E96_5; split <;> rfl) (fun m ps k r h => ?_) m
  have h0 := h
  unfold E96_5 at h
  split at h
  · exact ⟨S96_5 _ _ _ _, by kernel_rfl, (ev96_5 m k _ _ _ _).trans h0⟩
  · cases h
noncomputable def L96 : LEnv (Bool × List Int) := (loopCons 5 (enter Try.prog (0, 0) H96_5 (E96_5 fu)) loopNil)
theorem lq96 : loopsOf c96 = [c96_5] := by kernel_rfl
theorem fr96_5 : firstReg c96_5 = some 5 := by kernel_rfl
theorem le96_5 : L96 5 = enter Try.prog (0, 0) H96_5 (E96_5 fu) := by kernel_rfl
theorem lm96 : ∀ x ∈ [c96_5], ∀ id, firstReg x = some id → LoopOk Try.prog (0, 0) x (L96 id) := (loops_cons fr96_5 le96_5 (ok96_5 fu) loops_nil)
theorem lp96 : ∀ x ∈ loopsOf c96, ∀ id, firstReg x = some id → LoopOk Try.prog (0, 0) x (L96 id) := loops_eq lq96 lm96
noncomputable def R96 (x : Bool × List Int) : Res := ⟨[.one (.sl 0), .one (ab x.1)], [], [⟨5, (.int .u8), x.2, .own⟩]⟩
noncomputable def K96 (r : Res) : Option (Bool × List Int) :=
  match r with
  | ⟨[.one (.sl 0), .one (.val (.bool v1))], [], [⟨5, (.int .u8), v2, .own⟩]⟩ => some (v1, v2)
  | _ => none
noncomputable def E96 : Fun2 := fun args bs rs =>
  match args, bs, rs with
  | [.s1 (.one (.sl 0))], [], [⟨42, (.pair (.int .i64) (.pair (.pair (.int .i64) (.pair (.int .i64) (.pair (.int .i64) (.int .i64)))) (.pair (.pair (.int .i64) (.pair (.int .i64) (.pair (.int .i64) (.int .i64)))) (.pair (.int .i64) (.int .i64))))), a1, .ro⟩] => some ⟨Bool × List Int, I.logOf a1, R96⟩
  | _, _, _ => none
theorem ev96 (a1 : List (Int × (Int × Int × Int × Int) × (Int × Int × Int × Int) × Int × Int)) : evF Try.prog G96 L96 (0, 0) Try.f96 c96 [vl 0] [] [⟨42, (.pair (.int .i64) (.pair (.pair (.int .i64) (.pair (.int .i64) (.pair (.int .i64) (.int .i64)))) (.pair (.pair (.int .i64) (.pair (.int .i64) (.pair (.int .i64) (.int .i64)))) (.pair (.int .i64) (.int .i64))))), a1, .ro⟩] K96 = I.logOf a1 := by kernel_rfl
theorem good96 : Vm.Good Try.prog 96 E96 := by
  refine evF_good (G := G96) (c := c96) (envCons_good good133 (envCons_good good145 (envCons_good good144 envNil_good))) Try.func96 (by kernel_rfl) (by kernel_rfl) (0, 0) (fun args bs rs out t h h2 => ?_)
  unfold E96 at h
  split at h
  · injection h with h
    subst h
    exact ⟨rfl, L96, K96, lp96, (fun r t h => by unfold K96 at h; split at h; (injection h with h; subst h; rfl); cases h), (ev96 _).trans h2⟩
  · cases h
/-! ### I.LogOf -/
noncomputable def G35 : Env := (envCons 96 [] E96 envNil)
noncomputable def c35 : Code := bodyOf Try.f35
noncomputable def I.LogOf (a1 : List (Int × (Int × Int × Int × Int) × (Int × Int × Int × Int) × Int × Int)) : Option (Bool × List Int) :=
(Option.bind (I.logOf a1) fun r2 =>
(some (r2.1, r2.2)))
noncomputable def R35 (x : Bool × List Int) : Res := ⟨[.one (.sl 0), .one (ab x.1)], [], [⟨5, (.int .u8), x.2, .own⟩]⟩
noncomputable def K35 (r : Res) : Option (Bool × List Int) :=
  match r with
  | ⟨[.one (.sl 0), .one (.val (.bool v1))], [], [⟨5, (.int .u8), v2, .own⟩]⟩ => some (v1, v2)
  | _ => none
noncomputable def E35 : Fun2 := fun args bs rs =>
  match args, bs, rs with
  | [.s1 (.one (.sl 0))], [], [⟨42, (.pair (.int .i64) (.pair (.pair (.int .i64) (.pair (.int .i64) (.pair (.int .i64) (.int .i64)))) (.pair (.pair (.int .i64) (.pair (.int .i64) (.pair (.int .i64) (.int .i64)))) (.pair (.int .i64) (.int .i64))))), a1, .ro⟩] => some ⟨Bool × List Int, I.LogOf a1, R35⟩
  | _, _, _ => none
theorem ev35 (a1 : List (Int × (Int × Int × Int × Int) × (Int × Int × Int × Int) × Int × Int)) : evF Try.prog G35 loopNil (0, 0) Try.f35 c35 [vl 0] [] [⟨42, (.pair (.int .i64) (.pair (.pair (.int .i64) (.pair (.int .i64) (.pair (.int .i64) (.int .i64)))) (.pair (.pair (.int .i64) (.pair (.int .i64) (.pair (.int .i64) (.int .i64)))) (.pair (.int .i64) (.int .i64))))), a1, .ro⟩] K35 = I.LogOf a1 := by kernel_rfl
theorem good35 : Vm.Good Try.prog 35 E35 := by
  refine evF_good (G := G35) (c := c35) (envCons_good good96 envNil_good) Try.func35 (by kernel_rfl) (by kernel_rfl) (0, 0) (fun args bs rs out t h h2 => ?_)
  unfold E35 at h
  split at h
  · injection h with h
    subst h
    exact ⟨rfl, loopNil, K35, (by intro x hx; simp [show loopsOf c35 = [] from by kernel_rfl] at hx), (fun r t h => by unfold K35 at h; split at h; (injection h with h; subst h; rfl); cases h), (ev35 _).trans h2⟩
  · cases h
/-! ### L.eqByteS -/
noncomputable def G22 : Env := envNil
noncomputable def c22 : Code := bodyOf Try.f22
noncomputable def c22_4 : Code := (loopsOf c22).getD 0 .skip
noncomputable def L.eqByteS_l0 : Nat → (Bool → Option Bool) → (Option Bool) → Int → List Int → List Int → Option Bool
  | 0, _, _, _, _, _ => none
  | m + 1, e4_0, e4_1, a5, a6, a7 =>
    (bif (decide (a5 < (a6.length : Int))) then
    (bif decide (0 ≤ a5 ∧ a5 < (a6.length : Int)) then
    (bif decide (0 ≤ a5 ∧ a5 < (a7.length : Int)) then
    (bif ((nthI a6 a5 (0 : Int)) != (nthI a7 a5 (0 : Int))) then
    (e4_0 false)
    else
    (L.eqByteS_l0 m e4_0 e4_1 (IntKind.wrap .i64 (a5 + 1)) a6 a7))
    else
    none)
    else
    none)
    else
    e4_1)
noncomputable def L.eqByteS (a1 a2 : List Int) : Option Bool :=
(bif ((a1.length : Int) != (a2.length : Int)) then
(some false)
else
(L.eqByteS_l0 fu (fun y12 =>
(some y12)) (some true) 0 a1 a2))
noncomputable def H22_4 : LoopH := ⟨⟨((.one (.sl 0)) :: (.one (.sl 1)) :: (hu 3 (hh :: (hu 20 [])))), [], [(5, (.int .u8), .ro), (5, (.int .u8), .ro)]⟩, [2, 3, 4, 6, 7, 8, 9, 10, 11, 12, 13, 14, 15, 16, 17, 18, 19, 20, 21, 22, 23, 24, 25], [], [0, 1, 2, 3, 5, 6, 7, 8, 9, 10, 11, 12, 13, 14, 15, 16, 17, 18, 19, 20, 21, 22, 23, 24, 25]⟩
noncomputable def E22_4 (m : Nat) (ps : List Prm) (k : Kont Bool) : Option Bool :=
  match ps with
  | [.v (.int .i64 a5), .row (.int .u8) a6, .row (.int .u8) a7] => L.eqByteS_l0 m (fun z14 => k .ret (⟨(vu 4 ((vb z14) :: (vu 21 []))), [], []⟩ : St)) (k (.exit 0) (⟨(vu 26 []), [], []⟩ : St)) a5 a6 a7
  | _ => none
noncomputable def S22_4 (a5 : Int) (a6 a7 : List Int) : St := (⟨((vl 0) :: (vl 1) :: (vu 3 ((vi a5) :: (vu 20 [])))), [], [⟨5, (.int .u8), a6, .ro⟩, ⟨5, (.int .u8), a7, .ro⟩]⟩ : St)
theorem ev22_4 (m : Nat) (k : Kont Bool) (a5 : Int) (a6 a7 : List Int) : evC Try.prog G22 loopNil c22_4 (S22_4 a5 a6 a7) (turn Try.prog (0, 0) H22_4 (E22_4 m) k) = E22_4 (m + 1) [.v (.int .i64 a5), .row (.int .u8) a6, .row (.int .u8) a7] k := by kernel_rfl
theorem ok22_4 (m : Nat) : LoopOk Try.prog (0, 0) c22_4 (enter Try.prog (0, 0) H22_4 (E22_4 m)) := by
  refine loop_ok (G := G22) (L := loopNil) envNil_good (by intro x hx; simp [show loopsOf c22_4 = [] from by kernel_rfl] at hx) (fun ps k => by unfold E22_4; split <;> rfl) (fun m ps k r h => ?_) m
  have h0 := h
  unfold E22_4 at h
  split at h
  · exact ⟨S22_4 _ _ _, by kernel_rfl, (ev22_4 m k _ _ _).trans h0⟩
  · cases h
noncomputable def L22 : LEnv Bool := (loopCons 4 (enter Try.prog (0, 0) H22_4 (E22_4 fu)) loopNil)
theorem lq22 : loopsOf c22 = [c22_4] := by kernel_rfl
theorem fr22_4 : firstReg c22_4 = some 4 := by kernel_rfl
theorem le22_4 : L22 4 = enter Try.prog (0, 0) H22_4 (E22_4 fu) := by kernel_rfl
theorem lm22 : ∀ x ∈ [c22_4], ∀ id, firstReg x = some id → LoopOk Try.prog (0, 0) x (L22 id) := (loops_cons fr22_4 le22_4 (ok22_4 fu) loops_nil)
theorem lp22 : ∀ x ∈ loopsOf c22, ∀ id, firstReg x = some id → LoopOk Try.prog (0, 0) x (L22 id) := loops_eq lq22 lm22
noncomputable def R22 (x : Bool) : Res := ⟨[.one (ab x)], [], []⟩
noncomputable def K22 (r : Res) : Option Bool :=
  match r with
  | ⟨[.one (.val (.bool v1))], [], []⟩ => some (v1)
  | _ => none
noncomputable def E22 : Fun2 := fun args bs rs =>
  match args, bs, rs with
  | [.s1 (.one (.sl 0)), .s1 (.one (.sl 1))], [], [⟨5, (.int .u8), a1, .ro⟩, ⟨5, (.int .u8), a2, .ro⟩] => some ⟨Bool, L.eqByteS a1 a2, R22⟩
  | _, _, _ => none
theorem ev22 (a1 a2 : List Int) : evF Try.prog G22 L22 (0, 0) Try.f22 c22 [vl 0, vl 1] [] [⟨5, (.int .u8), a1, .ro⟩, ⟨5, (.int .u8), a2, .ro⟩] K22 = L.eqByteS a1 a2 := by kernel_rfl
theorem good22 : Vm.Good Try.prog 22 E22 := by
  refine evF_good (G := G22) (c := c22) envNil_good Try.func22 (by kernel_rfl) (by kernel_rfl) (0, 0) (fun args bs rs out t h h2 => ?_)
  unfold E22 at h
  split at h
  · injection h with h
    subst h
    exact ⟨rfl, L22, K22, lp22, (fun r t h => by unfold K22 at h; split at h; (injection h with h; subst h; rfl); cases h), (ev22 _ _).trans h2⟩
  · cases h
/-! ### L.eqElem -/
noncomputable def G75 : Env := envNil
noncomputable def c75 : Code := bodyOf Try.f75
noncomputable def L.eqElem (a1 a2 a3 a4 a5 a6 a7 a8 : Int) : Option Bool :=
(bif (a1 != a5) then
(some false)
else
(bif (a2 != a6) then
(some false)
else
(bif (a3 != a7) then
(some false)
else
(bif (a4 != a8) then
(some false)
else
(some true)))))
noncomputable def R75 (x : Bool) : Res := ⟨[.one (ab x)], [], []⟩
noncomputable def K75 (r : Res) : Option Bool :=
  match r with
  | ⟨[.one (.val (.bool v1))], [], []⟩ => some (v1)
  | _ => none
noncomputable def E75 : Fun2 := fun args bs rs =>
  match args, bs, rs with
  | [.s1 (.agg [.val (.int .i64 a1), .val (.int .i64 a2), .val (.int .i64 a3), .val (.int .i64 a4)]), .s1 (.agg [.val (.int .i64 a5), .val (.int .i64 a6), .val (.int .i64 a7), .val (.int .i64 a8)])], [], [] => some ⟨Bool, L.eqElem a1 a2 a3 a4 a5 a6 a7 a8, R75⟩
  | _, _, _ => none
theorem ev75 (a1 a2 a3 a4 a5 a6 a7 a8 : Int) : evF Try.prog G75 loopNil (0, 0) Try.f75 c75 [.s1 (.agg [ai a1, ai a2, ai a3, ai a4]), .s1 (.agg [ai a5, ai a6, ai a7, ai a8])] [] [] K75 = L.eqElem a1 a2 a3 a4 a5 a6 a7 a8 := by kernel_rfl
theorem good75 : Vm.Good Try.prog 75 E75 := by
  refine evF_good (G := G75) (c := c75) envNil_good Try.func75 (by kernel_rfl) (by kernel_rfl) (0, 0) (fun args bs rs out t h h2 => ?_)
  unfold E75 at h
  split at h
  · injection h with h
    subst h
    exact ⟨rfl, loopNil, K75, (by intro x hx; simp [show loopsOf c75 = [] from by kernel_rfl] at hx), (fun r t h => by unfold K75 at h; split at h; (injection h with h; subst h; rfl); cases h), (ev75 _ _ _ _ _ _ _ _).trans h2⟩
  · cases h
/-! ### L.eqPunct -/
noncomputable def G76 : Env := envNil
noncomputable def c76 : Code := bodyOf Try.f76
noncomputable def L.eqPunct (a1 a2 a3 a4 a5 a6 a7 a8 : Int) : Option Bool :=
(bif (a1 != a5) then
(some false)
else
(bif (a2 != a6) then
(some false)
else
(bif (a3 != a7) then
(some false)
else
(bif (a4 != a8) then
(some false)
else
(some true)))))
noncomputable def R76 (x : Bool) : Res := ⟨[.one (ab x)], [], []⟩
noncomputable def K76 (r : Res) : Option Bool :=
  match r with
  | ⟨[.one (.val (.bool v1))], [], []⟩ => some (v1)
  | _ => none
noncomputable def E76 : Fun2 := fun args bs rs =>
  match args, bs, rs with
  | [.s1 (.agg [.val (.int .i64 a1), .val (.int .i64 a2), .val (.int .i64 a3), .val (.int .i64 a4)]), .s1 (.agg [.val (.int .i64 a5), .val (.int .i64 a6), .val (.int .i64 a7), .val (.int .i64 a8)])], [], [] => some ⟨Bool, L.eqPunct a1 a2 a3 a4 a5 a6 a7 a8, R76⟩
  | _, _, _ => none
theorem ev76 (a1 a2 a3 a4 a5 a6 a7 a8 : Int) : evF Try.prog G76 loopNil (0, 0) Try.f76 c76 [.s1 (.agg [ai a1, ai a2, ai a3, ai a4]), .s1 (.agg [ai a5, ai a6, ai a7, ai a8])] [] [] K76 = L.eqPunct a1 a2 a3 a4 a5 a6 a7 a8 := by kernel_rfl
theorem good76 : Vm.Good Try.prog 76 E76 := by
  refine evF_good (G := G76) (c := c76) envNil_good Try.func76 (by kernel_rfl) (by kernel_rfl) (0, 0) (fun args bs rs out t h h2 => ?_)
  unfold E76 at h
  split at h
  · injection h with h
    subst h
    exact ⟨rfl, loopNil, K76, (by intro x hx; simp [show loopsOf c76 = [] from by kernel_rfl] at hx), (fun r t h => by unfold K76 at h; split at h; (injection h with h; subst h; rfl); cases h), (ev76 _ _ _ _ _ _ _ _).trans h2⟩
  · cases h
/-! ### L.eqOp -/
noncomputable def G21 : Env := (envCons 75 [] E75 (envCons 76 [] E76 envNil))
noncomputable def c21 : Code := bodyOf Try.f21
noncomputable def L.eqOp (a1 a2 a3 a4 a5 a6 a7 a8 a9 a10 a11 a12 a13 a14 a15 a16 a17 a18 a19 a20 a21 a22 : Int) : Option Bool :=
(bif (a1 != a12) then
(some false)
else
(Option.bind (L.eqElem a2 a3 a4 a5 a13 a14 a15 a16) fun r23 =>
(bif (!r23) then
(some false)
else
(Option.bind (L.eqPunct a6 a7 a8 a9 a17 a18 a19 a20) fun r24 =>
(bif (!r24) then
(some false)
else
(bif (a10 != a21) then
(some false)
else
(bif (a11 != a22) then
(some false)
else
(some true))))))))
noncomputable def R21 (x : Bool) : Res := ⟨[.one (ab x)], [], []⟩
noncomputable def K21 (r : Res) : Option Bool :=
  match r with
  | ⟨[.one (.val (.bool v1))], [], []⟩ => some (v1)
  | _ => none
noncomputable def E21 : Fun2 := fun args bs rs =>
  match args, bs, rs with
  | [.s1 (.agg [.val (.int .i64 a1), .val (.int .i64 a2), .val (.int .i64 a3), .val (.int .i64 a4), .val (.int .i64 a5), .val (.int .i64 a6), .val (.int .i64 a7), .val (.int .i64 a8), .val (.int .i64 a9), .val (.int .i64 a10), .val (.int .i64 a11)]), .s1 (.agg [.val (.int .i64 a12), .val (.int .i64 a13), .val (.int .i64 a14), .val (.int .i64 a15), .val (.int .i64 a16), .val (.int .i64 a17), .val (.int .i64 a18), .val (.int .i64 a19), .val (.int .i64 a20), .val (.int .i64 a21), .val (.int .i64 a22)])], [], [] => some ⟨Bool, L.eqOp a1 a2 a3 a4 a5 a6 a7 a8 a9 a10 a11 a12 a13 a14 a15 a16 a17 a18 a19 a20 a21 a22, R21⟩
  | _, _, _ => none
theorem ev21 (a1 a2 a3 a4 a5 a6 a7 a8 a9 a10 a11 a12 a13 a14 a15 a16 a17 a18 a19 a20 a21 a22 : Int) : evF Try.prog G21 loopNil (0, 0) Try.f21 c21 [.s1 (.agg [ai a1, ai a2, ai a3, ai a4, ai a5, ai a6, ai a7, ai a8, ai a9, ai a10, ai a11]), .s1 (.agg [ai a12, ai a13, ai a14, ai a15, ai a16, ai a17, ai a18, ai a19, ai a20, ai a21, ai a22])] [] [] K21 = L.eqOp a1 a2 a3 a4 a5 a6 a7 a8 a9 a10 a11 a12 a13 a14 a15 a16 a17 a18 a19 a20 a21 a22 := by kernel_rfl
theorem good21 : Vm.Good Try.prog 21 E21 := by
  refine evF_good (G := G21) (c := c21) (envCons_good good75 (envCons_good good76 envNil_good)) Try.func21 (by kernel_rfl) (by kernel_rfl) (0, 0) (fun args bs rs out t h h2 => ?_)
  unfold E21 at h
  split at h
  · injection h with h
    subst h
    exact ⟨rfl, loopNil, K21, (by intro x hx; simp [show loopsOf c21 = [] from by kernel_rfl] at hx), (fun r t h => by unfold K21 at h; split at h; (injection h with h; subst h; rfl); cases h), (ev21 _ _ _ _ _ _ _ _ _ _ _ _ _ _ _ _ _ _ _ _ _ _).trans h2⟩
  · cases h
/-! ### L.eqOpS -/
noncomputable def G36 : Env := (envCons 21 [] E21 envNil)
noncomputable def c36 : Code := bodyOf Try.f36
noncomputable def c36_4 : Code := (loopsOf c36).getD 0 .skip
noncomputable def L.eqOpS_l0 : Nat → (Bool → Option Bool) → (Option Bool) → Int → (List (Int × (Int × Int × Int × Int) × (Int × Int × Int × Int) × Int × Int)) → (List (Int × (Int × Int × Int × Int) × (Int × Int × Int × Int) × Int × Int)) → Option Bool
  | 0, _, _, _, _, _ => none
  | m + 1, e4_0, e4_1, a5, a6, a7 =>
    (bif (decide (a5 < (a6.length : Int))) then
    (bif decide (0 ≤ a5 ∧ a5 < (a6.length : Int)) then
    (bif decide (0 ≤ a5 ∧ a5 < (a7.length : Int)) then
    (Option.bind (L.eqOp ((nthI a6 a5 ((0 : Int), (((0 : Int), ((0 : Int), ((0 : Int), (0 : Int)))), (((0 : Int), ((0 : Int), ((0 : Int), (0 : Int)))), ((0 : Int), (0 : Int)))))).1) ((nthI a6 a5 ((0 : Int), (((0 : Int), ((0 : Int), ((0 : Int), (0 : Int)))), (((0 : Int), ((0 : Int), ((0 : Int), (0 : Int)))), ((0 : Int), (0 : Int)))))).2.1.1) ((nthI a6 a5 ((0 : Int), (((0 : Int), ((0 : Int), ((0 : Int), (0 : Int)))), (((0 : Int), ((0 : Int), ((0 : Int), (0 : Int)))), ((0 : Int), (0 : Int)))))).2.1.2.1) ((nthI a6 a5 ((0 : Int), (((0 : Int), ((0 : Int), ((0 : Int), (0 : Int)))), (((0 : Int), ((0 : Int), ((0 : Int), (0 : Int)))), ((0 : Int), (0 : Int)))))).2.1.2.2.1) ((nthI a6 a5 ((0 : Int), (((0 : Int), ((0 : Int), ((0 : Int), (0 : Int)))), (((0 : Int), ((0 : Int), ((0 : Int), (0 : Int)))), ((0 : Int), (0 : Int)))))).2.1.2.2.2) ((nthI a6 a5 ((0 : Int), (((0 : Int), ((0 : Int), ((0 : Int), (0 : Int)))), (((0 : Int), ((0 : Int), ((0 : Int), (0 : Int)))), ((0 : Int), (0 : Int)))))).2.2.1.1) ((nthI a6 a5 ((0 : Int), (((0 : Int), ((0 : Int), ((0 : Int), (0 : Int)))), (((0 : Int), ((0 : Int), ((0 : Int), (0 : Int)))), ((0 : Int), (0 : Int)))))).2.2.1.2.1) ((nthI a6 a5 ((0 : Int), (((0 : Int), ((0 : Int), ((0 : Int), (0 : Int)))), (((0 : Int), ((0 : Int), ((0 : Int), (0 : Int)))), ((0 : Int), (0 : Int)))))).2.2.1.2.2.1) ((nthI a6 a5 ((0 : Int), (((0 : Int), ((0 : Int), ((0 : Int), (0 : Int)))), (((0 : Int), ((0 : Int), ((0 : Int), (0 : Int)))), ((0 : Int), (0 : Int)))))).2.2.1.2.2.2) ((nthI a6 a5 ((0 : Int), (((0 : Int), ((0 : Int), ((0 : Int), (0 : Int)))), (((0 : Int), ((0 : Int), ((0 : Int), (0 : Int)))), ((0 : Int), (0 : Int)))))).2.2.2.1) ((nthI a6 a5 ((0 : Int), (((0 : Int), ((0 : Int), ((0 : Int), (0 : Int)))), (((0 : Int), ((0 : Int), ((0 : Int), (0 : Int)))), ((0 : Int), (0 : Int)))))).2.2.2.2) ((nthI a7 a5 ((0 : Int), (((0 : Int), ((0 : Int), ((0 : Int), (0 : Int)))), (((0 : Int), ((0 : Int), ((0 : Int), (0 : Int)))), ((0 : Int), (0 : Int)))))).1) ((nthI a7 a5 ((0 : Int), (((0 : Int), ((0 : Int), ((0 : Int), (0 : Int)))), (((0 : Int), ((0 : Int), ((0 : Int), (0 : Int)))), ((0 : Int), (0 : Int)))))).2.1.1) ((nthI a7 a5 ((0 : Int), (((0 : Int), ((0 : Int), ((0 : Int), (0 : Int)))), (((0 : Int), ((0 : Int), ((0 : Int), (0 : Int)))), ((0 : Int), (0 : Int)))))).2.1.2.1) ((nthI a7 a5 ((0 : Int), (((0 : Int), ((0 : Int), ((0 : Int), (0 : Int)))), (((0 : Int), ((0 : Int), ((0 : Int), (0 : Int)))), ((0 : Int), (0 : Int)))))).2.1.2.2.1) ((nthI a7 a5 ((0 : Int), (((0 : Int), ((0 : Int), ((0 : Int), (0 : Int)))), (((0 : Int), ((0 : Int), ((0 : Int), (0 : Int)))), ((0 : Int), (0 : Int)))))).2.1.2.2.2) ((nthI a7 a5 ((0 : Int), (((0 : Int), ((0 : Int), ((0 : Int), (0 : Int)))), (((0 : Int), ((0 : Int), ((0 : Int), (0 : Int)))), ((0 : Int), (0 : Int)))))).2.2.1.1) ((nthI a7 a5 ((0 : Int), (((0 : Int), ((0 : Int), ((0 : Int), (0 : Int)))), (((0 : Int), ((0 : Int), ((0 : Int), (0 : Int)))), ((0 : Int), (0 : Int)))))).2.2.1.2.1) ((nthI a7 a5 ((0 : Int), (((0 : Int), ((0 : Int), ((0 : Int), (0 : Int)))), (((0 : Int), ((0 : Int), ((0 : Int), (0 : Int)))), ((0 : Int), (0 : Int)))))).2.2.1.2.2.1) ((nthI a7 a5 ((0 : Int), (((0 : Int), ((0 : Int), ((0 : Int), (0 : Int)))), (((0 : Int), ((0 : Int), ((0 : Int), (0 : Int)))), ((0 : Int), (0 : Int)))))).2.2.1.2.2.2) ((nthI a7 a5 ((0 : Int), (((0 : Int), ((0 : Int), ((0 : Int), (0 : Int)))), (((0 : Int), ((0 : Int), ((0 : Int), (0 : Int)))), ((0 : Int), (0 : Int)))))).2.2.2.1) ((nthI a7 a5 ((0 : Int), (((0 : Int), ((0 : Int), ((0 : Int), (0 : Int)))), (((0 : Int), ((0 : Int), ((0 : Int), (0 : Int)))), ((0 : Int), (0 : Int)))))).2.2.2.2)) fun r10 =>
    (bif (!r10) then
    (e4_0 false)
    else
    (L.eqOpS_l0 m e4_0 e4_1 (IntKind.wrap .i64 (a5 + 1)) a6 a7)))
    else
    none)
    else
    none)
    else
    e4_1)
noncomputable def L.eqOpS (a1 a2 : List (Int × (Int × Int × Int × Int) × (Int × Int × Int × Int) × Int × Int)) : Option Bool :=
(bif ((a1.length : Int) != (a2.length : Int)) then
(some false)
else
(L.eqOpS_l0 fu (fun y12 =>
(some y12)) (some true) 0 a1 a2))
noncomputable def H36_4 : LoopH := ⟨⟨((.one (.sl 0)) :: (.one (.sl 1)) :: (hu 3 (hh :: (hu 21 [])))), [], [(42, (.pair (.int .i64) (.pair (.pair (.int .i64) (.pair (.int .i64) (.pair (.int .i64) (.int .i64)))) (.pair (.pair (.int .i64) (.pair (.int .i64) (.pair (.int .i64) (.int .i64)))) (.pair (.int .i64) (.int .i64))))), .ro), (42, (.pair (.int .i64) (.pair (.pair (.int .i64) (.pair (.int .i64) (.pair (.int .i64) (.int .i64)))) (.pair (.pair (.int .i64) (.pair (.int .i64) (.pair (.int .i64) (.int .i64)))) (.pair (.int .i64) (.int .i64))))), .ro)]⟩, [2, 3, 4, 6, 7, 8, 9, 10, 11, 12, 13, 14, 15, 16, 17, 18, 19, 20, 21, 22, 23, 24, 25, 26], [], [0, 1, 2, 3, 5, 6, 7, 8, 9, 10, 11, 12, 13, 14, 15, 16, 17, 18, 19, 20, 21, 22, 23, 24, 25, 26]⟩
noncomputable def E36_4 (m : Nat) (ps : List Prm) (k : Kont Bool) : Option Bool :=
  match ps with
  | [.v (.int .i64 a5), .row (.pair (.int .i64) (.pair (.pair (.int .i64) (.pair (.int .i64) (.pair (.int .i64) (.int .i64)))) (.pair (.pair (.int .i64) (.pair (.int .i64) (.pair (.int .i64) (.int .i64)))) (.pair (.int .i64) (.int .i64))))) a6, .row (.pair (.int .i64) (.pair (.pair (.int .i64) (.pair (.int .i64) (.pair (.int .i64) (.int .i64)))) (.pair (.pair (.int .i64) (.pair (.int .i64) (.pair (.int .i64) (.int .i64)))) (.pair (.int .i64) (.int .i64))))) a7] => L.eqOpS_l0 m (fun z14 => k .ret (⟨(vu 4 ((vb z14) :: (vu 22 []))), [], []⟩ : St)) (k (.exit 0) (⟨(vu 27 []), [], []⟩ : St)) a5 a6 a7
  | _ => none
noncomputable def S36_4 (a5 : Int) (a6 a7 : List (Int × (Int × Int × Int × Int) × (Int × Int × Int × Int) × Int × Int)) : St := (⟨((vl 0) :: (vl 1) :: (vu 3 ((vi a5) :: (vu 21 [])))), [], [⟨42, (.pair (.int .i64) (.pair (.pair (.int .i64) (.pair (.int .i64) (.pair (.int .i64) (.int .i64)))) (.pair (.pair (.int .i64) (.pair (.int .i64) (.pair (.int .i64) (.int .i64)))) (.pair (.int .i64) (.int .i64))))), a6, .ro⟩, ⟨42, (.pair (.int .i64) (.pair (.pair (.int .i64) (.pair (.int .i64) (.pair (.int .i64) (.int .i64)))) (.pair (.pair (.int .i64) (.pair (.int .i64) (.pair (.int .i64) (.int .i64)))) (.pair (.int .i64) (.int .i64))))), a7, .ro⟩]⟩ : St)
theorem ev36_4 (m : Nat) (k : Kont Bool) (a5 : Int) (a6 a7 : List (Int × (Int × Int × Int × Int) × (Int × Int × Int × Int) × Int × Int)) : evC Try.prog G36 loopNil c36_4 (S36_4 a5 a6 a7) (turn Try.prog (0, 0) H36_4 (E36_4 m) k) = E36_4 (m + 1) [.v (.int .i64 a5), .row (.pair (.int .i64) (.pair (.pair (.int .i64) (.pair (.int .i64) (.pair (.int .i64) (.int .i64)))) (.pair (.pair (.int .i64) (.pair (.int .i64) (.pair (.int .i64) (.int .i64)))) (.pair (.int .i64) (.int .i64))))) a6, .row (.pair (.int .i64) (.pair (.pair (.int .i64) (.pair (.int .i64) (.pair (.int .i64) (.int .i64)))) (.pair (.pair (.int .i64) (.pair (.int .i64) (.pair (.int .i64) (.int .i64)))) (.pair (.int .i64) (.int .i64))))) a7] k := by kernel_rfl
theorem ok36_4 (m : Nat) : LoopOk Try.prog (0, 0) c36_4 (enter Try.prog (0, 0) H36_4 (E36_4 m)) := by
  refine loop_ok (G := G36) (L := loopNil) (envCons_good good21 envNil_good) (by intro x hx; simp [show loopsOf c36_4 = [] from by kernel_rfl] at hx) (fun ps k => by unfold E36_4; split <;> rfl) (fun m ps k r h => ?_) m
  have h0 := h
  unfold E36_4 at h
  split at h
  · exact ⟨S36_4 _ _ _, by kernel_rfl, (ev36_4 m k _ _ _).trans h0⟩
  · cases h
noncomputable def L36 : LEnv Bool := (loopCons 4 (enter Try.prog (0, 0) H36_4 (E36_4 fu)) loopNil)
theorem lq36 : loopsOf c36 = [c36_4] := by kernel_rfl
theorem fr36_4 : firstReg c36_4 = some 4 := by kernel_rfl
theorem le36_4 : L36 4 = enter Try.prog (0, 0) H36_4 (E36_4 fu) := by kernel_rfl
theorem lm36 : ∀ x ∈ [c36_4], ∀ id, firstReg x = some id → LoopOk Try.prog (0, 0) x (L36 id) := (loops_cons fr36_4 le36_4 (ok36_4 fu) loops_nil)
theorem lp36 : ∀ x ∈ loopsOf c36, ∀ id, firstReg x = some id → LoopOk Try.prog (0, 0) x (L36 id) := loops_eq lq36 lm36
noncomputable def R36 (x : Bool) : Res := ⟨[.one (ab x)], [], []⟩
noncomputable def K36 (r : Res) : Option Bool :=
  match r with
  | ⟨[.one (.val (.bool v1))], [], []⟩ => some (v1)
  | _ => none
noncomputable def E36 : Fun2 := fun args bs rs =>
  match args, bs, rs with
  | [.s1 (.one (.sl 0)), .s1 (.one (.sl 1))], [], [⟨42, (.pair (.int .i64) (.pair (.pair (.int .i64) (.pair (.int .i64) (.pair (.int .i64) (.int .i64)))) (.pair (.pair (.int .i64) (.pair (.int .i64) (.pair (.int .i64) (.int .i64)))) (.pair (.int .i64) (.int .i64))))), a1, .ro⟩, ⟨42, (.pair (.int .i64) (.pair (.pair (.int .i64) (.pair (.int .i64) (.pair (.int .i64) (.int .i64)))) (.pair (.pair (.int .i64) (.pair (.int .i64) (.pair (.int .i64) (.int .i64)))) (.pair (.int .i64) (.int .i64))))), a2, .ro⟩] => some ⟨Bool, L.eqOpS a1 a2, R36⟩
  | _, _, _ => none
theorem ev36 (a1 a2 : List (Int × (Int × Int × Int × Int) × (Int × Int × Int × Int) × Int × Int)) : evF Try.prog G36 L36 (0, 0) Try.f36 c36 [vl 0, vl 1] [] [⟨42, (.pair (.int .i64) (.pair (.pair (.int .i64) (.pair (.int .i64) (.pair (.int .i64) (.int .i64)))) (.pair (.pair (.int .i64) (.pair (.int .i64) (.pair (.int .i64) (.int .i64)))) (.pair (.int .i64) (.int .i64))))), a1, .ro⟩, ⟨42, (.pair (.int .i64) (.pair (.pair (.int .i64) (.pair (.int .i64) (.pair (.int .i64) (.int .i64)))) (.pair (.pair (.int .i64) (.pair (.int .i64) (.pair (.int .i64) (.int .i64)))) (.pair (.int .i64) (.int .i64))))), a2, .ro⟩] K36 = L.eqOpS a1 a2 := by kernel_rfl
theorem good36 : Vm.Good Try.prog 36 E36 := by
  refine evF_good (G := G36) (c := c36) (envCons_good good21 envNil_good) Try.func36 (by kernel_rfl) (by kernel_rfl) (0, 0) (fun args bs rs out t h h2 => ?_)
  unfold E36 at h
  split at h
  · injection h with h
    subst h
    exact ⟨rfl, L36, K36, lp36, (fun r t h => by unfold K36 at h; split at h; (injection h with h; subst h; rfl); cases h), (ev36 _ _).trans h2⟩
  · cases h
/-! ### L.markOpS -/
noncomputable def G37 : Env := envNil
noncomputable def c37 : Code := bodyOf Try.f37
noncomputable def c37_2 : Code := (loopsOf c37).getD 0 .skip
noncomputable def L.markOpS_l0 : Nat → (Int → (List (Int × (Int × Int × Int × Int) × (Int × Int × Int × Int) × Int × Int)) → Option (Int × (List (Int × (Int × Int × Int × Int) × (Int × Int × Int × Int) × Int × Int)))) → Int → Int → (List (Int × (Int × Int × Int × Int) × (Int × Int × Int × Int) × Int × Int)) → Option (Int × (List (Int × (Int × Int × Int × Int) × (Int × Int × Int × Int) × Int × Int)))
  | 0, _, _, _, _ => none
  | m + 1, e2_0, a3, a4, a5 =>
    (bif (decide (a4 < (a5.length : Int))) then
    (bif decide (0 ≤ a4 ∧ a4 < (a5.length : Int)) then
    (let v8 : List (Int × (Int × Int × Int × Int) × (Int × Int × Int × Int) × Int × Int) := (a5.set (Int.toNat a4) (a3, (nthI a5 a4 ((0 : Int), (((0 : Int), ((0 : Int), ((0 : Int), (0 : Int)))), (((0 : Int), ((0 : Int), ((0 : Int), (0 : Int)))), ((0 : Int), (0 : Int)))))).2))
    (let v9 : Int := (IntKind.wrap .i64 (a3 + 1))
    (bif decide (0 ≤ a4 ∧ a4 < (v8.length : Int)) then
    (let v10 : List (Int × (Int × Int × Int × Int) × (Int × Int × Int × Int) × Int × Int) := (v8.set (Int.toNat a4) ((nthI v8 a4 ((0 : Int), (((0 : Int), ((0 : Int), ((0 : Int), (0 : Int)))), (((0 : Int), ((0 : Int), ((0 : Int), (0 : Int)))), ((0 : Int), (0 : Int)))))).1, ((v9, (nthI v8 a4 ((0 : Int), (((0 : Int), ((0 : Int), ((0 : Int), (0 : Int)))), (((0 : Int), ((0 : Int), ((0 : Int), (0 : Int)))), ((0 : Int), (0 : Int)))))).2.1.2), (nthI v8 a4 ((0 : Int), (((0 : Int), ((0 : Int), ((0 : Int), (0 : Int)))), (((0 : Int), ((0 : Int), ((0 : Int), (0 : Int)))), ((0 : Int), (0 : Int)))))).2.2)))
    (let v11 : Int := (IntKind.wrap .i64 (v9 + 1))
    (bif decide (0 ≤ a4 ∧ a4 < (v10.length : Int)) then
    (let v12 : List (Int × (Int × Int × Int × Int) × (Int × Int × Int × Int) × Int × Int) := (v10.set (Int.toNat a4) ((nthI v10 a4 ((0 : Int), (((0 : Int), ((0 : Int), ((0 : Int), (0 : Int)))), (((0 : Int), ((0 : Int), ((0 : Int), (0 : Int)))), ((0 : Int), (0 : Int)))))).1, (((nthI v10 a4 ((0 : Int), (((0 : Int), ((0 : Int), ((0 : Int), (0 : Int)))), (((0 : Int), ((0 : Int), ((0 : Int), (0 : Int)))), ((0 : Int), (0 : Int)))))).2.1.1, (v11, (nthI v10 a4 ((0 : Int), (((0 : Int), ((0 : Int), ((0 : Int), (0 : Int)))), (((0 : Int), ((0 : Int), ((0 : Int), (0 : Int)))), ((0 : Int), (0 : Int)))))).2.1.2.2)), (nthI v10 a4 ((0 : Int), (((0 : Int), ((0 : Int), ((0 : Int), (0 : Int)))), (((0 : Int), ((0 : Int), ((0 : Int), (0 : Int)))), ((0 : Int), (0 : Int)))))).2.2)))
    (let v13 : Int := (IntKind.wrap .i64 (v11 + 1))
    (bif decide (0 ≤ a4 ∧ a4 < (v12.length : Int)) then
    (let v14 : List (Int × (Int × Int × Int × Int) × (Int × Int × Int × Int) × Int × Int) := (v12.set (Int.toNat a4) ((nthI v12 a4 ((0 : Int), (((0 : Int), ((0 : Int), ((0 : Int), (0 : Int)))), (((0 : Int), ((0 : Int), ((0 : Int), (0 : Int)))), ((0 : Int), (0 : Int)))))).1, (((nthI v12 a4 ((0 : Int), (((0 : Int), ((0 : Int), ((0 : Int), (0 : Int)))), (((0 : Int), ((0 : Int), ((0 : Int), (0 : Int)))), ((0 : Int), (0 : Int)))))).2.1.1, ((nthI v12 a4 ((0 : Int), (((0 : Int), ((0 : Int), ((0 : Int), (0 : Int)))), (((0 : Int), ((0 : Int), ((0 : Int), (0 : Int)))), ((0 : Int), (0 : Int)))))).2.1.2.1, (v13, (nthI v12 a4 ((0 : Int), (((0 : Int), ((0 : Int), ((0 : Int), (0 : Int)))), (((0 : Int), ((0 : Int), ((0 : Int), (0 : Int)))), ((0 : Int), (0 : Int)))))).2.1.2.2.2))), (nthI v12 a4 ((0 : Int), (((0 : Int), ((0 : Int), ((0 : Int), (0 : Int)))), (((0 : Int), ((0 : Int), ((0 : Int), (0 : Int)))), ((0 : Int), (0 : Int)))))).2.2)))
    (let v15 : Int := (IntKind.wrap .i64 (v13 + 1))
    (bif decide (0 ≤ a4 ∧ a4 < (v14.length : Int)) then
    (let v16 : List (Int × (Int × Int × Int × Int) × (Int × Int × Int × Int) × Int × Int) := (v14.set (Int.toNat a4) ((nthI v14 a4 ((0 : Int), (((0 : Int), ((0 : Int), ((0 : Int), (0 : Int)))), (((0 : Int), ((0 : Int), ((0 : Int), (0 : Int)))), ((0 : Int), (0 : Int)))))).1, (((nthI v14 a4 ((0 : Int), (((0 : Int), ((0 : Int), ((0 : Int), (0 : Int)))), (((0 : Int), ((0 : Int), ((0 : Int), (0 : Int)))), ((0 : Int), (0 : Int)))))).2.1.1, ((nthI v14 a4 ((0 : Int), (((0 : Int), ((0 : Int), ((0 : Int), (0 : Int)))), (((0 : Int), ((0 : Int), ((0 : Int), (0 : Int)))), ((0 : Int), (0 : Int)))))).2.1.2.1, ((nthI v14 a4 ((0 : Int), (((0 : Int), ((0 : Int), ((0 : Int), (0 : Int)))), (((0 : Int), ((0 : Int), ((0 : Int), (0 : Int)))), ((0 : Int), (0 : Int)))))).2.1.2.2.1, v15))), (nthI v14 a4 ((0 : Int), (((0 : Int), ((0 : Int), ((0 : Int), (0 : Int)))), (((0 : Int), ((0 : Int), ((0 : Int), (0 : Int)))), ((0 : Int), (0 : Int)))))).2.2)))
    (let v17 : Int := (IntKind.wrap .i64 (v15 + 1))
    (bif decide (0 ≤ a4 ∧ a4 < (v16.length : Int)) then
    (let v18 : List (Int × (Int × Int × Int × Int) × (Int × Int × Int × Int) × Int × Int) := (v16.set (Int.toNat a4) ((nthI v16 a4 ((0 : Int), (((0 : Int), ((0 : Int), ((0 : Int), (0 : Int)))), (((0 : Int), ((0 : Int), ((0 : Int), (0 : Int)))), ((0 : Int), (0 : Int)))))).1, ((nthI v16 a4 ((0 : Int), (((0 : Int), ((0 : Int), ((0 : Int), (0 : Int)))), (((0 : Int), ((0 : Int), ((0 : Int), (0 : Int)))), ((0 : Int), (0 : Int)))))).2.1, ((v17, (nthI v16 a4 ((0 : Int), (((0 : Int), ((0 : Int), ((0 : Int), (0 : Int)))), (((0 : Int), ((0 : Int), ((0 : Int), (0 : Int)))), ((0 : Int), (0 : Int)))))).2.2.1.2), (nthI v16 a4 ((0 : Int), (((0 : Int), ((0 : Int), ((0 : Int), (0 : Int)))), (((0 : Int), ((0 : Int), ((0 : Int), (0 : Int)))), ((0 : Int), (0 : Int)))))).2.2.2))))
    (let v19 : Int := (IntKind.wrap .i64 (v17 + 1))
    (bif decide (0 ≤ a4 ∧ a4 < (v18.length : Int)) then
    (let v20 : List (Int × (Int × Int × Int × Int) × (Int × Int × Int × Int) × Int × Int) := (v18.set (Int.toNat a4) ((nthI v18 a4 ((0 : Int), (((0 : Int), ((0 : Int), ((0 : Int), (0 : Int)))), (((0 : Int), ((0 : Int), ((0 : Int), (0 : Int)))), ((0 : Int), (0 : Int)))))).1, ((nthI v18 a4 ((0 : Int), (((0 : Int), ((0 : Int), ((0 : Int), (0 : Int)))), (((0 : Int), ((0 : Int), ((0 : Int), (0 : Int)))), ((0 : Int), (0 : Int)))))).2.1, (((nthI v18 a4 ((0 : Int), (((0 : Int), ((0 : Int), ((0 : Int), (0 : Int)))), (((0 : Int), ((0 : Int), ((0 : Int), (0 : Int)))), ((0 : Int), (0 : Int)))))).2.2.1.1, (v19, (nthI v18 a4 ((0 : Int), (((0 : Int), ((0 : Int), ((0 : Int), (0 : Int)))), (((0 : Int), ((0 : Int), ((0 : Int), (0 : Int)))), ((0 : Int), (0 : Int)))))).2.2.1.2.2)), (nthI v18 a4 ((0 : Int), (((0 : Int), ((0 : Int), ((0 : Int), (0 : Int)))), (((0 : Int), ((0 : Int), ((0 : Int), (0 : Int)))), ((0 : Int), (0 : Int)))))).2.2.2))))
    (let v21 : Int := (IntKind.wrap .i64 (v19 + 1))
    (bif decide (0 ≤ a4 ∧ a4 < (v20.length : Int)) then
    (let v22 : List (Int × (Int × Int × Int × Int) × (Int × Int × Int × Int) × Int × Int) := (v20.set (Int.toNat a4) ((nthI v20 a4 ((0 : Int), (((0 : Int), ((0 : Int), ((0 : Int), (0 : Int)))), (((0 : Int), ((0 : Int), ((0 : Int), (0 : Int)))), ((0 : Int), (0 : Int)))))).1, ((nthI v20 a4 ((0 : Int), (((0 : Int), ((0 : Int), ((0 : Int), (0 : Int)))), (((0 : Int), ((0 : Int), ((0 : Int), (0 : Int)))), ((0 : Int), (0 : Int)))))).2.1, (((nthI v20 a4 ((0 : Int), (((0 : Int), ((0 : Int), ((0 : Int), (0 : Int)))), (((0 : Int), ((0 : Int), ((0 : Int), (0 : Int)))), ((0 : Int), (0 : Int)))))).2.2.1.1, ((nthI v20 a4 ((0 : Int), (((0 : Int), ((0 : Int), ((0 : Int), (0 : Int)))), (((0 : Int), ((0 : Int), ((0 : Int), (0 : Int)))), ((0 : Int), (0 : Int)))))).2.2.1.2.1, (v21, (nthI v20 a4 ((0 : Int), (((0 : Int), ((0 : Int), ((0 : Int), (0 : Int)))), (((0 : Int), ((0 : Int), ((0 : Int), (0 : Int)))), ((0 : Int), (0 : Int)))))).2.2.1.2.2.2))), (nthI v20 a4 ((0 : Int), (((0 : Int), ((0 : Int), ((0 : Int), (0 : Int)))), (((0 : Int), ((0 : Int), ((0 : Int), (0 : Int)))), ((0 : Int), (0 : Int)))))).2.2.2))))
    (let v23 : Int := (IntKind.wrap .i64 (v21 + 1))
    (bif decide (0 ≤ a4 ∧ a4 < (v22.length : Int)) then
    (let v24 : List (Int × (Int × Int × Int × Int) × (Int × Int × Int × Int) × Int × Int) := (v22.set (Int.toNat a4) ((nthI v22 a4 ((0 : Int), (((0 : Int), ((0 : Int), ((0 : Int), (0 : Int)))), (((0 : Int), ((0 : Int), ((0 : Int), (0 : Int)))), ((0 : Int), (0 : Int)))))).1, ((nthI v22 a4 ((0 : Int), (((0 : Int), ((0 : Int), ((0 : Int), (0 : Int)))), (((0 : Int), ((0 : Int), ((0 : Int), (0 : Int)))), ((0 : Int), (0 : Int)))))).2.1, (((nthI v22 a4 ((0 : Int), (((0 : Int), ((0 : Int), ((0 : Int), (0 : Int)))), (((0 : Int), ((0 : Int), ((0 : Int), (0 : Int)))), ((0 : Int), (0 : Int)))))).2.2.1.1, ((nthI v22 a4 ((0 : Int), (((0 : Int), ((0 : Int), ((0 : Int), (0 : Int)))), (((0 : Int), ((0 : Int), ((0 : Int), (0 : Int)))), ((0 : Int), (0 : Int)))))).2.2.1.2.1, ((nthI v22 a4 ((0 : Int), (((0 : Int), ((0 : Int), ((0 : Int), (0 : Int)))), (((0 : Int), ((0 : Int), ((0 : Int), (0 : Int)))), ((0 : Int), (0 : Int)))))).2.2.1.2.2.1, v23))), (nthI v22 a4 ((0 : Int), (((0 : Int), ((0 : Int), ((0 : Int), (0 : Int)))), (((0 : Int), ((0 : Int), ((0 : Int), (0 : Int)))), ((0 : Int), (0 : Int)))))).2.2.2))))
    (let v25 : Int := (IntKind.wrap .i64 (v23 + 1))
    (bif decide (0 ≤ a4 ∧ a4 < (v24.length : Int)) then
    (let v26 : List (Int × (Int × Int × Int × Int) × (Int × Int × Int × Int) × Int × Int) := (v24.set (Int.toNat a4) ((nthI v24 a4 ((0 : Int), (((0 : Int), ((0 : Int), ((0 : Int), (0 : Int)))), (((0 : Int), ((0 : Int), ((0 : Int), (0 : Int)))), ((0 : Int), (0 : Int)))))).1, ((nthI v24 a4 ((0 : Int), (((0 : Int), ((0 : Int), ((0 : Int), (0 : Int)))), (((0 : Int), ((0 : Int), ((0 : Int), (0 : Int)))), ((0 : Int), (0 : Int)))))).2.1, ((nthI v24 a4 ((0 : Int), (((0 : Int), ((0 : Int), ((0 : Int), (0 : Int)))), (((0 : Int), ((0 : Int), ((0 : Int), (0 : Int)))), ((0 : Int), (0 : Int)))))).2.2.1, (v25, (nthI v24 a4 ((0 : Int), (((0 : Int), ((0 : Int), ((0 : Int), (0 : Int)))), (((0 : Int), ((0 : Int), ((0 : Int), (0 : Int)))), ((0 : Int), (0 : Int)))))).2.2.2.2)))))
    (let v27 : Int := (IntKind.wrap .i64 (v25 + 1))
    (bif decide (0 ≤ a4 ∧ a4 < (v26.length : Int)) then
    (let v28 : List (Int × (Int × Int × Int × Int) × (Int × Int × Int × Int) × Int × Int) := (v26.set (Int.toNat a4) ((nthI v26 a4 ((0 : Int), (((0 : Int), ((0 : Int), ((0 : Int), (0 : Int)))), (((0 : Int), ((0 : Int), ((0 : Int), (0 : Int)))), ((0 : Int), (0 : Int)))))).1, ((nthI v26 a4 ((0 : Int), (((0 : Int), ((0 : Int), ((0 : Int), (0 : Int)))), (((0 : Int), ((0 : Int), ((0 : Int), (0 : Int)))), ((0 : Int), (0 : Int)))))).2.1, ((nthI v26 a4 ((0 : Int), (((0 : Int), ((0 : Int), ((0 : Int), (0 : Int)))), (((0 : Int), ((0 : Int), ((0 : Int), (0 : Int)))), ((0 : Int), (0 : Int)))))).2.2.1, ((nthI v26 a4 ((0 : Int), (((0 : Int), ((0 : Int), ((0 : Int), (0 : Int)))), (((0 : Int), ((0 : Int), ((0 : Int), (0 : Int)))), ((0 : Int), (0 : Int)))))).2.2.2.1, v27)))))
    (L.markOpS_l0 m e2_0 (IntKind.wrap .i64 (v27 + 1)) (IntKind.wrap .i64 (a4 + 1)) v28))
    else
    none)))
    else
    none)))
    else
    none)))
    else
    none)))
    else
    none)))
    else
    none)))
    else
    none)))
    else
    none)))
    else
    none)))
    else
    none)))
    else
    none)
    else
    (e2_0 a3 a5))
noncomputable def L.markOpS (a1 : Int) (a2 : List (Int × (Int × Int × Int × Int) × (Int × Int × Int × Int) × Int × Int)) : Option (Int × (List (Int × (Int × Int × Int × Int) × (Int × Int × Int × Int) × Int × Int))) :=
(L.markOpS_l0 fu (fun y31 y32 =>
(some (y31, y32))) a1 0 a2)
noncomputable def H37_2 : LoopH := ⟨⟨((.one (.sl 0)) :: hh :: (hu 3 (hh :: (hu 92 [])))), [], [(42, (.pair (.int .i64) (.pair (.pair (.int .i64) (.pair (.int .i64) (.pair (.int .i64) (.int .i64)))) (.pair (.pair (.int .i64) (.pair (.int .i64) (.pair (.int .i64) (.int .i64)))) (.pair (.int .i64) (.int .i64))))), .own)]⟩, [2, 3, 4, 6, 7, 8, 9, 10, 11, 12, 13, 14, 15, 16, 17, 18, 19, 20, 21, 22, 23, 24, 25, 26, 27, 28, 29, 30, 31, 32, 33, 34, 35, 36, 37, 38, 39, 40, 41, 42, 43, 44, 45, 46, 47, 48, 49, 50, 51, 52, 53, 54, 55, 56, 57, 58, 59, 60, 61, 62, 63, 64, 65, 66, 67, 68, 69, 70, 71, 72, 73, 74, 75, 76, 77, 78, 79, 80, 81, 82, 83, 84, 85, 86, 87, 88, 89, 90, 91, 92, 93, 94, 95, 96, 97], [], [0, 2, 3, 5, 6, 7, 8, 9, 10, 11, 12, 13, 14, 15, 16, 17, 18, 19, 20, 21, 22, 23, 24, 25, 26, 27, 28, 29, 30, 31, 32, 33, 34, 35, 36, 37, 38, 39, 40, 41, 42, 43, 44, 45, 46, 47, 48, 49, 50, 51, 52, 53, 54, 55, 56, 57, 58, 59, 60, 61, 62, 63, 64, 65, 66, 67, 68, 69, 70, 71, 72, 73, 74, 75, 76, 77, 78, 79, 80, 81, 82, 83, 84, 85, 86, 87, 88, 89, 90, 91, 92, 93, 94, 95, 96, 97]⟩
noncomputable def E37_2 (m : Nat) (ps : List Prm) (k : Kont (Int × (List (Int × (Int × Int × Int × Int) × (Int × Int × Int × Int) × Int × Int)))) : Option (Int × (List (Int × (Int × Int × Int × Int) × (Int × Int × Int × Int) × Int × Int))) :=
  match ps with
  | [.v (.int .i64 a3), .v (.int .i64 a4), .row (.pair (.int .i64) (.pair (.pair (.int .i64) (.pair (.int .i64) (.pair (.int .i64) (.int .i64)))) (.pair (.pair (.int .i64) (.pair (.int .i64) (.pair (.int .i64) (.int .i64)))) (.pair (.int .i64) (.int .i64))))) a5] => L.markOpS_l0 m (fun z35 z36 => k (.exit 0) (⟨((.s1 (.one (.unk))) :: (vi z35) :: (vu 96 [])), [], [⟨42, (.pair (.int .i64) (.pair (.pair (.int .i64) (.pair (.int .i64) (.pair (.int .i64) (.int .i64)))) (.pair (.pair (.int .i64) (.pair (.int .i64) (.pair (.int .i64) (.int .i64)))) (.pair (.int .i64) (.int .i64))))), z36, .own⟩]⟩ : St)) a3 a4 a5
  | _ => none
noncomputable def S37_2 (a3 a4 : Int) (a5 : List (Int × (Int × Int × Int × Int) × (Int × Int × Int × Int) × Int × Int)) : St := (⟨((vl 0) :: (vi a3) :: (vu 3 ((vi a4) :: (vu 92 [])))), [], [⟨42, (.pair (.int .i64) (.pair (.pair (.int .i64) (.pair (.int .i64) (.pair (.int .i64) (.int .i64)))) (.pair (.pair (.int .i64) (.pair (.int .i64) (.pair (.int .i64) (.int .i64)))) (.pair (.int .i64) (.int .i64))))), a5, .own⟩]⟩ : St)
theorem ev37_2 (m : Nat) (k : Kont (Int × (List (Int × (Int × Int × Int × Int) × (Int × Int × Int × Int) × Int × Int)))) (a3 a4 : Int) (a5 : List (Int × (Int × Int × Int × Int) × (Int × Int × Int × Int) × Int × Int)) : evC Try.prog G37 loopNil c37_2 (S37_2 a3 a4 a5) (turn Try.prog (0, 1) H37_2 (E37_2 m) k) = E37_2 (m + 1) [.v (.int .i64 a3), .v (.int .i64 a4), .row (.pair (.int .i64) (.pair (.pair (.int .i64) (.pair (.int .i64) (.pair (.int .i64) (.int .i64)))) (.pair (.pair (.int .i64) (.pair (.int .i64) (.pair (.int .i64) (.int .i64)))) (.pair (.int .i64) (.int .i64))))) a5] k := by kernel_rfl
theorem ok37_2 (m : Nat) : LoopOk Try.prog (0, 1) c37_2 (enter Try.prog (0, 1) H37_2 (E37_2 m)) := by
  refine loop_ok (G := G37) (L := loopNil) envNil_good (by intro x hx; simp [show loopsOf c37_2 = [] from by kernel_rfl] at hx) (fun ps k => by unfold E37_2; split <;> rfl) (fun m ps k r h => ?_) m
  have h0 := h
  unfold E37_2 at h
  split at h
  · exact ⟨S37_2 _ _ _, by kernel_rfl, (ev37_2 m k _ _ _).trans h0⟩
  · cases h
noncomputable def L37 : LEnv (Int × (List (Int × (Int × Int × Int × Int) × (Int × Int × Int × Int) × Int × Int))) := (loopCons 2 (enter Try.prog (0, 1) H37_2 (E37_2 fu)) loopNil)
theorem lq37 : loopsOf c37 = [c37_2] := by kernel_rfl
theorem fr37_2 : firstReg c37_2 = some 2 := by kernel_rfl
theorem le37_2 : L37 2 = enter Try.prog (0, 1) H37_2 (E37_2 fu) := by kernel_rfl
theorem lm37 : ∀ x ∈ [c37_2], ∀ id, firstReg x = some id → LoopOk Try.prog (0, 1) x (L37 id) := (loops_cons fr37_2 le37_2 (ok37_2 fu) loops_nil)
theorem lp37 : ∀ x ∈ loopsOf c37, ∀ id, firstReg x = some id → LoopOk Try.prog (0, 1) x (L37 id) := loops_eq lq37 lm37
noncomputable def R37 (x : Int × (List (Int × (Int × Int × Int × Int) × (Int × Int × Int × Int) × Int × Int))) : Res := ⟨[.one (ai x.1)], [], [⟨42, (.pair (.int .i64) (.pair (.pair (.int .i64) (.pair (.int .i64) (.pair (.int .i64) (.int .i64)))) (.pair (.pair (.int .i64) (.pair (.int .i64) (.pair (.int .i64) (.int .i64)))) (.pair (.int .i64) (.int .i64))))), x.2, .own⟩]⟩
noncomputable def K37 (r : Res) : Option (Int × (List (Int × (Int × Int × Int × Int) × (Int × Int × Int × Int) × Int × Int))) :=
  match r with
  | ⟨[.one (.val (.int .i64 v1))], [], [⟨42, (.pair (.int .i64) (.pair (.pair (.int .i64) (.pair (.int .i64) (.pair (.int .i64) (.int .i64)))) (.pair (.pair (.int .i64) (.pair (.int .i64) (.pair (.int .i64) (.int .i64)))) (.pair (.int .i64) (.int .i64))))), v2, .own⟩]⟩ => some (v1, v2)
  | _ => none
noncomputable def E37 : Fun2 := fun args bs rs =>
  match args, bs, rs with
  | [.s1 (.one (.sl 0)), .s1 (.one (.val (.int .i64 a1)))], [], [⟨42, (.pair (.int .i64) (.pair (.pair (.int .i64) (.pair (.int .i64) (.pair (.int .i64) (.int .i64)))) (.pair (.pair (.int .i64) (.pair (.int .i64) (.pair (.int .i64) (.int .i64)))) (.pair (.int .i64) (.int .i64))))), a2, .own⟩] => some ⟨Int × (List (Int × (Int × Int × Int × Int) × (Int × Int × Int × Int) × Int × Int)), L.markOpS a1 a2, R37⟩
  | _, _, _ => none
theorem ev37 (a1 : Int) (a2 : List (Int × (Int × Int × Int × Int) × (Int × Int × Int × Int) × Int × Int)) : evF Try.prog G37 L37 (0, 1) Try.f37 c37 [vl 0, vi a1] [] [⟨42, (.pair (.int .i64) (.pair (.pair (.int .i64) (.pair (.int .i64) (.pair (.int .i64) (.int .i64)))) (.pair (.pair (.int .i64) (.pair (.int .i64) (.pair (.int .i64) (.int .i64)))) (.pair (.int .i64) (.int .i64))))), a2, .own⟩] K37 = L.markOpS a1 a2 := by kernel_rfl
theorem good37 : Vm.Good Try.prog 37 E37 := by
  refine evF_good (G := G37) (c := c37) envNil_good Try.func37 (by kernel_rfl) (by kernel_rfl) (0, 1) (fun args bs rs out t h h2 => ?_)
  unfold E37 at h
  split at h
  · injection h with h
    subst h
    exact ⟨rfl, L37, K37, lp37, (fun r t h => by unfold K37 at h; split at h; (injection h with h; subst h; rfl); cases h), (ev37 _ _).trans h2⟩
  · cases h
/-! ### L.markByteS -/
noncomputable def G38 : Env := envNil
noncomputable def c38 : Code := bodyOf Try.f38
noncomputable def c38_2 : Code := (loopsOf c38).getD 0 .skip
noncomputable def L.markByteS_l0 : Nat → (Int → List Int → Option (Int × List Int)) → Int → Int → List Int → Option (Int × List Int)
  | 0, _, _, _, _ => none
  | m + 1, e2_0, a3, a4, a5 =>
    (bif (decide (a4 < (a5.length : Int))) then
    (bif decide (0 ≤ a4 ∧ a4 < (a5.length : Int)) then
    (L.markByteS_l0 m e2_0 (IntKind.wrap .i64 (a3 + 1)) (IntKind.wrap .i64 (a4 + 1)) (a5.set (Int.toNat a4) (IntKind.wrap .u8 a3)))
    else
    none)
    else
    (e2_0 a3 a5))
noncomputable def L.markByteS (a1 : Int) (a2 : List Int) : Option (Int × List Int) :=
(L.markByteS_l0 fu (fun y12 y13 =>
(some (y12, y13))) a1 0 a2)
noncomputable def H38_2 : LoopH := ⟨⟨((.one (.sl 0)) :: hh :: (hu 3 (hh :: (hu 14 [])))), [], [(5, (.int .u8), .own)]⟩, [2, 3, 4, 6, 7, 8, 9, 10, 11, 12, 13, 14, 15, 16, 17, 18, 19], [], [0, 2, 3, 5, 6, 7, 8, 9, 10, 11, 12, 13, 14, 15, 16, 17, 18, 19]⟩
noncomputable def E38_2 (m : Nat) (ps : List Prm) (k : Kont (Int × List Int)) : Option (Int × List Int) :=
  match ps with
  | [.v (.int .i64 a3), .v (.int .i64 a4), .row (.int .u8) a5] => L.markByteS_l0 m (fun z16 z17 => k (.exit 0) (⟨((.s1 (.one (.unk))) :: (vi z16) :: (vu 18 [])), [], [⟨5, (.int .u8), z17, .own⟩]⟩ : St)) a3 a4 a5
  | _ => none
noncomputable def S38_2 (a3 a4 : Int) (a5 : List Int) : St := (⟨((vl 0) :: (vi a3) :: (vu 3 ((vi a4) :: (vu 14 [])))), [], [⟨5, (.int .u8), a5, .own⟩]⟩ : St)
theorem ev38_2 (m : Nat) (k : Kont (Int × List Int)) (a3 a4 : Int) (a5 : List Int) : evC Try.prog G38 loopNil c38_2 (S38_2 a3 a4 a5) (turn Try.prog (0, 1) H38_2 (E38_2 m) k) = E38_2 (m + 1) [.v (.int .i64 a3), .v (.int .i64 a4), .row (.int .u8) a5] k := by kernel_rfl
theorem ok38_2 (m : Nat) : LoopOk Try.prog (0, 1) c38_2 (enter Try.prog (0, 1) H38_2 (E38_2 m)) := by
  refine loop_ok (G := G38) (L := loopNil) envNil_good (by intro x hx; simp [show loopsOf c38_2 = [] from by kernel_rfl] at hx) (fun ps k => by unfold E38_2; split <;> rfl) (fun m ps k r h => ?_) m
  have h0 := h
  unfold E38_2 at h
  split at h
  · exact ⟨S38_2 _ _ _, by kernel_rfl, (ev38_2 m k _ _ _).trans h0⟩
  · cases h
noncomputable def L38 : LEnv (Int × List Int) := (loopCons 2 (enter Try.prog (0, 1) H38_2 (E38_2 fu)) loopNil)
theorem lq38 : loopsOf c38 = [c38_2] := by kernel_rfl
theorem fr38_2 : firstReg c38_2 = some 2 := by kernel_rfl
theorem le38_2 : L38 2 = enter Try.prog (0, 1) H38_2 (E38_2 fu) := by kernel_rfl
theorem lm38 : ∀ x ∈ [c38_2], ∀ id, firstReg x = some id → LoopOk Try.prog (0, 1) x (L38 id) := (loops_cons fr38_2 le38_2 (ok38_2 fu) loops_nil)
theorem lp38 : ∀ x ∈ loopsOf c38, ∀ id, firstReg x = some id → LoopOk Try.prog (0, 1) x (L38 id) := loops_eq lq38 lm38
noncomputable def R38 (x : Int × List Int) : Res := ⟨[.one (ai x.1)], [], [⟨5, (.int .u8), x.2, .own⟩]⟩
noncomputable def K38 (r : Res) : Option (Int × List Int) :=
  match r with
  | ⟨[.one (.val (.int .i64 v1))], [], [⟨5, (.int .u8), v2, .own⟩]⟩ => some (v1, v2)
  | _ => none
noncomputable def E38 : Fun2 := fun args bs rs =>
  match args, bs, rs with
  | [.s1 (.one (.sl 0)), .s1 (.one (.val (.int .i64 a1)))], [], [⟨5, (.int .u8), a2, .own⟩] => some ⟨Int × List Int, L.markByteS a1 a2, R38⟩
  | _, _, _ => none
theorem ev38 (a1 : Int) (a2 : List Int) : evF Try.prog G38 L38 (0, 1) Try.f38 c38 [vl 0, vi a1] [] [⟨5, (.int .u8), a2, .own⟩] K38 = L.markByteS a1 a2 := by kernel_rfl
theorem good38 : Vm.Good Try.prog 38 E38 := by
  refine evF_good (G := G38) (c := c38) envNil_good Try.func38 (by kernel_rfl) (by kernel_rfl) (0, 1) (fun args bs rs out t h h2 => ?_)
  unfold E38 at h
  split at h
  · injection h with h
    subst h
    exact ⟨rfl, L38, K38, lp38, (fun r t h => by unfold K38 at h; split at h; (injection h with h; subst h; rfl); cases h), (ev38 _ _).trans h2⟩
  · cases h
/-! ### L.heldByteS -/
noncomputable def G39 : Env := envNil
noncomputable def c39 : Code := bodyOf Try.f39
noncomputable def c39_2 : Code := (loopsOf c39).getD 0 .skip
noncomputable def L.heldByteS_l0 : Nat → (Int → Int → Option Int) → (Int → Option Int) → Int → Int → List Int → Option Int
  | 0, _, _, _, _, _ => none
  | m + 1, e2_0, e2_1, a3, a4, a5 =>
    (bif (decide (a4 < (a5.length : Int))) then
    (bif decide (0 ≤ a4 ∧ a4 < (a5.length : Int)) then
    (bif ((nthI a5 a4 (0 : Int)) != (IntKind.wrap .u8 a3)) then
    (e2_0 a3 (-1))
    else
    (L.heldByteS_l0 m e2_0 e2_1 (IntKind.wrap .i64 (a3 + 1)) (IntKind.wrap .i64 (a4 + 1)) a5))
    else
    none)
    else
    (e2_1 a3))
noncomputable def L.heldByteS (a1 : Int) (a2 : List Int) : Option Int :=
(L.heldByteS_l0 fu (fun y12 y13 =>
(some y13)) (fun y14 =>
(some y14)) a1 0 a2)
noncomputable def H39_2 : LoopH := ⟨⟨((.one (.sl 0)) :: hh :: (hu 3 (hh :: (hu 16 [])))), [], [(5, (.int .u8), .ro)]⟩, [2, 3, 4, 6, 7, 8, 9, 10, 11, 12, 13, 14, 15, 16, 17, 18, 19, 20, 21], [], [0, 2, 3, 5, 6, 7, 8, 9, 10, 11, 12, 13, 14, 15, 16, 17, 18, 19, 20, 21]⟩
noncomputable def E39_2 (m : Nat) (ps : List Prm) (k : Kont Int) : Option Int :=
  match ps with
  | [.v (.int .i64 a3), .v (.int .i64 a4), .row (.int .u8) a5] => L.heldByteS_l0 m (fun z18 z19 => k .ret (⟨((.s1 (.one (.unk))) :: (vi z18) :: (vu 2 ((vi z19) :: (vu 17 [])))), [], []⟩ : St)) (fun z20 => k (.exit 0) (⟨((.s1 (.one (.unk))) :: (vi z20) :: (vu 20 [])), [], []⟩ : St)) a3 a4 a5
  | _ => none
noncomputable def S39_2 (a3 a4 : Int) (a5 : List Int) : St := (⟨((vl 0) :: (vi a3) :: (vu 3 ((vi a4) :: (vu 16 [])))), [], [⟨5, (.int .u8), a5, .ro⟩]⟩ : St)
theorem ev39_2 (m : Nat) (k : Kont Int) (a3 a4 : Int) (a5 : List Int) : evC Try.prog G39 loopNil c39_2 (S39_2 a3 a4 a5) (turn Try.prog (0, 0) H39_2 (E39_2 m) k) = E39_2 (m + 1) [.v (.int .i64 a3), .v (.int .i64 a4), .row (.int .u8) a5] k := by kernel_rfl
theorem ok39_2 (m : Nat) : LoopOk Try.prog (0, 0) c39_2 (enter Try.prog (0, 0) H39_2 (E39_2 m)) := by
  refine loop_ok (G := G39) (L := loopNil) envNil_good (by intro x hx; simp [show loopsOf c39_2 = [] from by kernel_rfl] at hx) (fun ps k => by unfold E39_2; split <;> rfl) (fun m ps k r h => ?_) m
  have h0 := h
  unfold E39_2 at h
  split at h
  · exact ⟨S39_2 _ _ _, by kernel_rfl, (ev39_2 m k _ _ _).trans h0⟩
  · cases h
noncomputable def L39 : LEnv Int := (loopCons 2 (enter Try.prog (0, 0) H39_2 (E39_2 fu)) loopNil)
theorem lq39 : loopsOf c39 = [c39_2] := by kernel_rfl
theorem fr39_2 : firstReg c39_2 = some 2 := by kernel_rfl
theorem le39_2 : L39 2 = enter Try.prog (0, 0) H39_2 (E39_2 fu) := by kernel_rfl
theorem lm39 : ∀ x ∈ [c39_2], ∀ id, firstReg x = some id → LoopOk Try.prog (0, 0) x (L39 id) := (loops_cons fr39_2 le39_2 (ok39_2 fu) loops_nil)
theorem lp39 : ∀ x ∈ loopsOf c39, ∀ id, firstReg x = some id → LoopOk Try.prog (0, 0) x (L39 id) := loops_eq lq39 lm39
noncomputable def R39 (x : Int) : Res := ⟨[.one (ai x)], [], []⟩
noncomputable def K39 (r : Res) : Option Int :=
  match r with
  | ⟨[.one (.val (.int .i64 v1))], [], []⟩ => some (v1)
  | _ => none
noncomputable def E39 : Fun2 := fun args bs rs =>
  match args, bs, rs with
  | [.s1 (.one (.sl 0)), .s1 (.one (.val (.int .i64 a1)))], [], [⟨5, (.int .u8), a2, .ro⟩] => some ⟨Int, L.heldByteS a1 a2, R39⟩
  | _, _, _ => none
theorem ev39 (a1 : Int) (a2 : List Int) : evF Try.prog G39 L39 (0, 0) Try.f39 c39 [vl 0, vi a1] [] [⟨5, (.int .u8), a2, .ro⟩] K39 = L.heldByteS a1 a2 := by kernel_rfl
theorem good39 : Vm.Good Try.prog 39 E39 := by
  refine evF_good (G := G39) (c := c39) envNil_good Try.func39 (by kernel_rfl) (by kernel_rfl) (0, 0) (fun args bs rs out t h h2 => ?_)
  unfold E39 at h
  split at h
  · injection h with h
    subst h
    exact ⟨rfl, L39, K39, lp39, (fun r t h => by unfold K39 at h; split at h; (injection h with h; subst h; rfl); cases h), (ev39 _ _).trans h2⟩
  · cases h
/-! ### L.FnExactLogOf -/
noncomputable def G7 : Env := (envCons 32 [] E32 (envCons 34 [] E34 (envCons 33 [] E33 (envCons 35 [] E35 (envCons 22 [] E22 (envCons 36 [] E36 (envCons 37 [0] E37 (envCons 38 [0] E38 (envCons 39 [] E39 envNil)))))))))
noncomputable def c7 : Code := bodyOf Try.f7
noncomputable def L.FnExactLogOf (a1 : List (Int × (Int × Int × Int × Int) × (Int × Int × Int × Int) × Int × Int)) : Option Bool :=
(Option.bind (L.szOpS 1048576 a1) fun r2 =>
(bif (decide (r2 < 0)) then
(some true)
else
(Option.bind (L.toOpS a1) fun r4 =>
(Option.bind (S.LogOf r4) fun r5 =>
(Option.bind (L.toOpS a1) fun r6 =>
(Option.bind (I.LogOf r6) fun r7 =>
(Option.bind (L.eqByteS r7.2 r5.2) fun r8 =>
(bif (!r8) then
(some false)
else
(bif (!(r7.1 == r5.1)) then
(some false)
else
(Option.bind (L.toOpS a1) fun r10 =>
(Option.bind (L.eqOpS r6 r10) fun r11 =>
(bif (!r11) then
(some false)
else
(Option.bind (L.markOpS 1 r6) fun r12 =>
(bif (decide (r12.1 < 0)) then
(some false)
else
(Option.bind (L.eqByteS r7.2 r5.2) fun r14 =>
(bif (!r14) then
(some false)
else
(bif (!(r7.1 == r5.1)) then
(some false)
else
(Option.bind (L.markByteS 1 r7.2) fun r16 =>
(Option.bind (L.heldByteS 1 r16.2) fun r17 =>
(bif (decide (r17 < 0)) then
(some false)
else
(bif (r17 != r16.1) then
(some false)
else
(Option.bind (L.toOpS a1) fun r19 =>
(Option.bind (I.LogOf r19) fun r20 =>
(Option.bind (L.eqByteS r20.2 r5.2) fun r21 =>
(bif (!r21) then
(some false)
else
(bif (!(r20.1 == r5.1)) then
(some false)
else
(Option.bind (L.heldByteS 1 r16.2) fun r23 =>
(bif (decide (r23 < 0)) then
(some false)
else
(bif (r23 != r16.1) then
(some false)
else
(some true))))))))))))))))))))))))))))))
noncomputable def R7 (x : Bool) : Res := ⟨[.one (ab x)], [], []⟩
noncomputable def K7 (r : Res) : Option Bool :=
  match r with
  | ⟨[.one (.val (.bool v1))], [], []⟩ => some (v1)
  | _ => none
noncomputable def E7 : Fun2 := fun args bs rs =>
  match args, bs, rs with
  | [.s1 (.one (.sl 0))], [], [⟨148, (.pair (.int .i64) (.pair (.pair (.int .i64) (.pair (.int .i64) (.pair (.int .i64) (.int .i64)))) (.pair (.pair (.int .i64) (.pair (.int .i64) (.pair (.int .i64) (.int .i64)))) (.pair (.int .i64) (.int .i64))))), a1, .ro⟩] => some ⟨Bool, L.FnExactLogOf a1, R7⟩
  | _, _, _ => none
theorem ev7 (a1 : List (Int × (Int × Int × Int × Int) × (Int × Int × Int × Int) × Int × Int)) : evF Try.prog G7 loopNil (0, 0) Try.f7 c7 [vl 0] [] [⟨148, (.pair (.int .i64) (.pair (.pair (.int .i64) (.pair (.int .i64) (.pair (.int .i64) (.int .i64)))) (.pair (.pair (.int .i64) (.pair (.int .i64) (.pair (.int .i64) (.int .i64)))) (.pair (.int .i64) (.int .i64))))), a1, .ro⟩] K7 = L.FnExactLogOf a1 := by kernel_rfl
theorem good7 : Vm.Good Try.prog 7 E7 := by
  refine evF_good (G := G7) (c := c7) (envCons_good good32 (envCons_good good34 (envCons_good good33 (envCons_good good35 (envCons_good good22 (envCons_good good36 (envCons_good good37 (envCons_good good38 (envCons_good good39 envNil_good))))))))) Try.func7 (by kernel_rfl) (by kernel_rfl) (0, 0) (fun args bs rs out t h h2 => ?_)
  unfold E7 at h
  split at h
  · injection h with h
    subst h
    exact ⟨rfl, loopNil, K7, (by intro x hx; simp [show loopsOf c7 = [] from by kernel_rfl] at hx), (fun r t h => by unfold K7 at h; split at h; (injection h with h; subst h; rfl); cases h), (ev7 _).trans h2⟩
  · cases h
end Go.Proofs.Ytflagchmcnfigaa.Run
