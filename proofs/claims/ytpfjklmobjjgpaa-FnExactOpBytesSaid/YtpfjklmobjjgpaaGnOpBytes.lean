import Derived.Test.YtpfjklmobjjgpaaVmU
import Derived.Test.YtpfjklmobjjgpaaProg
namespace Go.Proofs.Ytpfjklmobjjgpaa.Run
open Go Go.RowKit Go.Proofs.YtpfjklmobjjgpaaW.PrintWords Go.Proofs.Ytpfjklmobjjgpaa.Vm
set_option linter.unusedVariables false
set_option maxRecDepth 100000

/-! ### L.toElem -/
noncomputable def G36 : Env := envNil
noncomputable def c36 : Code := bodyOf Try.f36
noncomputable def L.toElem (a1 a2 a3 a4 : Int) : Option (Int × Int × Int × Int) :=
(some (a1, a2, a3, a4))
noncomputable def R36 (x : Int × Int × Int × Int) : Res := ⟨[.agg [ai x.1, ai x.2.1, ai x.2.2.1, ai x.2.2.2]], [], []⟩
noncomputable def K36 (r : Res) : Option (Int × Int × Int × Int) :=
  match r with
  | ⟨[.agg [.val (.int .i64 v1), .val (.int .i64 v2), .val (.int .i64 v3), .val (.int .i64 v4)]], [], []⟩ => some (v1, v2, v3, v4)
  | _ => none
noncomputable def E36 : Fun2 := fun args bs rs =>
  match args, bs, rs with
  | [.s1 (.agg [.val (.int .i64 a1), .val (.int .i64 a2), .val (.int .i64 a3), .val (.int .i64 a4)])], [], [] => some ⟨Int × Int × Int × Int, L.toElem a1 a2 a3 a4, R36⟩
  | _, _, _ => none
theorem ev36 (a1 a2 a3 a4 : Int) : evF Try.prog G36 loopNil (0, 0) Try.f36 c36 [.s1 (.agg [ai a1, ai a2, ai a3, ai a4])] [] [] K36 = L.toElem a1 a2 a3 a4 := by kernel_rfl
theorem good36 : Vm.Good Try.prog 36 E36 := by
  refine evF_good (G := G36) (c := c36) envNil_good Try.func36 (by kernel_rfl) (by kernel_rfl) (0, 0) (fun args bs rs out t h h2 => ?_)
  unfold E36 at h
  split at h
  · injection h with h
    subst h
    exact ⟨rfl, loopNil, K36, (by intro x hx; simp [show loopsOf c36 = [] from by kernel_rfl] at hx), (fun r t h => by unfold K36 at h; split at h; (injection h with h; subst h; rfl); cases h), (ev36 _ _ _ _).trans h2⟩
  · cases h
/-! ### L.toPunct -/
noncomputable def G37 : Env := envNil
noncomputable def c37 : Code := bodyOf Try.f37
noncomputable def L.toPunct (a1 a2 a3 a4 : Int) : Option (Int × Int × Int × Int) :=
(some (a1, a2, a3, a4))
noncomputable def R37 (x : Int × Int × Int × Int) : Res := ⟨[.agg [ai x.1, ai x.2.1, ai x.2.2.1, ai x.2.2.2]], [], []⟩
noncomputable def K37 (r : Res) : Option (Int × Int × Int × Int) :=
  match r with
  | ⟨[.agg [.val (.int .i64 v1), .val (.int .i64 v2), .val (.int .i64 v3), .val (.int .i64 v4)]], [], []⟩ => some (v1, v2, v3, v4)
  | _ => none
noncomputable def E37 : Fun2 := fun args bs rs =>
  match args, bs, rs with
  | [.s1 (.agg [.val (.int .i64 a1), .val (.int .i64 a2), .val (.int .i64 a3), .val (.int .i64 a4)])], [], [] => some ⟨Int × Int × Int × Int, L.toPunct a1 a2 a3 a4, R37⟩
  | _, _, _ => none
theorem ev37 (a1 a2 a3 a4 : Int) : evF Try.prog G37 loopNil (0, 0) Try.f37 c37 [.s1 (.agg [ai a1, ai a2, ai a3, ai a4])] [] [] K37 = L.toPunct a1 a2 a3 a4 := by kernel_rfl
theorem good37 : Vm.Good Try.prog 37 E37 := by
  refine evF_good (G := G37) (c := c37) envNil_good Try.func37 (by kernel_rfl) (by kernel_rfl) (0, 0) (fun args bs rs out t h h2 => ?_)
  unfold E37 at h
  split at h
  · injection h with h
    subst h
    exact ⟨rfl, loopNil, K37, (by intro x hx; simp [show loopsOf c37 = [] from by kernel_rfl] at hx), (fun r t h => by unfold K37 at h; split at h; (injection h with h; subst h; rfl); cases h), (ev37 _ _ _ _).trans h2⟩
  · cases h
/-! ### L.toOp -/
noncomputable def G25 : Env := (envCons 36 [] E36 (envCons 37 [] E37 envNil))
noncomputable def c25 : Code := bodyOf Try.f25
noncomputable def L.toOp (a1 a2 a3 a4 a5 a6 a7 a8 a9 a10 a11 : Int) : Option (Int × Int × Int × Int × Int × Int × Int × Int × Int × Int × Int) :=
(Option.bind (L.toElem a2 a3 a4 a5) fun r12 =>
(Option.bind (L.toPunct a6 a7 a8 a9) fun r13 =>
(some (a1, r12.1, r12.2.1, r12.2.2.1, r12.2.2.2, r13.1, r13.2.1, r13.2.2.1, r13.2.2.2, a10, a11))))
noncomputable def R25 (x : Int × Int × Int × Int × Int × Int × Int × Int × Int × Int × Int) : Res := ⟨[.agg [ai x.1, ai x.2.1, ai x.2.2.1, ai x.2.2.2.1, ai x.2.2.2.2.1, ai x.2.2.2.2.2.1, ai x.2.2.2.2.2.2.1, ai x.2.2.2.2.2.2.2.1, ai x.2.2.2.2.2.2.2.2.1, ai x.2.2.2.2.2.2.2.2.2.1, ai x.2.2.2.2.2.2.2.2.2.2]], [], []⟩
noncomputable def K25 (r : Res) : Option (Int × Int × Int × Int × Int × Int × Int × Int × Int × Int × Int) :=
  match r with
  | ⟨[.agg [.val (.int .i64 v1), .val (.int .i64 v2), .val (.int .i64 v3), .val (.int .i64 v4), .val (.int .i64 v5), .val (.int .i64 v6), .val (.int .i64 v7), .val (.int .i64 v8), .val (.int .i64 v9), .val (.int .i64 v10), .val (.int .i64 v11)]], [], []⟩ => some (v1, v2, v3, v4, v5, v6, v7, v8, v9, v10, v11)
  | _ => none
noncomputable def E25 : Fun2 := fun args bs rs =>
  match args, bs, rs with
  | [.s1 (.agg [.val (.int .i64 a1), .val (.int .i64 a2), .val (.int .i64 a3), .val (.int .i64 a4), .val (.int .i64 a5), .val (.int .i64 a6), .val (.int .i64 a7), .val (.int .i64 a8), .val (.int .i64 a9), .val (.int .i64 a10), .val (.int .i64 a11)])], [], [] => some ⟨Int × Int × Int × Int × Int × Int × Int × Int × Int × Int × Int, L.toOp a1 a2 a3 a4 a5 a6 a7 a8 a9 a10 a11, R25⟩
  | _, _, _ => none
theorem ev25 (a1 a2 a3 a4 a5 a6 a7 a8 a9 a10 a11 : Int) : evF Try.prog G25 loopNil (0, 0) Try.f25 c25 [.s1 (.agg [ai a1, ai a2, ai a3, ai a4, ai a5, ai a6, ai a7, ai a8, ai a9, ai a10, ai a11])] [] [] K25 = L.toOp a1 a2 a3 a4 a5 a6 a7 a8 a9 a10 a11 := by kernel_rfl
theorem good25 : Vm.Good Try.prog 25 E25 := by
  refine evF_good (G := G25) (c := c25) (envCons_good good36 (envCons_good good37 envNil_good)) Try.func25 (by kernel_rfl) (by kernel_rfl) (0, 0) (fun args bs rs out t h h2 => ?_)
  unfold E25 at h
  split at h
  · injection h with h
    subst h
    exact ⟨rfl, loopNil, K25, (by intro x hx; simp [show loopsOf c25 = [] from by kernel_rfl] at hx), (fun r t h => by unfold K25 at h; split at h; (injection h with h; subst h; rfl); cases h), (ev25 _ _ _ _ _ _ _ _ _ _ _).trans h2⟩
  · cases h
/-! ### S.l04Src -/
noncomputable def G33 : Env := envNil
noncomputable def c33 : Code := bodyOf Try.f33
noncomputable def S.l04Src (a1 : Int) : Option Bool :=
(bif (decide (0 ≤ a1)) then
(some (decide (a1 < 4)))
else
(some false))
noncomputable def R33 (x : Bool) : Res := ⟨[.one (ab x)], [], []⟩
noncomputable def K33 (r : Res) : Option Bool :=
  match r with
  | ⟨[.one (.val (.bool v1))], [], []⟩ => some (v1)
  | _ => none
noncomputable def E33 : Fun2 := fun args bs rs =>
  match args, bs, rs with
  | [.s1 (.one (.val (.int .i64 a1)))], [], [] => some ⟨Bool, S.l04Src a1, R33⟩
  | _, _, _ => none
theorem ev33 (a1 : Int) : evF Try.prog G33 loopNil (0, 0) Try.f33 c33 [vi a1] [] [] K33 = S.l04Src a1 := by kernel_rfl
theorem good33 : Vm.Good Try.prog 33 E33 := by
  refine evF_good (G := G33) (c := c33) envNil_good Try.func33 (by kernel_rfl) (by kernel_rfl) (0, 0) (fun args bs rs out t h h2 => ?_)
  unfold E33 at h
  split at h
  · injection h with h
    subst h
    exact ⟨rfl, loopNil, K33, (by intro x hx; simp [show loopsOf c33 = [] from by kernel_rfl] at hx), (fun r t h => by unfold K33 at h; split at h; (injection h with h; subst h; rfl); cases h), (ev33 _).trans h2⟩
  · cases h
/-! ### S.l04Key -/
noncomputable def G41 : Env := envNil
noncomputable def c41 : Code := bodyOf Try.f41
noncomputable def S.l04Key (a1 : Int) : Option Bool :=
(bif (decide (0 ≤ a1)) then
(some (decide (a1 ≤ 15)))
else
(some false))
noncomputable def R41 (x : Bool) : Res := ⟨[.one (ab x)], [], []⟩
noncomputable def K41 (r : Res) : Option Bool :=
  match r with
  | ⟨[.one (.val (.bool v1))], [], []⟩ => some (v1)
  | _ => none
noncomputable def E41 : Fun2 := fun args bs rs =>
  match args, bs, rs with
  | [.s1 (.one (.val (.int .i64 a1)))], [], [] => some ⟨Bool, S.l04Key a1, R41⟩
  | _, _, _ => none
theorem ev41 (a1 : Int) : evF Try.prog G41 loopNil (0, 0) Try.f41 c41 [vi a1] [] [] K41 = S.l04Key a1 := by kernel_rfl
theorem good41 : Vm.Good Try.prog 41 E41 := by
  refine evF_good (G := G41) (c := c41) envNil_good Try.func41 (by kernel_rfl) (by kernel_rfl) (0, 0) (fun args bs rs out t h h2 => ?_)
  unfold E41 at h
  split at h
  · injection h with h
    subst h
    exact ⟨rfl, loopNil, K41, (by intro x hx; simp [show loopsOf c41 = [] from by kernel_rfl] at hx), (fun r t h => by unfold K41 at h; split at h; (injection h with h; subst h; rfl); cases h), (ev41 _).trans h2⟩
  · cases h
/-! ### S.l05Time -/
noncomputable def G34 : Env := envNil
noncomputable def c34 : Code := bodyOf Try.f34
noncomputable def S.l05Time (a1 : Int) : Option Bool :=
(bif (decide (0 ≤ a1)) then
(some (decide (a1 ≤ 1000)))
else
(some false))
noncomputable def R34 (x : Bool) : Res := ⟨[.one (ab x)], [], []⟩
noncomputable def K34 (r : Res) : Option Bool :=
  match r with
  | ⟨[.one (.val (.bool v1))], [], []⟩ => some (v1)
  | _ => none
noncomputable def E34 : Fun2 := fun args bs rs =>
  match args, bs, rs with
  | [.s1 (.one (.val (.int .i64 a1)))], [], [] => some ⟨Bool, S.l05Time a1, R34⟩
  | _, _, _ => none
theorem ev34 (a1 : Int) : evF Try.prog G34 loopNil (0, 0) Try.f34 c34 [vi a1] [] [] K34 = S.l05Time a1 := by kernel_rfl
theorem good34 : Vm.Good Try.prog 34 E34 := by
  refine evF_good (G := G34) (c := c34) envNil_good Try.func34 (by kernel_rfl) (by kernel_rfl) (0, 0) (fun args bs rs out t h h2 => ?_)
  unfold E34 at h
  split at h
  · injection h with h
    subst h
    exact ⟨rfl, loopNil, K34, (by intro x hx; simp [show loopsOf c34 = [] from by kernel_rfl] at hx), (fun r t h => by unfold K34 at h; split at h; (injection h with h; subst h; rfl); cases h), (ev34 _).trans h2⟩
  · cases h
/-! ### S.ElemOk -/
noncomputable def G31 : Env := (envCons 33 [] E33 (envCons 41 [] E41 (envCons 34 [] E34 envNil)))
noncomputable def c31 : Code := bodyOf Try.f31
noncomputable def S.ElemOk (a1 a2 a3 a4 : Int) : Option Bool :=
(Option.bind (S.l04Src a1) fun r5 =>
(bif r5 then
(Option.bind (S.l04Key a2) fun r6 =>
(bif r6 then
(Option.bind (S.l05Time a4) fun r7 =>
(some r7))
else
(some false)))
else
(some false)))
noncomputable def R31 (x : Bool) : Res := ⟨[.one (ab x)], [], []⟩
noncomputable def K31 (r : Res) : Option Bool :=
  match r with
  | ⟨[.one (.val (.bool v1))], [], []⟩ => some (v1)
  | _ => none
noncomputable def E31 : Fun2 := fun args bs rs =>
  match args, bs, rs with
  | [.s1 (.agg [.val (.int .i64 a1), .val (.int .i64 a2), .val (.int .i64 a3), .val (.int .i64 a4)])], [], [] => some ⟨Bool, S.ElemOk a1 a2 a3 a4, R31⟩
  | _, _, _ => none
theorem ev31 (a1 a2 a3 a4 : Int) : evF Try.prog G31 loopNil (0, 0) Try.f31 c31 [.s1 (.agg [ai a1, ai a2, ai a3, ai a4])] [] [] K31 = S.ElemOk a1 a2 a3 a4 := by kernel_rfl
theorem good31 : Vm.Good Try.prog 31 E31 := by
  refine evF_good (G := G31) (c := c31) (envCons_good good33 (envCons_good good41 (envCons_good good34 envNil_good))) Try.func31 (by kernel_rfl) (by kernel_rfl) (0, 0) (fun args bs rs out t h h2 => ?_)
  unfold E31 at h
  split at h
  · injection h with h
    subst h
    exact ⟨rfl, loopNil, K31, (by intro x hx; simp [show loopsOf c31 = [] from by kernel_rfl] at hx), (fun r t h => by unfold K31 at h; split at h; (injection h with h; subst h; rfl); cases h), (ev31 _ _ _ _).trans h2⟩
  · cases h
/-! ### S.l04Bits -/
noncomputable def G42 : Env := envNil
noncomputable def c42 : Code := bodyOf Try.f42
noncomputable def S.l04Bits (a1 : Int) : Option Bool :=
(bif (decide (0 ≤ a1)) then
(some (decide (a1 ≤ 4)))
else
(some false))
noncomputable def R42 (x : Bool) : Res := ⟨[.one (ab x)], [], []⟩
noncomputable def K42 (r : Res) : Option Bool :=
  match r with
  | ⟨[.one (.val (.bool v1))], [], []⟩ => some (v1)
  | _ => none
noncomputable def E42 : Fun2 := fun args bs rs =>
  match args, bs, rs with
  | [.s1 (.one (.val (.int .i64 a1)))], [], [] => some ⟨Bool, S.l04Bits a1, R42⟩
  | _, _, _ => none
theorem ev42 (a1 : Int) : evF Try.prog G42 loopNil (0, 0) Try.f42 c42 [vi a1] [] [] K42 = S.l04Bits a1 := by kernel_rfl
theorem good42 : Vm.Good Try.prog 42 E42 := by
  refine evF_good (G := G42) (c := c42) envNil_good Try.func42 (by kernel_rfl) (by kernel_rfl) (0, 0) (fun args bs rs out t h h2 => ?_)
  unfold E42 at h
  split at h
  · injection h with h
    subst h
    exact ⟨rfl, loopNil, K42, (by intro x hx; simp [show loopsOf c42 = [] from by kernel_rfl] at hx), (fun r t h => by unfold K42 at h; split at h; (injection h with h; subst h; rfl); cases h), (ev42 _).trans h2⟩
  · cases h
/-! ### S.l11Punct -/
noncomputable def G32 : Env := (envCons 33 [] E33 (envCons 42 [] E42 (envCons 41 [] E41 envNil)))
noncomputable def c32 : Code := bodyOf Try.f32
noncomputable def S.l11Punct (a1 a2 a3 a4 : Int) : Option Bool :=
(Option.bind (S.l04Src a1) fun r5 =>
(bif r5 then
(Option.bind (S.l04Bits a2) fun r6 =>
(bif r6 then
(Option.bind (S.l04Key a3) fun r7 =>
(bif r7 then
(bif (decide (0 ≤ a4)) then
(some (decide (a4 < 16)))
else
(some false))
else
(some false)))
else
(some false)))
else
(some false)))
noncomputable def R32 (x : Bool) : Res := ⟨[.one (ab x)], [], []⟩
noncomputable def K32 (r : Res) : Option Bool :=
  match r with
  | ⟨[.one (.val (.bool v1))], [], []⟩ => some (v1)
  | _ => none
noncomputable def E32 : Fun2 := fun args bs rs =>
  match args, bs, rs with
  | [.s1 (.agg [.val (.int .i64 a1), .val (.int .i64 a2), .val (.int .i64 a3), .val (.int .i64 a4)])], [], [] => some ⟨Bool, S.l11Punct a1 a2 a3 a4, R32⟩
  | _, _, _ => none
theorem ev32 (a1 a2 a3 a4 : Int) : evF Try.prog G32 loopNil (0, 0) Try.f32 c32 [.s1 (.agg [ai a1, ai a2, ai a3, ai a4])] [] [] K32 = S.l11Punct a1 a2 a3 a4 := by kernel_rfl
theorem good32 : Vm.Good Try.prog 32 E32 := by
  refine evF_good (G := G32) (c := c32) (envCons_good good33 (envCons_good good42 (envCons_good good41 envNil_good))) Try.func32 (by kernel_rfl) (by kernel_rfl) (0, 0) (fun args bs rs out t h h2 => ?_)
  unfold E32 at h
  split at h
  · injection h with h
    subst h
    exact ⟨rfl, loopNil, K32, (by intro x hx; simp [show loopsOf c32 = [] from by kernel_rfl] at hx), (fun r t h => by unfold K32 at h; split at h; (injection h with h; subst h; rfl); cases h), (ev32 _ _ _ _).trans h2⟩
  · cases h
/-! ### S.l10Count -/
noncomputable def G35 : Env := envNil
noncomputable def c35 : Code := bodyOf Try.f35
noncomputable def S.l10Count (a1 : Int) : Option Bool :=
(bif (decide (0 ≤ a1)) then
(some (decide (a1 ≤ 1000000)))
else
(some false))
noncomputable def R35 (x : Bool) : Res := ⟨[.one (ab x)], [], []⟩
noncomputable def K35 (r : Res) : Option Bool :=
  match r with
  | ⟨[.one (.val (.bool v1))], [], []⟩ => some (v1)
  | _ => none
noncomputable def E35 : Fun2 := fun args bs rs =>
  match args, bs, rs with
  | [.s1 (.one (.val (.int .i64 a1)))], [], [] => some ⟨Bool, S.l10Count a1, R35⟩
  | _, _, _ => none
theorem ev35 (a1 : Int) : evF Try.prog G35 loopNil (0, 0) Try.f35 c35 [vi a1] [] [] K35 = S.l10Count a1 := by kernel_rfl
theorem good35 : Vm.Good Try.prog 35 E35 := by
  refine evF_good (G := G35) (c := c35) envNil_good Try.func35 (by kernel_rfl) (by kernel_rfl) (0, 0) (fun args bs rs out t h h2 => ?_)
  unfold E35 at h
  split at h
  · injection h with h
    subst h
    exact ⟨rfl, loopNil, K35, (by intro x hx; simp [show loopsOf c35 = [] from by kernel_rfl] at hx), (fun r t h => by unfold K35 at h; split at h; (injection h with h; subst h; rfl); cases h), (ev35 _).trans h2⟩
  · cases h
/-! ### S.OpOk -/
noncomputable def G24 : Env := (envCons 31 [] E31 (envCons 32 [] E32 (envCons 33 [] E33 (envCons 34 [] E34 (envCons 35 [] E35 envNil)))))
noncomputable def c24 : Code := bodyOf Try.f24
noncomputable def S.OpOk (a1 a2 a3 a4 a5 a6 a7 a8 a9 a10 a11 : Int) : Option Bool :=
(let v12 : Bool := ((a2 == 0) && ((a3 == 0) && ((a4 == 0) && ((a5 == 0) && true))))
(let v13 : Bool := ((a6 == 0) && ((a7 == 0) && ((a8 == 0) && ((a9 == 0) && true))))
(bif (a1 == 1) then
(Option.bind (S.ElemOk a2 a3 a4 a5) fun r14 =>
(bif r14 then
(bif v13 then
(bif (a10 == 0) then
(some (a11 == 0))
else
(some false))
else
(some false))
else
(some false)))
else
(bif (a1 == 2) then
(bif v12 then
(Option.bind (S.l11Punct a6 a7 a8 a9) fun r15 =>
(bif r15 then
(bif (a10 == 0) then
(bif (a11 == 0) then
(bif (a1 == 2) then
(some true)
else
(some (a9 == 0)))
else
(some false))
else
(some false))
else
(some false)))
else
(some false))
else
(bif (a1 == 3) then
(bif v12 then
(Option.bind (S.l11Punct a6 a7 a8 a9) fun r16 =>
(bif r16 then
(bif (a10 == 0) then
(bif (a11 == 0) then
(bif (a1 == 2) then
(some true)
else
(some (a9 == 0)))
else
(some false))
else
(some false))
else
(some false)))
else
(some false))
else
(bif (a1 == 4) then
(bif v12 then
(bif v13 then
(Option.bind (S.l04Src a10) fun r17 =>
(bif r17 then
(Option.bind (S.l05Time a11) fun r18 =>
(some r18))
else
(some false)))
else
(some false))
else
(some false))
else
(bif (a1 == 5) then
(bif v12 then
(bif v13 then
(Option.bind (S.l04Src a10) fun r19 =>
(bif r19 then
(some (a11 == 0))
else
(some false)))
else
(some false))
else
(some false))
else
(bif (a1 == 6) then
(bif v12 then
(bif v13 then
(Option.bind (S.l04Src a10) fun r20 =>
(bif r20 then
(some (a11 == 0))
else
(some false)))
else
(some false))
else
(some false))
else
(bif (a1 == 7) then
(bif v12 then
(bif v13 then
(bif (decide (0 ≤ a10)) then
(bif (decide (a10 < 4)) then
(Option.bind (S.l10Count a11) fun r23 =>
(some r23))
else
(some false))
else
(some false))
else
(some false))
else
(some false))
else
(bif (a1 == 8) then
(bif v12 then
(bif v13 then
(bif (decide (0 ≤ a10)) then
(bif (decide (a10 < 4)) then
(Option.bind (S.l10Count a11) fun r26 =>
(some r26))
else
(some false))
else
(some false))
else
(some false))
else
(some false))
else
(bif (a1 == 9) then
(bif v12 then
(bif v13 then
(bif (decide (0 ≤ a10)) then
(bif (decide (a10 < 4)) then
(Option.bind (S.l10Count a11) fun r29 =>
(some r29))
else
(some false))
else
(some false))
else
(some false))
else
(some false))
else
(some false))))))))))))
noncomputable def R24 (x : Bool) : Res := ⟨[.one (ab x)], [], []⟩
noncomputable def K24 (r : Res) : Option Bool :=
  match r with
  | ⟨[.one (.val (.bool v1))], [], []⟩ => some (v1)
  | _ => none
noncomputable def E24 : Fun2 := fun args bs rs =>
  match args, bs, rs with
  | [.s1 (.agg [.val (.int .i64 a1), .val (.int .i64 a2), .val (.int .i64 a3), .val (.int .i64 a4), .val (.int .i64 a5), .val (.int .i64 a6), .val (.int .i64 a7), .val (.int .i64 a8), .val (.int .i64 a9), .val (.int .i64 a10), .val (.int .i64 a11)])], [], [] => some ⟨Bool, S.OpOk a1 a2 a3 a4 a5 a6 a7 a8 a9 a10 a11, R24⟩
  | _, _, _ => none
theorem ev24 (a1 a2 a3 a4 a5 a6 a7 a8 a9 a10 a11 : Int) : evF Try.prog G24 loopNil (0, 0) Try.f24 c24 [.s1 (.agg [ai a1, ai a2, ai a3, ai a4, ai a5, ai a6, ai a7, ai a8, ai a9, ai a10, ai a11])] [] [] K24 = S.OpOk a1 a2 a3 a4 a5 a6 a7 a8 a9 a10 a11 := by kernel_rfl
theorem good24 : Vm.Good Try.prog 24 E24 := by
  refine evF_good (G := G24) (c := c24) (envCons_good good31 (envCons_good good32 (envCons_good good33 (envCons_good good34 (envCons_good good35 envNil_good))))) Try.func24 (by kernel_rfl) (by kernel_rfl) (0, 0) (fun args bs rs out t h h2 => ?_)
  unfold E24 at h
  split at h
  · injection h with h
    subst h
    exact ⟨rfl, loopNil, K24, (by intro x hx; simp [show loopsOf c24 = [] from by kernel_rfl] at hx), (fun r t h => by unfold K24 at h; split at h; (injection h with h; subst h; rfl); cases h), (ev24 _ _ _ _ _ _ _ _ _ _ _).trans h2⟩
  · cases h
/-! ### S.l13Fields -/
noncomputable def G39 : Env := envNil
noncomputable def c39 : Code := bodyOf Try.f39
noncomputable def S.l13Fields (a1 a2 a3 a4 a5 a6 a7 a8 a9 a10 a11 : Int) : Option (List Int) :=
(some [a1, a2, a3, a4, a5, a6, a7, a8, a9, a10, a11])
noncomputable def R39 (x : List Int) : Res := ⟨[.one (.sl 0)], [], [⟨3, (.int .i64), x, .own⟩]⟩
noncomputable def K39 (r : Res) : Option (List Int) :=
  match r with
  | ⟨[.one (.sl 0)], [], [⟨3, (.int .i64), v1, .own⟩]⟩ => some (v1)
  | _ => none
noncomputable def E39 : Fun2 := fun args bs rs =>
  match args, bs, rs with
  | [.s1 (.agg [.val (.int .i64 a1), .val (.int .i64 a2), .val (.int .i64 a3), .val (.int .i64 a4), .val (.int .i64 a5), .val (.int .i64 a6), .val (.int .i64 a7), .val (.int .i64 a8), .val (.int .i64 a9), .val (.int .i64 a10), .val (.int .i64 a11)])], [], [] => some ⟨List Int, S.l13Fields a1 a2 a3 a4 a5 a6 a7 a8 a9 a10 a11, R39⟩
  | _, _, _ => none
theorem ev39 (a1 a2 a3 a4 a5 a6 a7 a8 a9 a10 a11 : Int) : evF Try.prog G39 loopNil (0, 0) Try.f39 c39 [.s1 (.agg [ai a1, ai a2, ai a3, ai a4, ai a5, ai a6, ai a7, ai a8, ai a9, ai a10, ai a11])] [] [] K39 = S.l13Fields a1 a2 a3 a4 a5 a6 a7 a8 a9 a10 a11 := by kernel_rfl
theorem good39 : Vm.Good Try.prog 39 E39 := by
  refine evF_good (G := G39) (c := c39) envNil_good Try.func39 (by kernel_rfl) (by kernel_rfl) (0, 0) (fun args bs rs out t h h2 => ?_)
  unfold E39 at h
  split at h
  · injection h with h
    subst h
    exact ⟨rfl, loopNil, K39, (by intro x hx; simp [show loopsOf c39 = [] from by kernel_rfl] at hx), (fun r t h => by unfold K39 at h; split at h; (injection h with h; subst h; rfl); cases h), (ev39 _ _ _ _ _ _ _ _ _ _ _).trans h2⟩
  · cases h
/-! ### S.NumBytes -/
noncomputable def G9 : Env := envNil
noncomputable def c9 : Code := bodyOf Try.f9
noncomputable def c9_5 : Code := (loopsOf c9).getD 0 .skip
noncomputable def S.NumBytes_l0 : Nat → (Int → List Int → Option (List Int)) → Int → List Int → Option (List Int)
  | 0, _, _, _ => none
  | m + 1, e5_0, a9, a10 =>
    (bif (decide (128 ≤ a9)) then
    (bif decide (128 = 0) then
    none
    else
    (let v14 : Int := (IntKind.wrap .u8 (IntKind.wrap .u64 (128 + (Int.tmod a9 128))))
    (bif decide ((a10.length + [v14].length) * 1 ≤ 140737488355328) then
    (bif decide (128 = 0) then
    none
    else
    (S.NumBytes_l0 m e5_0 (IntKind.wrap .u64 (Int.tdiv a9 128)) (a10 ++ [v14])))
    else
    none)))
    else
    (e5_0 a9 a10))
noncomputable def S.NumBytes (a1 : Int) : Option (List Int) :=
(bif (decide (a1 < 0)) then
(S.NumBytes_l0 fu (fun y16 y17 =>
(let v18 : Int := (IntKind.wrap .u8 y16)
(bif decide ((y17.length + [v18].length) * 1 ≤ 140737488355328) then
(some (y17 ++ [v18]))
else
none))) (IntKind.wrap .u64 ((IntKind.wrap .u64 (2 * (IntKind.wrap .u64 (IntKind.wrap .i64 ((-1) - a1))))) + 1)) [])
else
(S.NumBytes_l0 fu (fun y19 y20 =>
(let v21 : Int := (IntKind.wrap .u8 y19)
(bif decide ((y20.length + [v21].length) * 1 ≤ 140737488355328) then
(some (y20 ++ [v21]))
else
none))) (IntKind.wrap .u64 (2 * (IntKind.wrap .u64 a1))) []))
noncomputable def H9_5 : LoopH := ⟨⟨(hu 3 (hh :: (.one (.sl 0)) :: (hu 27 []))), [], [(5, (.int .u8), .own)]⟩, [0, 1, 2, 5, 6, 7, 8, 9, 10, 11, 12, 13, 14, 15, 16, 17, 18, 19, 20, 21, 22, 23, 24, 25, 26, 27, 28, 29, 30, 31], [], [0, 1, 5, 6, 7, 8, 9, 10, 11, 12, 13, 14, 15, 16, 17, 18, 19, 20, 21, 22, 23, 24, 25, 26, 27, 28, 29, 30, 31]⟩
noncomputable def E9_5 (m : Nat) (ps : List Prm) (k : Kont (List Int)) : Option (List Int) :=
  match ps with
  | [.v (.int .u64 a9), .row (.int .u8) a10] => S.NumBytes_l0 m (fun z24 z25 => k (.exit 0) (⟨(vu 3 ((vk .u64 z24) :: (vl 0) :: (vu 27 []))), [], [⟨5, (.int .u8), z25, .own⟩]⟩ : St)) a9 a10
  | _ => none
noncomputable def S9_5 (a9 : Int) (a10 : List Int) : St := (⟨(vu 3 ((vk .u64 a9) :: (vl 0) :: (vu 27 []))), [], [⟨5, (.int .u8), a10, .own⟩]⟩ : St)
theorem ev9_5 (m : Nat) (k : Kont (List Int)) (a9 : Int) (a10 : List Int) : evC Try.prog G9 loopNil c9_5 (S9_5 a9 a10) (turn Try.prog (0, 0) H9_5 (E9_5 m) k) = E9_5 (m + 1) [.v (.int .u64 a9), .row (.int .u8) a10] k := by kernel_rfl
theorem ok9_5 (m : Nat) : LoopOk Try.prog (0, 0) c9_5 (enter Try.prog (0, 0) H9_5 (E9_5 m)) := by
  refine loop_ok (G := G9) (L := loopNil) envNil_good (by intro x hx; simp [show loopsOf c9_5 = [] from by kernel_rfl] at hx) (fun ps k => by unfold E9_5; split <;> rfl) (fun m ps k r h => ?_) m
  have h0 := h
  unfold E9_5 at h
  split at h
  · exact ⟨S9_5 _ _, by kernel_rfl, (ev9_5 m k _ _).trans h0⟩
  · cases h
noncomputable def L9 : LEnv (List Int) := (loopCons 5 (enter Try.prog (0, 0) H9_5 (E9_5 fu)) loopNil)
theorem lq9 : loopsOf c9 = [c9_5] := by kernel_rfl
theorem fr9_5 : firstReg c9_5 = some 5 := by kernel_rfl
theorem le9_5 : L9 5 = enter Try.prog (0, 0) H9_5 (E9_5 fu) := by kernel_rfl
theorem lm9 : ∀ x ∈ [c9_5], ∀ id, firstReg x = some id → LoopOk Try.prog (0, 0) x (L9 id) := (loops_cons fr9_5 le9_5 (ok9_5 fu) loops_nil)
theorem lp9 : ∀ x ∈ loopsOf c9, ∀ id, firstReg x = some id → LoopOk Try.prog (0, 0) x (L9 id) := loops_eq lq9 lm9
noncomputable def R9 (x : List Int) : Res := ⟨[.one (.sl 0)], [], [⟨5, (.int .u8), x, .own⟩]⟩
noncomputable def K9 (r : Res) : Option (List Int) :=
  match r with
  | ⟨[.one (.sl 0)], [], [⟨5, (.int .u8), v1, .own⟩]⟩ => some (v1)
  | _ => none
noncomputable def E9 : Fun2 := fun args bs rs =>
  match args, bs, rs with
  | [.s1 (.one (.val (.int .i64 a1)))], [], [] => some ⟨List Int, S.NumBytes a1, R9⟩
  | _, _, _ => none
theorem ev9 (a1 : Int) : evF Try.prog G9 L9 (0, 0) Try.f9 c9 [vi a1] [] [] K9 = S.NumBytes a1 := by kernel_rfl
theorem good9 : Vm.Good Try.prog 9 E9 := by
  refine evF_good (G := G9) (c := c9) envNil_good Try.func9 (by kernel_rfl) (by kernel_rfl) (0, 0) (fun args bs rs out t h h2 => ?_)
  unfold E9 at h
  split at h
  · injection h with h
    subst h
    exact ⟨rfl, L9, K9, lp9, (fun r t h => by unfold K9 at h; split at h; (injection h with h; subst h; rfl); cases h), (ev9 _).trans h2⟩
  · cases h
/-! ### S.OpBytes -/
noncomputable def G27 : Env := (envCons 24 [] E24 (envCons 39 [] E39 (envCons 9 [] E9 envNil)))
noncomputable def c27 : Code := bodyOf Try.f27
noncomputable def c27_6 : Code := (loopsOf c27).getD 0 .skip
noncomputable def S.OpBytes_l0 : Nat → (List Int → Option (List Int)) → Int → List Int → List Int → Option (List Int)
  | 0, _, _, _, _ => none
  | m + 1, e6_0, a14, a15, a16 =>
    (bif (decide (a14 < (a16.length : Int))) then
    (bif decide (0 ≤ a14 ∧ a14 < (a16.length : Int)) then
    (Option.bind (S.NumBytes (nthI a16 a14 (0 : Int))) fun r19 =>
    (bif decide ((a15.length + r19.length) * 1 ≤ 140737488355328) then
    (S.OpBytes_l0 m e6_0 (IntKind.wrap .i64 (a14 + 1)) (a15 ++ r19) a16)
    else
    none))
    else
    none)
    else
    (e6_0 a15))
noncomputable def S.OpBytes (a1 a2 a3 a4 a5 a6 a7 a8 a9 a10 a11 : Int) : Option (List Int) :=
(Option.bind (S.OpOk a1 a2 a3 a4 a5 a6 a7 a8 a9 a10 a11) fun r12 =>
(bif (!r12) then
(some [])
else
(Option.bind (S.l13Fields a1 a2 a3 a4 a5 a6 a7 a8 a9 a10 a11) fun r13 =>
(S.OpBytes_l0 fu (fun y21 =>
(some y21)) 0 [] r13))))
noncomputable def H27_6 : LoopH := ⟨⟨(hu 3 ((.one (.sl 0)) :: (.one (.sl 1)) :: hh :: (hu 20 []))), [], [(5, (.int .u8), .own), (3, (.int .i64), .own)]⟩, [0, 1, 2, 6, 7, 8, 9, 10, 11, 12, 13, 14, 15, 16, 17, 18, 19, 20, 21, 22, 23, 24, 25], [], [0, 1, 4, 5, 6, 7, 8, 9, 10, 11, 12, 13, 14, 15, 16, 17, 18, 19, 20, 21, 22, 23, 24, 25]⟩
noncomputable def E27_6 (m : Nat) (ps : List Prm) (k : Kont (List Int)) : Option (List Int) :=
  match ps with
  | [.v (.int .i64 a14), .row (.int .u8) a15, .row (.int .i64) a16] => S.OpBytes_l0 m (fun z23 => k (.exit 0) (⟨(vu 3 ((vl 0) :: (vu 22 []))), [], [⟨5, (.int .u8), z23, .own⟩]⟩ : St)) a14 a15 a16
  | _ => none
noncomputable def S27_6 (a14 : Int) (a15 a16 : List Int) : St := (⟨(vu 3 ((vl 0) :: (vl 1) :: (vi a14) :: (vu 20 []))), [], [⟨5, (.int .u8), a15, .own⟩, ⟨3, (.int .i64), a16, .own⟩]⟩ : St)
theorem ev27_6 (m : Nat) (k : Kont (List Int)) (a14 : Int) (a15 a16 : List Int) : evC Try.prog G27 loopNil c27_6 (S27_6 a14 a15 a16) (turn Try.prog (0, 0) H27_6 (E27_6 m) k) = E27_6 (m + 1) [.v (.int .i64 a14), .row (.int .u8) a15, .row (.int .i64) a16] k := by kernel_rfl
theorem ok27_6 (m : Nat) : LoopOk Try.prog (0, 0) c27_6 (enter Try.prog (0, 0) H27_6 (E27_6 m)) := by
  refine loop_ok (G := G27) (L := loopNil) (envCons_good good24 (envCons_good good39 (envCons_good good9 envNil_good))) (by intro x hx; simp [show loopsOf c27_6 = [] from by kernel_rfl] at hx) (fun ps k => by unfold E27_6; split <;> rfl) (fun m ps k r h => ?_) m
  have h0 := h
  unfold E27_6 at h
  split at h
  · exact ⟨S27_6 _ _ _, by kernel_rfl, (ev27_6 m k _ _ _).trans h0⟩
  · cases h
noncomputable def L27 : LEnv (List Int) := (loopCons 6 (enter Try.prog (0, 0) H27_6 (E27_6 fu)) loopNil)
theorem lq27 : loopsOf c27 = [c27_6] := by kernel_rfl
theorem fr27_6 : firstReg c27_6 = some 6 := by kernel_rfl
theorem le27_6 : L27 6 = enter Try.prog (0, 0) H27_6 (E27_6 fu) := by kernel_rfl
theorem lm27 : ∀ x ∈ [c27_6], ∀ id, firstReg x = some id → LoopOk Try.prog (0, 0) x (L27 id) := (loops_cons fr27_6 le27_6 (ok27_6 fu) loops_nil)
theorem lp27 : ∀ x ∈ loopsOf c27, ∀ id, firstReg x = some id → LoopOk Try.prog (0, 0) x (L27 id) := loops_eq lq27 lm27
noncomputable def R27 (x : List Int) : Res := ⟨[.one (.sl 0)], [], [⟨5, (.int .u8), x, .own⟩]⟩
noncomputable def K27 (r : Res) : Option (List Int) :=
  match r with
  | ⟨[.one (.sl 0)], [], [⟨5, (.int .u8), v1, .own⟩]⟩ => some (v1)
  | _ => none
noncomputable def E27 : Fun2 := fun args bs rs =>
  match args, bs, rs with
  | [.s1 (.agg [.val (.int .i64 a1), .val (.int .i64 a2), .val (.int .i64 a3), .val (.int .i64 a4), .val (.int .i64 a5), .val (.int .i64 a6), .val (.int .i64 a7), .val (.int .i64 a8), .val (.int .i64 a9), .val (.int .i64 a10), .val (.int .i64 a11)])], [], [] => some ⟨List Int, S.OpBytes a1 a2 a3 a4 a5 a6 a7 a8 a9 a10 a11, R27⟩
  | _, _, _ => none
theorem ev27 (a1 a2 a3 a4 a5 a6 a7 a8 a9 a10 a11 : Int) : evF Try.prog G27 L27 (0, 0) Try.f27 c27 [.s1 (.agg [ai a1, ai a2, ai a3, ai a4, ai a5, ai a6, ai a7, ai a8, ai a9, ai a10, ai a11])] [] [] K27 = S.OpBytes a1 a2 a3 a4 a5 a6 a7 a8 a9 a10 a11 := by kernel_rfl
theorem good27 : Vm.Good Try.prog 27 E27 := by
  refine evF_good (G := G27) (c := c27) (envCons_good good24 (envCons_good good39 (envCons_good good9 envNil_good))) Try.func27 (by kernel_rfl) (by kernel_rfl) (0, 0) (fun args bs rs out t h h2 => ?_)
  unfold E27 at h
  split at h
  · injection h with h
    subst h
    exact ⟨rfl, L27, K27, lp27, (fun r t h => by unfold K27 at h; split at h; (injection h with h; subst h; rfl); cases h), (ev27 _ _ _ _ _ _ _ _ _ _ _).trans h2⟩
  · cases h
/-! ### I.in -/
noncomputable def G30 : Env := envNil
noncomputable def c30 : Code := bodyOf Try.f30
noncomputable def I.in (a1 a2 a3 : Int) : Option Bool :=
(bif (decide (a2 ≤ a1)) then
(some (decide (a1 ≤ a3)))
else
(some false))
noncomputable def R30 (x : Bool) : Res := ⟨[.one (ab x)], [], []⟩
noncomputable def K30 (r : Res) : Option Bool :=
  match r with
  | ⟨[.one (.val (.bool v1))], [], []⟩ => some (v1)
  | _ => none
noncomputable def E30 : Fun2 := fun args bs rs =>
  match args, bs, rs with
  | [.s1 (.one (.val (.int .i64 a1))), .s1 (.one (.val (.int .i64 a2))), .s1 (.one (.val (.int .i64 a3)))], [], [] => some ⟨Bool, I.in a1 a2 a3, R30⟩
  | _, _, _ => none
theorem ev30 (a1 a2 a3 : Int) : evF Try.prog G30 loopNil (0, 0) Try.f30 c30 [vi a1, vi a2, vi a3] [] [] K30 = I.in a1 a2 a3 := by kernel_rfl
theorem good30 : Vm.Good Try.prog 30 E30 := by
  refine evF_good (G := G30) (c := c30) envNil_good Try.func30 (by kernel_rfl) (by kernel_rfl) (0, 0) (fun args bs rs out t h h2 => ?_)
  unfold E30 at h
  split at h
  · injection h with h
    subst h
    exact ⟨rfl, loopNil, K30, (by intro x hx; simp [show loopsOf c30 = [] from by kernel_rfl] at hx), (fun r t h => by unfold K30 at h; split at h; (injection h with h; subst h; rfl); cases h), (ev30 _ _ _).trans h2⟩
  · cases h
/-! ### I.isSource -/
noncomputable def G45 : Env := (envCons 30 [] E30 envNil)
noncomputable def c45 : Code := bodyOf Try.f45
noncomputable def I.isSource (a1 : Int) : Option Bool :=
(Option.bind (I.in a1 0 3) fun r2 =>
(some r2))
noncomputable def R45 (x : Bool) : Res := ⟨[.one (ab x)], [], []⟩
noncomputable def K45 (r : Res) : Option Bool :=
  match r with
  | ⟨[.one (.val (.bool v1))], [], []⟩ => some (v1)
  | _ => none
noncomputable def E45 : Fun2 := fun args bs rs =>
  match args, bs, rs with
  | [.s1 (.one (.val (.int .i64 a1)))], [], [] => some ⟨Bool, I.isSource a1, R45⟩
  | _, _, _ => none
theorem ev45 (a1 : Int) : evF Try.prog G45 loopNil (0, 0) Try.f45 c45 [vi a1] [] [] K45 = I.isSource a1 := by kernel_rfl
theorem good45 : Vm.Good Try.prog 45 E45 := by
  refine evF_good (G := G45) (c := c45) (envCons_good good30 envNil_good) Try.func45 (by kernel_rfl) (by kernel_rfl) (0, 0) (fun args bs rs out t h h2 => ?_)
  unfold E45 at h
  split at h
  · injection h with h
    subst h
    exact ⟨rfl, loopNil, K45, (by intro x hx; simp [show loopsOf c45 = [] from by kernel_rfl] at hx), (fun r t h => by unfold K45 at h; split at h; (injection h with h; subst h; rfl); cases h), (ev45 _).trans h2⟩
  · cases h
/-! ### I.isKey -/
noncomputable def G48 : Env := (envCons 30 [] E30 envNil)
noncomputable def c48 : Code := bodyOf Try.f48
noncomputable def I.isKey (a1 : Int) : Option Bool :=
(Option.bind (I.in a1 0 15) fun r2 =>
(some r2))
noncomputable def R48 (x : Bool) : Res := ⟨[.one (ab x)], [], []⟩
noncomputable def K48 (r : Res) : Option Bool :=
  match r with
  | ⟨[.one (.val (.bool v1))], [], []⟩ => some (v1)
  | _ => none
noncomputable def E48 : Fun2 := fun args bs rs =>
  match args, bs, rs with
  | [.s1 (.one (.val (.int .i64 a1)))], [], [] => some ⟨Bool, I.isKey a1, R48⟩
  | _, _, _ => none
theorem ev48 (a1 : Int) : evF Try.prog G48 loopNil (0, 0) Try.f48 c48 [vi a1] [] [] K48 = I.isKey a1 := by kernel_rfl
theorem good48 : Vm.Good Try.prog 48 E48 := by
  refine evF_good (G := G48) (c := c48) (envCons_good good30 envNil_good) Try.func48 (by kernel_rfl) (by kernel_rfl) (0, 0) (fun args bs rs out t h h2 => ?_)
  unfold E48 at h
  split at h
  · injection h with h
    subst h
    exact ⟨rfl, loopNil, K48, (by intro x hx; simp [show loopsOf c48 = [] from by kernel_rfl] at hx), (fun r t h => by unfold K48 at h; split at h; (injection h with h; subst h; rfl); cases h), (ev48 _).trans h2⟩
  · cases h
/-! ### I.isTime -/
noncomputable def G46 : Env := (envCons 30 [] E30 envNil)
noncomputable def c46 : Code := bodyOf Try.f46
noncomputable def I.isTime (a1 : Int) : Option Bool :=
(Option.bind (I.in a1 0 1000) fun r2 =>
(some r2))
noncomputable def R46 (x : Bool) : Res := ⟨[.one (ab x)], [], []⟩
noncomputable def K46 (r : Res) : Option Bool :=
  match r with
  | ⟨[.one (.val (.bool v1))], [], []⟩ => some (v1)
  | _ => none
noncomputable def E46 : Fun2 := fun args bs rs =>
  match args, bs, rs with
  | [.s1 (.one (.val (.int .i64 a1)))], [], [] => some ⟨Bool, I.isTime a1, R46⟩
  | _, _, _ => none
theorem ev46 (a1 : Int) : evF Try.prog G46 loopNil (0, 0) Try.f46 c46 [vi a1] [] [] K46 = I.isTime a1 := by kernel_rfl
theorem good46 : Vm.Good Try.prog 46 E46 := by
  refine evF_good (G := G46) (c := c46) (envCons_good good30 envNil_good) Try.func46 (by kernel_rfl) (by kernel_rfl) (0, 0) (fun args bs rs out t h h2 => ?_)
  unfold E46 at h
  split at h
  · injection h with h
    subst h
    exact ⟨rfl, loopNil, K46, (by intro x hx; simp [show loopsOf c46 = [] from by kernel_rfl] at hx), (fun r t h => by unfold K46 at h; split at h; (injection h with h; subst h; rfl); cases h), (ev46 _).trans h2⟩
  · cases h
/-! ### I.isElem -/
noncomputable def G43 : Env := (envCons 45 [] E45 (envCons 48 [] E48 (envCons 46 [] E46 envNil)))
noncomputable def c43 : Code := bodyOf Try.f43
noncomputable def I.isElem (a1 a2 a3 a4 : Int) : Option Bool :=
(Option.bind (I.isSource a1) fun r5 =>
(bif r5 then
(Option.bind (I.isKey a2) fun r6 =>
(bif r6 then
(Option.bind (I.isTime a4) fun r7 =>
(some r7))
else
(some false)))
else
(some false)))
noncomputable def R43 (x : Bool) : Res := ⟨[.one (ab x)], [], []⟩
noncomputable def K43 (r : Res) : Option Bool :=
  match r with
  | ⟨[.one (.val (.bool v1))], [], []⟩ => some (v1)
  | _ => none
noncomputable def E43 : Fun2 := fun args bs rs =>
  match args, bs, rs with
  | [.s1 (.agg [.val (.int .i64 a1), .val (.int .i64 a2), .val (.int .i64 a3), .val (.int .i64 a4)])], [], [] => some ⟨Bool, I.isElem a1 a2 a3 a4, R43⟩
  | _, _, _ => none
theorem ev43 (a1 a2 a3 a4 : Int) : evF Try.prog G43 loopNil (0, 0) Try.f43 c43 [.s1 (.agg [ai a1, ai a2, ai a3, ai a4])] [] [] K43 = I.isElem a1 a2 a3 a4 := by kernel_rfl
theorem good43 : Vm.Good Try.prog 43 E43 := by
  refine evF_good (G := G43) (c := c43) (envCons_good good45 (envCons_good good48 (envCons_good good46 envNil_good))) Try.func43 (by kernel_rfl) (by kernel_rfl) (0, 0) (fun args bs rs out t h h2 => ?_)
  unfold E43 at h
  split at h
  · injection h with h
    subst h
    exact ⟨rfl, loopNil, K43, (by intro x hx; simp [show loopsOf c43 = [] from by kernel_rfl] at hx), (fun r t h => by unfold K43 at h; split at h; (injection h with h; subst h; rfl); cases h), (ev43 _ _ _ _).trans h2⟩
  · cases h
/-! ### I.Punct_isPlace -/
noncomputable def G44 : Env := (envCons 45 [] E45 (envCons 30 [] E30 (envCons 48 [] E48 envNil)))
noncomputable def c44 : Code := bodyOf Try.f44
noncomputable def I.Punct_isPlace (a1 a2 a3 a4 : Int) : Option Bool :=
(Option.bind (I.isSource a1) fun r5 =>
(bif r5 then
(Option.bind (I.in a2 0 4) fun r6 =>
(bif r6 then
(Option.bind (I.isKey a3) fun r7 =>
(some r7))
else
(some false)))
else
(some false)))
noncomputable def R44 (x : Bool) : Res := ⟨[.one (ab x)], [], []⟩
noncomputable def K44 (r : Res) : Option Bool :=
  match r with
  | ⟨[.one (.val (.bool v1))], [], []⟩ => some (v1)
  | _ => none
noncomputable def E44 : Fun2 := fun args bs rs =>
  match args, bs, rs with
  | [.s1 (.agg [.val (.int .i64 a1), .val (.int .i64 a2), .val (.int .i64 a3), .val (.int .i64 a4)])], [], [] => some ⟨Bool, I.Punct_isPlace a1 a2 a3 a4, R44⟩
  | _, _, _ => none
theorem ev44 (a1 a2 a3 a4 : Int) : evF Try.prog G44 loopNil (0, 0) Try.f44 c44 [.s1 (.agg [ai a1, ai a2, ai a3, ai a4])] [] [] K44 = I.Punct_isPlace a1 a2 a3 a4 := by kernel_rfl
theorem good44 : Vm.Good Try.prog 44 E44 := by
  refine evF_good (G := G44) (c := c44) (envCons_good good45 (envCons_good good30 (envCons_good good48 envNil_good))) Try.func44 (by kernel_rfl) (by kernel_rfl) (0, 0) (fun args bs rs out t h h2 => ?_)
  unfold E44 at h
  split at h
  · injection h with h
    subst h
    exact ⟨rfl, loopNil, K44, (by intro x hx; simp [show loopsOf c44 = [] from by kernel_rfl] at hx), (fun r t h => by unfold K44 at h; split at h; (injection h with h; subst h; rfl); cases h), (ev44 _ _ _ _).trans h2⟩
  · cases h
/-! ### I.isOp -/
noncomputable def G38 : Env := (envCons 43 [] E43 (envCons 44 [] E44 (envCons 30 [] E30 (envCons 45 [] E45 (envCons 46 [] E46 envNil)))))
noncomputable def c38 : Code := bodyOf Try.f38
noncomputable def I.isOp (a1 a2 a3 a4 a5 a6 a7 a8 a9 a10 a11 : Int) : Option Bool :=
(bif (a1 == 1) then
(let v12 : Bool := ((a1 == a1) && (((a2 == a2) && ((a3 == a3) && ((a4 == a4) && ((a5 == a5) && true)))) && (((a6 == 0) && ((a7 == 0) && ((a8 == 0) && ((a9 == 0) && true)))) && ((a10 == 0) && ((a11 == 0) && true)))))
(bif v12 then
(Option.bind (I.isElem a2 a3 a4 a5) fun r13 =>
(some r13))
else
(some false)))
else
(bif (a1 == 2) then
(let v14 : Bool := ((a1 == a1) && (((a2 == 0) && ((a3 == 0) && ((a4 == 0) && ((a5 == 0) && true)))) && (((a6 == a6) && ((a7 == a7) && ((a8 == a8) && ((a9 == a9) && true)))) && ((a10 == 0) && ((a11 == 0) && true)))))
(bif v14 then
(Option.bind (I.Punct_isPlace a6 a7 a8 a9) fun r15 =>
(bif r15 then
(Option.bind (I.in a9 0 15) fun r16 =>
(bif r16 then
(bif (a1 == 2) then
(some true)
else
(some (a9 == 0)))
else
(some false)))
else
(some false)))
else
(some false)))
else
(bif (a1 == 3) then
(let v17 : Bool := ((a1 == a1) && (((a2 == 0) && ((a3 == 0) && ((a4 == 0) && ((a5 == 0) && true)))) && (((a6 == a6) && ((a7 == a7) && ((a8 == a8) && ((a9 == a9) && true)))) && ((a10 == 0) && ((a11 == 0) && true)))))
(bif v17 then
(Option.bind (I.Punct_isPlace a6 a7 a8 a9) fun r18 =>
(bif r18 then
(Option.bind (I.in a9 0 15) fun r19 =>
(bif r19 then
(bif (a1 == 2) then
(some true)
else
(some (a9 == 0)))
else
(some false)))
else
(some false)))
else
(some false)))
else
(bif (a1 == 4) then
(dup (let v20 : Bool := ((a1 == a1) && (((a2 == 0) && ((a3 == 0) && ((a4 == 0) && ((a5 == 0) && true)))) && (((a6 == 0) && ((a7 == 0) && ((a8 == 0) && ((a9 == 0) && true)))) && ((a10 == a10) && ((a11 == a11) && true)))))
(bif v20 then
(Option.bind (I.isSource a10) fun r21 =>
(bif r21 then
(Option.bind (I.isTime a11) fun r22 =>
(some r22))
else
(some false)))
else
(some false))))
else
(bif (a1 == 5) then
(let v23 : Bool := ((a1 == a1) && (((a2 == 0) && ((a3 == 0) && ((a4 == 0) && ((a5 == 0) && true)))) && (((a6 == 0) && ((a7 == 0) && ((a8 == 0) && ((a9 == 0) && true)))) && ((a10 == a10) && ((a11 == 0) && true)))))
(bif v23 then
(Option.bind (I.isSource a10) fun r24 =>
(some r24))
else
(some false)))
else
(bif (a1 == 6) then
(let v25 : Bool := ((a1 == a1) && (((a2 == 0) && ((a3 == 0) && ((a4 == 0) && ((a5 == 0) && true)))) && (((a6 == 0) && ((a7 == 0) && ((a8 == 0) && ((a9 == 0) && true)))) && ((a10 == a10) && ((a11 == 0) && true)))))
(bif v25 then
(Option.bind (I.isSource a10) fun r26 =>
(some r26))
else
(some false)))
else
(bif (a1 == 7) then
(dup (let v27 : Bool := ((a1 == a1) && (((a2 == 0) && ((a3 == 0) && ((a4 == 0) && ((a5 == 0) && true)))) && (((a6 == 0) && ((a7 == 0) && ((a8 == 0) && ((a9 == 0) && true)))) && ((a10 == a10) && ((a11 == a11) && true)))))
(bif v27 then
(Option.bind (I.in a10 0 3) fun r28 =>
(bif r28 then
(Option.bind (I.in a11 0 1000000) fun r29 =>
(some r29))
else
(some false)))
else
(some false))))
else
(bif (a1 == 8) then
(dup (let v30 : Bool := ((a1 == a1) && (((a2 == 0) && ((a3 == 0) && ((a4 == 0) && ((a5 == 0) && true)))) && (((a6 == 0) && ((a7 == 0) && ((a8 == 0) && ((a9 == 0) && true)))) && ((a10 == a10) && ((a11 == a11) && true)))))
(bif v30 then
(Option.bind (I.in a10 0 3) fun r31 =>
(bif r31 then
(Option.bind (I.in a11 0 1000000) fun r32 =>
(some r32))
else
(some false)))
else
(some false))))
else
(bif (a1 == 9) then
(dup (let v33 : Bool := ((a1 == a1) && (((a2 == 0) && ((a3 == 0) && ((a4 == 0) && ((a5 == 0) && true)))) && (((a6 == 0) && ((a7 == 0) && ((a8 == 0) && ((a9 == 0) && true)))) && ((a10 == a10) && ((a11 == a11) && true)))))
(bif v33 then
(Option.bind (I.in a10 0 3) fun r34 =>
(bif r34 then
(Option.bind (I.in a11 0 1000000) fun r35 =>
(some r35))
else
(some false)))
else
(some false))))
else
(some false))))))))))
noncomputable def R38 (x : Bool) : Res := ⟨[.one (ab x)], [], []⟩
noncomputable def K38 (r : Res) : Option Bool :=
  match r with
  | ⟨[.one (.val (.bool v1))], [], []⟩ => some (v1)
  | _ => none
noncomputable def E38 : Fun2 := fun args bs rs =>
  match args, bs, rs with
  | [.s1 (.agg [.val (.int .i64 a1), .val (.int .i64 a2), .val (.int .i64 a3), .val (.int .i64 a4), .val (.int .i64 a5), .val (.int .i64 a6), .val (.int .i64 a7), .val (.int .i64 a8), .val (.int .i64 a9), .val (.int .i64 a10), .val (.int .i64 a11)])], [], [] => some ⟨Bool, I.isOp a1 a2 a3 a4 a5 a6 a7 a8 a9 a10 a11, R38⟩
  | _, _, _ => none
theorem ev38 (a1 a2 a3 a4 a5 a6 a7 a8 a9 a10 a11 : Int) : evF Try.prog G38 loopNil (0, 0) Try.f38 c38 [.s1 (.agg [ai a1, ai a2, ai a3, ai a4, ai a5, ai a6, ai a7, ai a8, ai a9, ai a10, ai a11])] [] [] K38 = I.isOp a1 a2 a3 a4 a5 a6 a7 a8 a9 a10 a11 := by kernel_rfl
theorem good38 : Vm.Good Try.prog 38 E38 := by
  refine evF_good (G := G38) (c := c38) (envCons_good good43 (envCons_good good44 (envCons_good good30 (envCons_good good45 (envCons_good good46 envNil_good))))) Try.func38 (by kernel_rfl) (by kernel_rfl) (0, 0) (fun args bs rs out t h h2 => ?_)
  unfold E38 at h
  split at h
  · injection h with h
    subst h
    exact ⟨rfl, loopNil, K38, (by intro x hx; simp [show loopsOf c38 = [] from by kernel_rfl] at hx), (fun r t h => by unfold K38 at h; split at h; (injection h with h; subst h; rfl); cases h), (ev38 _ _ _ _ _ _ _ _ _ _ _).trans h2⟩
  · cases h
/-! ### I.Op_fields -/
noncomputable def G47 : Env := envNil
noncomputable def c47 : Code := bodyOf Try.f47
noncomputable def I.Op_fields (a1 a2 a3 a4 a5 a6 a7 a8 a9 a10 a11 : Int) : Option (List Int) :=
(some [a1, a2, a3, a4, a5, a6, a7, a8, a9, a10, a11])
noncomputable def R47 (x : List Int) : Res := ⟨[.one (.sl 0)], [], [⟨3, (.int .i64), x, .own⟩]⟩
noncomputable def K47 (r : Res) : Option (List Int) :=
  match r with
  | ⟨[.one (.sl 0)], [], [⟨3, (.int .i64), v1, .own⟩]⟩ => some (v1)
  | _ => none
noncomputable def E47 : Fun2 := fun args bs rs =>
  match args, bs, rs with
  | [.s1 (.agg [.val (.int .i64 a1), .val (.int .i64 a2), .val (.int .i64 a3), .val (.int .i64 a4), .val (.int .i64 a5), .val (.int .i64 a6), .val (.int .i64 a7), .val (.int .i64 a8), .val (.int .i64 a9), .val (.int .i64 a10), .val (.int .i64 a11)])], [], [] => some ⟨List Int, I.Op_fields a1 a2 a3 a4 a5 a6 a7 a8 a9 a10 a11, R47⟩
  | _, _, _ => none
theorem ev47 (a1 a2 a3 a4 a5 a6 a7 a8 a9 a10 a11 : Int) : evF Try.prog G47 loopNil (0, 0) Try.f47 c47 [.s1 (.agg [ai a1, ai a2, ai a3, ai a4, ai a5, ai a6, ai a7, ai a8, ai a9, ai a10, ai a11])] [] [] K47 = I.Op_fields a1 a2 a3 a4 a5 a6 a7 a8 a9 a10 a11 := by kernel_rfl
theorem good47 : Vm.Good Try.prog 47 E47 := by
  refine evF_good (G := G47) (c := c47) envNil_good Try.func47 (by kernel_rfl) (by kernel_rfl) (0, 0) (fun args bs rs out t h h2 => ?_)
  unfold E47 at h
  split at h
  · injection h with h
    subst h
    exact ⟨rfl, loopNil, K47, (by intro x hx; simp [show loopsOf c47 = [] from by kernel_rfl] at hx), (fun r t h => by unfold K47 at h; split at h; (injection h with h; subst h; rfl); cases h), (ev47 _ _ _ _ _ _ _ _ _ _ _).trans h2⟩
  · cases h
/-! ### I.zigzag -/
noncomputable def G29 : Env := envNil
noncomputable def c29 : Code := bodyOf Try.f29
noncomputable def I.zigzag (a1 : Int) : Option Int :=
(bif decide (0 ≤ 1) then
(let v3 : Int := (IntKind.wrap .u64 ((IntKind.wrap .u64 a1) * 2 ^ min (Int.toNat 1) (IntKind.bits .u64)))
(bif decide (0 ≤ 63) then
(some (Go.bits .xor .u64 v3 (IntKind.wrap .u64 (Int.fdiv a1 (2 ^ min (Int.toNat 63) (IntKind.bits .i64))))))
else
none))
else
none)
noncomputable def R29 (x : Int) : Res := ⟨[.one (ak .u64 x)], [], []⟩
noncomputable def K29 (r : Res) : Option Int :=
  match r with
  | ⟨[.one (.val (.int .u64 v1))], [], []⟩ => some (v1)
  | _ => none
noncomputable def E29 : Fun2 := fun args bs rs =>
  match args, bs, rs with
  | [.s1 (.one (.val (.int .i64 a1)))], [], [] => some ⟨Int, I.zigzag a1, R29⟩
  | _, _, _ => none
theorem ev29 (a1 : Int) : evF Try.prog G29 loopNil (0, 0) Try.f29 c29 [vi a1] [] [] K29 = I.zigzag a1 := by kernel_rfl
theorem good29 : Vm.Good Try.prog 29 E29 := by
  refine evF_good (G := G29) (c := c29) envNil_good Try.func29 (by kernel_rfl) (by kernel_rfl) (0, 0) (fun args bs rs out t h h2 => ?_)
  unfold E29 at h
  split at h
  · injection h with h
    subst h
    exact ⟨rfl, loopNil, K29, (by intro x hx; simp [show loopsOf c29 = [] from by kernel_rfl] at hx), (fun r t h => by unfold K29 at h; split at h; (injection h with h; subst h; rfl); cases h), (ev29 _).trans h2⟩
  · cases h
/-! ### I.NumBytes -/
noncomputable def G10 : Env := (envCons 29 [] E29 envNil)
noncomputable def c10 : Code := bodyOf Try.f10
noncomputable def c10_3 : Code := (loopsOf c10).getD 0 .skip
noncomputable def I.NumBytes_l0 : Nat → (Int → List Int → Option (List Int)) → Int → List Int → Option (List Int)
  | 0, _, _, _ => none
  | m + 1, e3_0, a3, a4 =>
    (bif (decide (128 ≤ a3)) then
    (let v7 : Int := (Go.bits .or .u8 (IntKind.wrap .u8 a3) 128)
    (bif decide ((a4.length + [v7].length) * 1 ≤ 140737488355328) then
    (bif decide (0 ≤ 7) then
    (I.NumBytes_l0 m e3_0 (Int.fdiv a3 (2 ^ min (Int.toNat 7) (IntKind.bits .u64))) (a4 ++ [v7]))
    else
    none)
    else
    none))
    else
    (e3_0 a3 a4))
noncomputable def I.NumBytes (a1 : Int) : Option (List Int) :=
(Option.bind (I.zigzag a1) fun r2 =>
(I.NumBytes_l0 fu (fun y9 y10 =>
(let v11 : Int := (IntKind.wrap .u8 y9)
(bif decide ((y10.length + [v11].length) * 1 ≤ 140737488355328) then
(some (y10 ++ [v11]))
else
none))) r2 []))
noncomputable def H10_3 : LoopH := ⟨⟨(hu 3 ((.one (.sl 0)) :: hh :: (hu 18 []))), [], [(5, (.int .u8), .own)]⟩, [0, 1, 2, 5, 6, 7, 8, 9, 10, 11, 12, 13, 14, 15, 16, 17, 18, 19, 20, 21, 22], [], [0, 1, 5, 6, 7, 8, 9, 10, 11, 12, 13, 14, 15, 16, 17, 18, 19, 20, 21, 22]⟩
noncomputable def E10_3 (m : Nat) (ps : List Prm) (k : Kont (List Int)) : Option (List Int) :=
  match ps with
  | [.v (.int .u64 a3), .row (.int .u8) a4] => I.NumBytes_l0 m (fun z14 z15 => k (.exit 0) (⟨(vu 3 ((vl 0) :: (vk .u64 z14) :: (vu 18 []))), [], [⟨5, (.int .u8), z15, .own⟩]⟩ : St)) a3 a4
  | _ => none
noncomputable def S10_3 (a3 : Int) (a4 : List Int) : St := (⟨(vu 3 ((vl 0) :: (vk .u64 a3) :: (vu 18 []))), [], [⟨5, (.int .u8), a4, .own⟩]⟩ : St)
theorem ev10_3 (m : Nat) (k : Kont (List Int)) (a3 : Int) (a4 : List Int) : evC Try.prog G10 loopNil c10_3 (S10_3 a3 a4) (turn Try.prog (0, 0) H10_3 (E10_3 m) k) = E10_3 (m + 1) [.v (.int .u64 a3), .row (.int .u8) a4] k := by kernel_rfl
theorem ok10_3 (m : Nat) : LoopOk Try.prog (0, 0) c10_3 (enter Try.prog (0, 0) H10_3 (E10_3 m)) := by
  refine loop_ok (G := G10) (L := loopNil) (envCons_good good29 envNil_good) (by intro x hx; simp [show loopsOf c10_3 = [] from by kernel_rfl] at hx) (fun ps k => by unfold E10_3; split <;> rfl) (fun m ps k r h => ?_) m
  have h0 := h
  unfold E10_3 at h
  split at h
  · exact ⟨S10_3 _ _, by kernel_rfl, (ev10_3 m k _ _).trans h0⟩
  · cases h
noncomputable def L10 : LEnv (List Int) := (loopCons 3 (enter Try.prog (0, 0) H10_3 (E10_3 fu)) loopNil)
theorem lq10 : loopsOf c10 = [c10_3] := by kernel_rfl
theorem fr10_3 : firstReg c10_3 = some 3 := by kernel_rfl
theorem le10_3 : L10 3 = enter Try.prog (0, 0) H10_3 (E10_3 fu) := by kernel_rfl
theorem lm10 : ∀ x ∈ [c10_3], ∀ id, firstReg x = some id → LoopOk Try.prog (0, 0) x (L10 id) := (loops_cons fr10_3 le10_3 (ok10_3 fu) loops_nil)
theorem lp10 : ∀ x ∈ loopsOf c10, ∀ id, firstReg x = some id → LoopOk Try.prog (0, 0) x (L10 id) := loops_eq lq10 lm10
noncomputable def R10 (x : List Int) : Res := ⟨[.one (.sl 0)], [], [⟨5, (.int .u8), x, .own⟩]⟩
noncomputable def K10 (r : Res) : Option (List Int) :=
  match r with
  | ⟨[.one (.sl 0)], [], [⟨5, (.int .u8), v1, .own⟩]⟩ => some (v1)
  | _ => none
noncomputable def E10 : Fun2 := fun args bs rs =>
  match args, bs, rs with
  | [.s1 (.one (.val (.int .i64 a1)))], [], [] => some ⟨List Int, I.NumBytes a1, R10⟩
  | _, _, _ => none
theorem ev10 (a1 : Int) : evF Try.prog G10 L10 (0, 0) Try.f10 c10 [vi a1] [] [] K10 = I.NumBytes a1 := by kernel_rfl
theorem good10 : Vm.Good Try.prog 10 E10 := by
  refine evF_good (G := G10) (c := c10) (envCons_good good29 envNil_good) Try.func10 (by kernel_rfl) (by kernel_rfl) (0, 0) (fun args bs rs out t h h2 => ?_)
  unfold E10 at h
  split at h
  · injection h with h
    subst h
    exact ⟨rfl, L10, K10, lp10, (fun r t h => by unfold K10 at h; split at h; (injection h with h; subst h; rfl); cases h), (ev10 _).trans h2⟩
  · cases h
/-! ### I.opBytes -/
noncomputable def G40 : Env := (envCons 47 [] E47 (envCons 10 [] E10 envNil))
noncomputable def c40 : Code := bodyOf Try.f40
noncomputable def c40_3 : Code := (loopsOf c40).getD 0 .skip
noncomputable def I.opBytes_l0 : Nat → (List Int → Option (List Int)) → Int → Int → List Int → List Int → Option (List Int)
  | 0, _, _, _, _, _ => none
  | m + 1, e3_0, a14, a15, a16, a17 =>
    (bif (decide (a15 < a14)) then
    (bif decide (0 ≤ a15 ∧ a15 < (a17.length : Int)) then
    (Option.bind (I.NumBytes (nthI a17 a15 (0 : Int))) fun r20 =>
    (bif decide ((a16.length + r20.length) * 1 ≤ 140737488355328) then
    (I.opBytes_l0 m e3_0 a14 (IntKind.wrap .i64 (a15 + 1)) (a16 ++ r20) a17)
    else
    none))
    else
    none)
    else
    (e3_0 a16))
noncomputable def I.opBytes (a1 a2 a3 a4 a5 a6 a7 a8 a9 a10 a11 : Int) : Option (List Int) :=
(Option.bind (I.Op_fields a1 a2 a3 a4 a5 a6 a7 a8 a9 a10 a11) fun r12 =>
(I.opBytes_l0 fu (fun y22 =>
(some y22)) (r12.length : Int) 0 [] r12))
noncomputable def H40_3 : LoopH := ⟨⟨(hu 3 ((.one (.sl 0)) :: (hu 4 ((.one (.sl 1)) :: hh :: hh :: (hu 9 []))))), [], [(5, (.int .u8), .own), (3, (.int .i64), .own)]⟩, [0, 1, 2, 4, 5, 6, 7, 11, 12, 13, 14, 15, 16, 17, 18, 19], [], [0, 1, 4, 5, 6, 7, 8, 9, 10, 11, 12, 13, 14, 15, 16, 17, 18, 19]⟩
noncomputable def E40_3 (m : Nat) (ps : List Prm) (k : Kont (List Int)) : Option (List Int) :=
  match ps with
  | [.v (.int .i64 a14), .v (.int .i64 a15), .row (.int .u8) a16, .row (.int .i64) a17] => I.opBytes_l0 m (fun z24 => k (.exit 0) (⟨(vu 3 ((vl 0) :: (vu 16 []))), [], [⟨5, (.int .u8), z24, .own⟩]⟩ : St)) a14 a15 a16 a17
  | _ => none
noncomputable def S40_3 (a14 a15 : Int) (a16 a17 : List Int) : St := (⟨(vu 3 ((vl 0) :: (vu 4 ((vl 1) :: (vi a14) :: (vi a15) :: (vu 9 []))))), [], [⟨5, (.int .u8), a16, .own⟩, ⟨3, (.int .i64), a17, .own⟩]⟩ : St)
theorem ev40_3 (m : Nat) (k : Kont (List Int)) (a14 a15 : Int) (a16 a17 : List Int) : evC Try.prog G40 loopNil c40_3 (S40_3 a14 a15 a16 a17) (turn Try.prog (0, 0) H40_3 (E40_3 m) k) = E40_3 (m + 1) [.v (.int .i64 a14), .v (.int .i64 a15), .row (.int .u8) a16, .row (.int .i64) a17] k := by kernel_rfl
theorem ok40_3 (m : Nat) : LoopOk Try.prog (0, 0) c40_3 (enter Try.prog (0, 0) H40_3 (E40_3 m)) := by
  refine loop_ok (G := G40) (L := loopNil) (envCons_good good47 (envCons_good good10 envNil_good)) (by intro x hx; simp [show loopsOf c40_3 = [] from by kernel_rfl] at hx) (fun ps k => by unfold E40_3; split <;> rfl) (fun m ps k r h => ?_) m
  have h0 := h
  unfold E40_3 at h
  split at h
  · exact ⟨S40_3 _ _ _ _, by kernel_rfl, (ev40_3 m k _ _ _ _).trans h0⟩
  · cases h
noncomputable def L40 : LEnv (List Int) := (loopCons 3 (enter Try.prog (0, 0) H40_3 (E40_3 fu)) loopNil)
theorem lq40 : loopsOf c40 = [c40_3] := by kernel_rfl
theorem fr40_3 : firstReg c40_3 = some 3 := by kernel_rfl
theorem le40_3 : L40 3 = enter Try.prog (0, 0) H40_3 (E40_3 fu) := by kernel_rfl
theorem lm40 : ∀ x ∈ [c40_3], ∀ id, firstReg x = some id → LoopOk Try.prog (0, 0) x (L40 id) := (loops_cons fr40_3 le40_3 (ok40_3 fu) loops_nil)
theorem lp40 : ∀ x ∈ loopsOf c40, ∀ id, firstReg x = some id → LoopOk Try.prog (0, 0) x (L40 id) := loops_eq lq40 lm40
noncomputable def R40 (x : List Int) : Res := ⟨[.one (.sl 0)], [], [⟨5, (.int .u8), x, .own⟩]⟩
noncomputable def K40 (r : Res) : Option (List Int) :=
  match r with
  | ⟨[.one (.sl 0)], [], [⟨5, (.int .u8), v1, .own⟩]⟩ => some (v1)
  | _ => none
noncomputable def E40 : Fun2 := fun args bs rs =>
  match args, bs, rs with
  | [.s1 (.agg [.val (.int .i64 a1), .val (.int .i64 a2), .val (.int .i64 a3), .val (.int .i64 a4), .val (.int .i64 a5), .val (.int .i64 a6), .val (.int .i64 a7), .val (.int .i64 a8), .val (.int .i64 a9), .val (.int .i64 a10), .val (.int .i64 a11)])], [], [] => some ⟨List Int, I.opBytes a1 a2 a3 a4 a5 a6 a7 a8 a9 a10 a11, R40⟩
  | _, _, _ => none
theorem ev40 (a1 a2 a3 a4 a5 a6 a7 a8 a9 a10 a11 : Int) : evF Try.prog G40 L40 (0, 0) Try.f40 c40 [.s1 (.agg [ai a1, ai a2, ai a3, ai a4, ai a5, ai a6, ai a7, ai a8, ai a9, ai a10, ai a11])] [] [] K40 = I.opBytes a1 a2 a3 a4 a5 a6 a7 a8 a9 a10 a11 := by kernel_rfl
theorem good40 : Vm.Good Try.prog 40 E40 := by
  refine evF_good (G := G40) (c := c40) (envCons_good good47 (envCons_good good10 envNil_good)) Try.func40 (by kernel_rfl) (by kernel_rfl) (0, 0) (fun args bs rs out t h h2 => ?_)
  unfold E40 at h
  split at h
  · injection h with h
    subst h
    exact ⟨rfl, L40, K40, lp40, (fun r t h => by unfold K40 at h; split at h; (injection h with h; subst h; rfl); cases h), (ev40 _ _ _ _ _ _ _ _ _ _ _).trans h2⟩
  · cases h
/-! ### I.OpBytes -/
noncomputable def G28 : Env := (envCons 38 [] E38 (envCons 40 [] E40 envNil))
noncomputable def c28 : Code := bodyOf Try.f28
noncomputable def I.OpBytes (a1 a2 a3 a4 a5 a6 a7 a8 a9 a10 a11 : Int) : Option (List Int) :=
(Option.bind (I.isOp a1 a2 a3 a4 a5 a6 a7 a8 a9 a10 a11) fun r12 =>
(bif (!r12) then
(some [])
else
(Option.bind (I.opBytes a1 a2 a3 a4 a5 a6 a7 a8 a9 a10 a11) fun r13 =>
(some r13))))
noncomputable def R28 (x : List Int) : Res := ⟨[.one (.sl 0)], [], [⟨5, (.int .u8), x, .own⟩]⟩
noncomputable def K28 (r : Res) : Option (List Int) :=
  match r with
  | ⟨[.one (.sl 0)], [], [⟨5, (.int .u8), v1, .own⟩]⟩ => some (v1)
  | _ => none
noncomputable def E28 : Fun2 := fun args bs rs =>
  match args, bs, rs with
  | [.s1 (.agg [.val (.int .i64 a1), .val (.int .i64 a2), .val (.int .i64 a3), .val (.int .i64 a4), .val (.int .i64 a5), .val (.int .i64 a6), .val (.int .i64 a7), .val (.int .i64 a8), .val (.int .i64 a9), .val (.int .i64 a10), .val (.int .i64 a11)])], [], [] => some ⟨List Int, I.OpBytes a1 a2 a3 a4 a5 a6 a7 a8 a9 a10 a11, R28⟩
  | _, _, _ => none
theorem ev28 (a1 a2 a3 a4 a5 a6 a7 a8 a9 a10 a11 : Int) : evF Try.prog G28 loopNil (0, 0) Try.f28 c28 [.s1 (.agg [ai a1, ai a2, ai a3, ai a4, ai a5, ai a6, ai a7, ai a8, ai a9, ai a10, ai a11])] [] [] K28 = I.OpBytes a1 a2 a3 a4 a5 a6 a7 a8 a9 a10 a11 := by kernel_rfl
theorem good28 : Vm.Good Try.prog 28 E28 := by
  refine evF_good (G := G28) (c := c28) (envCons_good good38 (envCons_good good40 envNil_good)) Try.func28 (by kernel_rfl) (by kernel_rfl) (0, 0) (fun args bs rs out t h h2 => ?_)
  unfold E28 at h
  split at h
  · injection h with h
    subst h
    exact ⟨rfl, loopNil, K28, (by intro x hx; simp [show loopsOf c28 = [] from by kernel_rfl] at hx), (fun r t h => by unfold K28 at h; split at h; (injection h with h; subst h; rfl); cases h), (ev28 _ _ _ _ _ _ _ _ _ _ _).trans h2⟩
  · cases h
/-! ### L.eqByteS -/
noncomputable def G11 : Env := envNil
noncomputable def c11 : Code := bodyOf Try.f11
noncomputable def c11_4 : Code := (loopsOf c11).getD 0 .skip
noncomputable def L.eqByteS_l0 : Nat → (Bool → Option Bool) → (Option Bool) → Int → List Int → List Int → Option Bool
  | 0, _, _, _, _, _ => none
  | m + 1, e4_0, e4_1, a5, a6, a7 =>
    (bif (decide (a5 < (a6.length : Int))) then
    (bif decide (0 ≤ a5 ∧ a5 < (a6.length : Int)) then
    (bif decide (0 ≤ a5 ∧ a5 < (a7.length : Int)) then
    (bif ((nthI a6 a5 (0 : Int)) != (nthI a7 a5 (0 : Int))) then
    (e4_0 false)
    else
    (L.eqByteS_l0 m e4_0 e4_1 (IntKind.wrap .i64 (a5 + 1)) a6 a7))
    else
    none)
    else
    none)
    else
    e4_1)
noncomputable def L.eqByteS (a1 a2 : List Int) : Option Bool :=
(bif ((a1.length : Int) != (a2.length : Int)) then
(some false)
else
(L.eqByteS_l0 fu (fun y12 =>
(some y12)) (some true) 0 a1 a2))
noncomputable def H11_4 : LoopH := ⟨⟨((.one (.sl 0)) :: (.one (.sl 1)) :: (hu 3 (hh :: (hu 20 [])))), [], [(5, (.int .u8), .ro), (5, (.int .u8), .ro)]⟩, [2, 3, 4, 6, 7, 8, 9, 10, 11, 12, 13, 14, 15, 16, 17, 18, 19, 20, 21, 22, 23, 24, 25], [], [0, 1, 2, 3, 5, 6, 7, 8, 9, 10, 11, 12, 13, 14, 15, 16, 17, 18, 19, 20, 21, 22, 23, 24, 25]⟩
noncomputable def E11_4 (m : Nat) (ps : List Prm) (k : Kont Bool) : Option Bool :=
  match ps with
  | [.v (.int .i64 a5), .row (.int .u8) a6, .row (.int .u8) a7] => L.eqByteS_l0 m (fun z14 => k .ret (⟨(vu 4 ((vb z14) :: (vu 21 []))), [], []⟩ : St)) (k (.exit 0) (⟨(vu 26 []), [], []⟩ : St)) a5 a6 a7
  | _ => none
noncomputable def S11_4 (a5 : Int) (a6 a7 : List Int) : St := (⟨((vl 0) :: (vl 1) :: (vu 3 ((vi a5) :: (vu 20 [])))), [], [⟨5, (.int .u8), a6, .ro⟩, ⟨5, (.int .u8), a7, .ro⟩]⟩ : St)
theorem ev11_4 (m : Nat) (k : Kont Bool) (a5 : Int) (a6 a7 : List Int) : evC Try.prog G11 loopNil c11_4 (S11_4 a5 a6 a7) (turn Try.prog (0, 0) H11_4 (E11_4 m) k) = E11_4 (m + 1) [.v (.int .i64 a5), .row (.int .u8) a6, .row (.int .u8) a7] k := by kernel_rfl
theorem ok11_4 (m : Nat) : LoopOk Try.prog (0, 0) c11_4 (enter Try.prog (0, 0) H11_4 (E11_4 m)) := by
  refine loop_ok (G := G11) (L := loopNil) envNil_good (by intro x hx; simp [show loopsOf c11_4 = [] from by kernel_rfl] at hx) (fun ps k => by unfold E11_4; split <;> rfl) (fun m ps k r h => ?_) m
  have h0 := h
  unfold E11_4 at h
  split at h
  · exact ⟨S11_4 _ _ _, by kernel_rfl, (ev11_4 m k _ _ _).trans h0⟩
  · cases h
noncomputable def L11 : LEnv Bool := (loopCons 4 (enter Try.prog (0, 0) H11_4 (E11_4 fu)) loopNil)
theorem lq11 : loopsOf c11 = [c11_4] := by kernel_rfl
theorem fr11_4 : firstReg c11_4 = some 4 := by kernel_rfl
theorem le11_4 : L11 4 = enter Try.prog (0, 0) H11_4 (E11_4 fu) := by kernel_rfl
theorem lm11 : ∀ x ∈ [c11_4], ∀ id, firstReg x = some id → LoopOk Try.prog (0, 0) x (L11 id) := (loops_cons fr11_4 le11_4 (ok11_4 fu) loops_nil)
theorem lp11 : ∀ x ∈ loopsOf c11, ∀ id, firstReg x = some id → LoopOk Try.prog (0, 0) x (L11 id) := loops_eq lq11 lm11
noncomputable def R11 (x : Bool) : Res := ⟨[.one (ab x)], [], []⟩
noncomputable def K11 (r : Res) : Option Bool :=
  match r with
  | ⟨[.one (.val (.bool v1))], [], []⟩ => some (v1)
  | _ => none
noncomputable def E11 : Fun2 := fun args bs rs =>
  match args, bs, rs with
  | [.s1 (.one (.sl 0)), .s1 (.one (.sl 1))], [], [⟨5, (.int .u8), a1, .ro⟩, ⟨5, (.int .u8), a2, .ro⟩] => some ⟨Bool, L.eqByteS a1 a2, R11⟩
  | _, _, _ => none
theorem ev11 (a1 a2 : List Int) : evF Try.prog G11 L11 (0, 0) Try.f11 c11 [vl 0, vl 1] [] [⟨5, (.int .u8), a1, .ro⟩, ⟨5, (.int .u8), a2, .ro⟩] K11 = L.eqByteS a1 a2 := by kernel_rfl
theorem good11 : Vm.Good Try.prog 11 E11 := by
  refine evF_good (G := G11) (c := c11) envNil_good Try.func11 (by kernel_rfl) (by kernel_rfl) (0, 0) (fun args bs rs out t h h2 => ?_)
  unfold E11 at h
  split at h
  · injection h with h
    subst h
    exact ⟨rfl, L11, K11, lp11, (fun r t h => by unfold K11 at h; split at h; (injection h with h; subst h; rfl); cases h), (ev11 _ _).trans h2⟩
  · cases h
/-! ### L.markByteS -/
noncomputable def G12 : Env := envNil
noncomputable def c12 : Code := bodyOf Try.f12
noncomputable def c12_2 : Code := (loopsOf c12).getD 0 .skip
noncomputable def L.markByteS_l0 : Nat → (Int → List Int → Option (Int × List Int)) → Int → Int → List Int → Option (Int × List Int)
  | 0, _, _, _, _ => none
  | m + 1, e2_0, a3, a4, a5 =>
    (bif (decide (a4 < (a5.length : Int))) then
    (bif decide (0 ≤ a4 ∧ a4 < (a5.length : Int)) then
    (L.markByteS_l0 m e2_0 (IntKind.wrap .i64 (a3 + 1)) (IntKind.wrap .i64 (a4 + 1)) (a5.set (Int.toNat a4) (IntKind.wrap .u8 a3)))
    else
    none)
    else
    (e2_0 a3 a5))
noncomputable def L.markByteS (a1 : Int) (a2 : List Int) : Option (Int × List Int) :=
(L.markByteS_l0 fu (fun y12 y13 =>
(some (y12, y13))) a1 0 a2)
noncomputable def H12_2 : LoopH := ⟨⟨((.one (.sl 0)) :: hh :: (hu 3 (hh :: (hu 14 [])))), [], [(5, (.int .u8), .own)]⟩, [2, 3, 4, 6, 7, 8, 9, 10, 11, 12, 13, 14, 15, 16, 17, 18, 19], [], [0, 2, 3, 5, 6, 7, 8, 9, 10, 11, 12, 13, 14, 15, 16, 17, 18, 19]⟩
noncomputable def E12_2 (m : Nat) (ps : List Prm) (k : Kont (Int × List Int)) : Option (Int × List Int) :=
  match ps with
  | [.v (.int .i64 a3), .v (.int .i64 a4), .row (.int .u8) a5] => L.markByteS_l0 m (fun z16 z17 => k (.exit 0) (⟨((.s1 (.one (.unk))) :: (vi z16) :: (vu 18 [])), [], [⟨5, (.int .u8), z17, .own⟩]⟩ : St)) a3 a4 a5
  | _ => none
noncomputable def S12_2 (a3 a4 : Int) (a5 : List Int) : St := (⟨((vl 0) :: (vi a3) :: (vu 3 ((vi a4) :: (vu 14 [])))), [], [⟨5, (.int .u8), a5, .own⟩]⟩ : St)
theorem ev12_2 (m : Nat) (k : Kont (Int × List Int)) (a3 a4 : Int) (a5 : List Int) : evC Try.prog G12 loopNil c12_2 (S12_2 a3 a4 a5) (turn Try.prog (0, 1) H12_2 (E12_2 m) k) = E12_2 (m + 1) [.v (.int .i64 a3), .v (.int .i64 a4), .row (.int .u8) a5] k := by kernel_rfl
theorem ok12_2 (m : Nat) : LoopOk Try.prog (0, 1) c12_2 (enter Try.prog (0, 1) H12_2 (E12_2 m)) := by
  refine loop_ok (G := G12) (L := loopNil) envNil_good (by intro x hx; simp [show loopsOf c12_2 = [] from by kernel_rfl] at hx) (fun ps k => by unfold E12_2; split <;> rfl) (fun m ps k r h => ?_) m
  have h0 := h
  unfold E12_2 at h
  split at h
  · exact ⟨S12_2 _ _ _, by kernel_rfl, (ev12_2 m k _ _ _).trans h0⟩
  · cases h
noncomputable def L12 : LEnv (Int × List Int) := (loopCons 2 (enter Try.prog (0, 1) H12_2 (E12_2 fu)) loopNil)
theorem lq12 : loopsOf c12 = [c12_2] := by kernel_rfl
theorem fr12_2 : firstReg c12_2 = some 2 := by kernel_rfl
theorem le12_2 : L12 2 = enter Try.prog (0, 1) H12_2 (E12_2 fu) := by kernel_rfl
theorem lm12 : ∀ x ∈ [c12_2], ∀ id, firstReg x = some id → LoopOk Try.prog (0, 1) x (L12 id) := (loops_cons fr12_2 le12_2 (ok12_2 fu) loops_nil)
theorem lp12 : ∀ x ∈ loopsOf c12, ∀ id, firstReg x = some id → LoopOk Try.prog (0, 1) x (L12 id) := loops_eq lq12 lm12
noncomputable def R12 (x : Int × List Int) : Res := ⟨[.one (ai x.1)], [], [⟨5, (.int .u8), x.2, .own⟩]⟩
noncomputable def K12 (r : Res) : Option (Int × List Int) :=
  match r with
  | ⟨[.one (.val (.int .i64 v1))], [], [⟨5, (.int .u8), v2, .own⟩]⟩ => some (v1, v2)
  | _ => none
noncomputable def E12 : Fun2 := fun args bs rs =>
  match args, bs, rs with
  | [.s1 (.one (.sl 0)), .s1 (.one (.val (.int .i64 a1)))], [], [⟨5, (.int .u8), a2, .own⟩] => some ⟨Int × List Int, L.markByteS a1 a2, R12⟩
  | _, _, _ => none
theorem ev12 (a1 : Int) (a2 : List Int) : evF Try.prog G12 L12 (0, 1) Try.f12 c12 [vl 0, vi a1] [] [⟨5, (.int .u8), a2, .own⟩] K12 = L.markByteS a1 a2 := by kernel_rfl
theorem good12 : Vm.Good Try.prog 12 E12 := by
  refine evF_good (G := G12) (c := c12) envNil_good Try.func12 (by kernel_rfl) (by kernel_rfl) (0, 1) (fun args bs rs out t h h2 => ?_)
  unfold E12 at h
  split at h
  · injection h with h
    subst h
    exact ⟨rfl, L12, K12, lp12, (fun r t h => by unfold K12 at h; split at h; (injection h with h; subst h; rfl); cases h), (ev12 _ _).trans h2⟩
  · cases h
/-! ### L.heldByteS -/
noncomputable def G13 : Env := envNil
noncomputable def c13 : Code := bodyOf Try.f13
noncomputable def c13_2 : Code := (loopsOf c13).getD 0 .skip
noncomputable def L.heldByteS_l0 : Nat → (Int → Int → Option Int) → (Int → Option Int) → Int → Int → List Int → Option Int
  | 0, _, _, _, _, _ => none
  | m + 1, e2_0, e2_1, a3, a4, a5 =>
    (bif (decide (a4 < (a5.length : Int))) then
    (bif decide (0 ≤ a4 ∧ a4 < (a5.length : Int)) then
    (bif ((nthI a5 a4 (0 : Int)) != (IntKind.wrap .u8 a3)) then
    (e2_0 a3 (-1))
    else
    (L.heldByteS_l0 m e2_0 e2_1 (IntKind.wrap .i64 (a3 + 1)) (IntKind.wrap .i64 (a4 + 1)) a5))
    else
    none)
    else
    (e2_1 a3))
noncomputable def L.heldByteS (a1 : Int) (a2 : List Int) : Option Int :=
(L.heldByteS_l0 fu (fun y12 y13 =>
(some y13)) (fun y14 =>
(some y14)) a1 0 a2)
noncomputable def H13_2 : LoopH := ⟨⟨((.one (.sl 0)) :: hh :: (hu 3 (hh :: (hu 16 [])))), [], [(5, (.int .u8), .ro)]⟩, [2, 3, 4, 6, 7, 8, 9, 10, 11, 12, 13, 14, 15, 16, 17, 18, 19, 20, 21], [], [0, 2, 3, 5, 6, 7, 8, 9, 10, 11, 12, 13, 14, 15, 16, 17, 18, 19, 20, 21]⟩
noncomputable def E13_2 (m : Nat) (ps : List Prm) (k : Kont Int) : Option Int :=
  match ps with
  | [.v (.int .i64 a3), .v (.int .i64 a4), .row (.int .u8) a5] => L.heldByteS_l0 m (fun z18 z19 => k .ret (⟨((.s1 (.one (.unk))) :: (vi z18) :: (vu 2 ((vi z19) :: (vu 17 [])))), [], []⟩ : St)) (fun z20 => k (.exit 0) (⟨((.s1 (.one (.unk))) :: (vi z20) :: (vu 20 [])), [], []⟩ : St)) a3 a4 a5
  | _ => none
noncomputable def S13_2 (a3 a4 : Int) (a5 : List Int) : St := (⟨((vl 0) :: (vi a3) :: (vu 3 ((vi a4) :: (vu 16 [])))), [], [⟨5, (.int .u8), a5, .ro⟩]⟩ : St)
theorem ev13_2 (m : Nat) (k : Kont Int) (a3 a4 : Int) (a5 : List Int) : evC Try.prog G13 loopNil c13_2 (S13_2 a3 a4 a5) (turn Try.prog (0, 0) H13_2 (E13_2 m) k) = E13_2 (m + 1) [.v (.int .i64 a3), .v (.int .i64 a4), .row (.int .u8) a5] k := by kernel_rfl
theorem ok13_2 (m : Nat) : LoopOk Try.prog (0, 0) c13_2 (enter Try.prog (0, 0) H13_2 (E13_2 m)) := by
  refine loop_ok (G := G13) (L := loopNil) envNil_good (by intro x hx; simp [show loopsOf c13_2 = [] from by kernel_rfl] at hx) (fun ps k => by unfold E13_2; split <;> rfl) (fun m ps k r h => ?_) m
  have h0 := h
  unfold E13_2 at h
  split at h
  · exact ⟨S13_2 _ _ _, by kernel_rfl, (ev13_2 m k _ _ _).trans h0⟩
  · cases h
noncomputable def L13 : LEnv Int := (loopCons 2 (enter Try.prog (0, 0) H13_2 (E13_2 fu)) loopNil)
theorem lq13 : loopsOf c13 = [c13_2] := by kernel_rfl
theorem fr13_2 : firstReg c13_2 = some 2 := by kernel_rfl
theorem le13_2 : L13 2 = enter Try.prog (0, 0) H13_2 (E13_2 fu) := by kernel_rfl
theorem lm13 : ∀ x ∈ [c13_2], ∀ id, firstReg x = some id → LoopOk Try.prog (0, 0) x (L13 id) := (loops_cons fr13_2 le13_2 (ok13_2 fu) loops_nil)
theorem lp13 : ∀ x ∈ loopsOf c13, ∀ id, firstReg x = some id → LoopOk Try.prog (0, 0) x (L13 id) := loops_eq lq13 lm13
noncomputable def R13 (x : Int) : Res := ⟨[.one (ai x)], [], []⟩
noncomputable def K13 (r : Res) : Option Int :=
  match r with
  | ⟨[.one (.val (.int .i64 v1))], [], []⟩ => some (v1)
  | _ => none
noncomputable def E13 : Fun2 := fun args bs rs =>
  match args, bs, rs with
  | [.s1 (.one (.sl 0)), .s1 (.one (.val (.int .i64 a1)))], [], [⟨5, (.int .u8), a2, .ro⟩] => some ⟨Int, L.heldByteS a1 a2, R13⟩
  | _, _, _ => none
theorem ev13 (a1 : Int) (a2 : List Int) : evF Try.prog G13 L13 (0, 0) Try.f13 c13 [vl 0, vi a1] [] [⟨5, (.int .u8), a2, .ro⟩] K13 = L.heldByteS a1 a2 := by kernel_rfl
theorem good13 : Vm.Good Try.prog 13 E13 := by
  refine evF_good (G := G13) (c := c13) envNil_good Try.func13 (by kernel_rfl) (by kernel_rfl) (0, 0) (fun args bs rs out t h h2 => ?_)
  unfold E13 at h
  split at h
  · injection h with h
    subst h
    exact ⟨rfl, L13, K13, lp13, (fun r t h => by unfold K13 at h; split at h; (injection h with h; subst h; rfl); cases h), (ev13 _ _).trans h2⟩
  · cases h
/-! ### L.FnExactOpBytes -/
noncomputable def G8 : Env := (envCons 25 [] E25 (envCons 27 [] E27 (envCons 28 [] E28 (envCons 11 [] E11 (envCons 12 [0] E12 (envCons 13 [] E13 envNil))))))
noncomputable def c8 : Code := bodyOf Try.f8
noncomputable def L.FnExactOpBytes (a1 a2 a3 a4 a5 a6 a7 a8 a9 a10 a11 : Int) : Option Bool :=
(Option.bind (L.toOp a1 a2 a3 a4 a5 a6 a7 a8 a9 a10 a11) fun r12 =>
(Option.bind (S.OpBytes r12.1 r12.2.1 r12.2.2.1 r12.2.2.2.1 r12.2.2.2.2.1 r12.2.2.2.2.2.1 r12.2.2.2.2.2.2.1 r12.2.2.2.2.2.2.2.1 r12.2.2.2.2.2.2.2.2.1 r12.2.2.2.2.2.2.2.2.2.1 r12.2.2.2.2.2.2.2.2.2.2) fun r13 =>
(Option.bind (L.toOp a1 a2 a3 a4 a5 a6 a7 a8 a9 a10 a11) fun r14 =>
(Option.bind (I.OpBytes r14.1 r14.2.1 r14.2.2.1 r14.2.2.2.1 r14.2.2.2.2.1 r14.2.2.2.2.2.1 r14.2.2.2.2.2.2.1 r14.2.2.2.2.2.2.2.1 r14.2.2.2.2.2.2.2.2.1 r14.2.2.2.2.2.2.2.2.2.1 r14.2.2.2.2.2.2.2.2.2.2) fun r15 =>
(Option.bind (L.eqByteS r15 r13) fun r16 =>
(bif (!r16) then
(some false)
else
(Option.bind (L.markByteS 1 r15) fun r17 =>
(Option.bind (L.heldByteS 1 r17.2) fun r18 =>
(bif (decide (r18 < 0)) then
(some false)
else
(bif (r18 != r17.1) then
(some false)
else
(Option.bind (L.toOp a1 a2 a3 a4 a5 a6 a7 a8 a9 a10 a11) fun r20 =>
(Option.bind (I.OpBytes r20.1 r20.2.1 r20.2.2.1 r20.2.2.2.1 r20.2.2.2.2.1 r20.2.2.2.2.2.1 r20.2.2.2.2.2.2.1 r20.2.2.2.2.2.2.2.1 r20.2.2.2.2.2.2.2.2.1 r20.2.2.2.2.2.2.2.2.2.1 r20.2.2.2.2.2.2.2.2.2.2) fun r21 =>
(Option.bind (L.eqByteS r21 r13) fun r22 =>
(bif (!r22) then
(some false)
else
(Option.bind (L.heldByteS 1 r17.2) fun r23 =>
(bif (decide (r23 < 0)) then
(some false)
else
(bif (r23 != r17.1) then
(some false)
else
(some true))))))))))))))))))
noncomputable def R8 (x : Bool) : Res := ⟨[.one (ab x)], [], []⟩
noncomputable def K8 (r : Res) : Option Bool :=
  match r with
  | ⟨[.one (.val (.bool v1))], [], []⟩ => some (v1)
  | _ => none
noncomputable def E8 : Fun2 := fun args bs rs =>
  match args, bs, rs with
  | [.s1 (.agg [.val (.int .i64 a1), .val (.int .i64 a2), .val (.int .i64 a3), .val (.int .i64 a4), .val (.int .i64 a5), .val (.int .i64 a6), .val (.int .i64 a7), .val (.int .i64 a8), .val (.int .i64 a9), .val (.int .i64 a10), .val (.int .i64 a11)])], [], [] => some ⟨Bool, L.FnExactOpBytes a1 a2 a3 a4 a5 a6 a7 a8 a9 a10 a11, R8⟩
  | _, _, _ => none
theorem ev8 (a1 a2 a3 a4 a5 a6 a7 a8 a9 a10 a11 : Int) : evF Try.prog G8 loopNil (0, 0) Try.f8 c8 [.s1 (.agg [ai a1, ai a2, ai a3, ai a4, ai a5, ai a6, ai a7, ai a8, ai a9, ai a10, ai a11])] [] [] K8 = L.FnExactOpBytes a1 a2 a3 a4 a5 a6 a7 a8 a9 a10 a11 := by kernel_rfl
theorem good8 : Vm.Good Try.prog 8 E8 := by
  refine evF_good (G := G8) (c := c8) (envCons_good good25 (envCons_good good27 (envCons_good good28 (envCons_good good11 (envCons_good good12 (envCons_good good13 envNil_good)))))) Try.func8 (by kernel_rfl) (by kernel_rfl) (0, 0) (fun args bs rs out t h h2 => ?_)
  unfold E8 at h
  split at h
  · injection h with h
    subst h
    exact ⟨rfl, loopNil, K8, (by intro x hx; simp [show loopsOf c8 = [] from by kernel_rfl] at hx), (fun r t h => by unfold K8 at h; split at h; (injection h with h; subst h; rfl); cases h), (ev8 _ _ _ _ _ _ _ _ _ _ _).trans h2⟩
  · cases h
end Go.Proofs.Ytpfjklmobjjgpaa.Run
