import Derived.Test.YtpfjklmobjjgpaaSimU
import Derived.Test.YtpfjklmobjjgpaaProg
namespace Go.Proofs.Ytpfjklmobjjgpaa.Run
open Go Go.RowKit Go.Proofs.YtpfjklmobjjgpaaW.PrintWords Go.Proofs.Ytpfjklmobjjgpaa.Sim
set_option linter.unusedVariables false
set_option maxRecDepth 100000

/-! ### f33: S.l04Src -/
noncomputable def G33 : Env Unit := envNil
noncomputable def c33 : Code := bodyOf Try.f33
noncomputable def S.l04Src (ret : Bool → Option Unit) (a1 : Int) : Option Unit :=
(bif (decide (0 ≤ a1)) then
(ret (decide (a1 < 4)))
else
(ret false))
noncomputable def E33 : Fun1 Unit := fun args K =>
  match args with
  | [.one (.sc (.int .i64 a1))] => S.l04Src (fun v1 => K [.one (.sc (.bool v1))]) a1
  | _ => none
theorem ev33 (K : List RV → Option Unit) (a1 : Int) : evF Try.prog G33 loopNil Try.f33 c33 [.one (.sc (.int .i64 a1))] K = S.l04Src (fun v1 => K [.one (.sc (.bool v1))]) a1 := by kernel_rfl
theorem good33 : Sim.Good Try.prog 33 E33 := by
  refine evF_good (G := G33) (L := loopNil) (c := c33) envNil_good Try.func33 (by kernel_rfl) (by kernel_rfl) (by intro x hx; simp [show loopsOf c33 = [] from by kernel_rfl] at hx) (fun args K r h => ?_)
  unfold E33 at h
  split at h
  · exact (ev33 K _).trans h
  · cases h
/-! ### f34: S.l05Time -/
noncomputable def G34 : Env Unit := envNil
noncomputable def c34 : Code := bodyOf Try.f34
noncomputable def S.l05Time (ret : Bool → Option Unit) (a1 : Int) : Option Unit :=
(bif (decide (0 ≤ a1)) then
(ret (decide (a1 ≤ 1000)))
else
(ret false))
noncomputable def E34 : Fun1 Unit := fun args K =>
  match args with
  | [.one (.sc (.int .i64 a1))] => S.l05Time (fun v1 => K [.one (.sc (.bool v1))]) a1
  | _ => none
theorem ev34 (K : List RV → Option Unit) (a1 : Int) : evF Try.prog G34 loopNil Try.f34 c34 [.one (.sc (.int .i64 a1))] K = S.l05Time (fun v1 => K [.one (.sc (.bool v1))]) a1 := by kernel_rfl
theorem good34 : Sim.Good Try.prog 34 E34 := by
  refine evF_good (G := G34) (L := loopNil) (c := c34) envNil_good Try.func34 (by kernel_rfl) (by kernel_rfl) (by intro x hx; simp [show loopsOf c34 = [] from by kernel_rfl] at hx) (fun args K r h => ?_)
  unfold E34 at h
  split at h
  · exact (ev34 K _).trans h
  · cases h
/-! ### f41: S.l04Key -/
noncomputable def G41 : Env Unit := envNil
noncomputable def c41 : Code := bodyOf Try.f41
noncomputable def S.l04Key (ret : Bool → Option Unit) (a1 : Int) : Option Unit :=
(bif (decide (0 ≤ a1)) then
(ret (decide (a1 ≤ 15)))
else
(ret false))
noncomputable def E41 : Fun1 Unit := fun args K =>
  match args with
  | [.one (.sc (.int .i64 a1))] => S.l04Key (fun v1 => K [.one (.sc (.bool v1))]) a1
  | _ => none
theorem ev41 (K : List RV → Option Unit) (a1 : Int) : evF Try.prog G41 loopNil Try.f41 c41 [.one (.sc (.int .i64 a1))] K = S.l04Key (fun v1 => K [.one (.sc (.bool v1))]) a1 := by kernel_rfl
theorem good41 : Sim.Good Try.prog 41 E41 := by
  refine evF_good (G := G41) (L := loopNil) (c := c41) envNil_good Try.func41 (by kernel_rfl) (by kernel_rfl) (by intro x hx; simp [show loopsOf c41 = [] from by kernel_rfl] at hx) (fun args K r h => ?_)
  unfold E41 at h
  split at h
  · exact (ev41 K _).trans h
  · cases h
/-! ### f31: S.ElemOk -/
noncomputable def G31 : Env Unit := (envCons 33 E33 (envCons 34 E34 (envCons 41 E41 envNil)))
noncomputable def c31 : Code := bodyOf Try.f31
noncomputable def S.ElemOk (ret : Bool → Option Unit) (a1 : Int) (a2 : Int) (a3 : Int) (a4 : Int) : Option Unit :=
(S.l04Src (fun r5 =>
(bif r5 then
(S.l04Key (fun r6 =>
(bif r6 then
(S.l05Time (fun r7 =>
(ret r7)) a4)
else
(ret false))) a2)
else
(ret false))) a1)
noncomputable def E31 : Fun1 Unit := fun args K =>
  match args with
  | [.agg [.sc (.int .i64 a1), .sc (.int .i64 a2), .sc (.int .i64 a3), .sc (.int .i64 a4)]] => S.ElemOk (fun v1 => K [.one (.sc (.bool v1))]) a1 a2 a3 a4
  | _ => none
theorem ev31 (K : List RV → Option Unit) (a1 : Int) (a2 : Int) (a3 : Int) (a4 : Int) : evF Try.prog G31 loopNil Try.f31 c31 [.agg [.sc (.int .i64 a1), .sc (.int .i64 a2), .sc (.int .i64 a3), .sc (.int .i64 a4)]] K = S.ElemOk (fun v1 => K [.one (.sc (.bool v1))]) a1 a2 a3 a4 := by kernel_rfl
theorem good31 : Sim.Good Try.prog 31 E31 := by
  refine evF_good (G := G31) (L := loopNil) (c := c31) (envCons_good good33 (envCons_good good34 (envCons_good good41 envNil_good))) Try.func31 (by kernel_rfl) (by kernel_rfl) (by intro x hx; simp [show loopsOf c31 = [] from by kernel_rfl] at hx) (fun args K r h => ?_)
  unfold E31 at h
  split at h
  · exact (ev31 K _ _ _ _).trans h
  · cases h
/-! ### f42: S.l04Bits -/
noncomputable def G42 : Env Unit := envNil
noncomputable def c42 : Code := bodyOf Try.f42
noncomputable def S.l04Bits (ret : Bool → Option Unit) (a1 : Int) : Option Unit :=
(bif (decide (0 ≤ a1)) then
(ret (decide (a1 ≤ 4)))
else
(ret false))
noncomputable def E42 : Fun1 Unit := fun args K =>
  match args with
  | [.one (.sc (.int .i64 a1))] => S.l04Bits (fun v1 => K [.one (.sc (.bool v1))]) a1
  | _ => none
theorem ev42 (K : List RV → Option Unit) (a1 : Int) : evF Try.prog G42 loopNil Try.f42 c42 [.one (.sc (.int .i64 a1))] K = S.l04Bits (fun v1 => K [.one (.sc (.bool v1))]) a1 := by kernel_rfl
theorem good42 : Sim.Good Try.prog 42 E42 := by
  refine evF_good (G := G42) (L := loopNil) (c := c42) envNil_good Try.func42 (by kernel_rfl) (by kernel_rfl) (by intro x hx; simp [show loopsOf c42 = [] from by kernel_rfl] at hx) (fun args K r h => ?_)
  unfold E42 at h
  split at h
  · exact (ev42 K _).trans h
  · cases h
/-! ### f32: S.l11Punct -/
noncomputable def G32 : Env Unit := (envCons 33 E33 (envCons 41 E41 (envCons 42 E42 envNil)))
noncomputable def c32 : Code := bodyOf Try.f32
noncomputable def S.l11Punct (ret : Bool → Option Unit) (a1 : Int) (a2 : Int) (a3 : Int) (a4 : Int) : Option Unit :=
(S.l04Src (fun r5 =>
(bif r5 then
(S.l04Bits (fun r6 =>
(bif r6 then
(S.l04Key (fun r7 =>
(bif r7 then
(bif (decide (0 ≤ a4)) then
(ret (decide (a4 < 16)))
else
(ret false))
else
(ret false))) a3)
else
(ret false))) a2)
else
(ret false))) a1)
noncomputable def E32 : Fun1 Unit := fun args K =>
  match args with
  | [.agg [.sc (.int .i64 a1), .sc (.int .i64 a2), .sc (.int .i64 a3), .sc (.int .i64 a4)]] => S.l11Punct (fun v1 => K [.one (.sc (.bool v1))]) a1 a2 a3 a4
  | _ => none
theorem ev32 (K : List RV → Option Unit) (a1 : Int) (a2 : Int) (a3 : Int) (a4 : Int) : evF Try.prog G32 loopNil Try.f32 c32 [.agg [.sc (.int .i64 a1), .sc (.int .i64 a2), .sc (.int .i64 a3), .sc (.int .i64 a4)]] K = S.l11Punct (fun v1 => K [.one (.sc (.bool v1))]) a1 a2 a3 a4 := by kernel_rfl
theorem good32 : Sim.Good Try.prog 32 E32 := by
  refine evF_good (G := G32) (L := loopNil) (c := c32) (envCons_good good33 (envCons_good good41 (envCons_good good42 envNil_good))) Try.func32 (by kernel_rfl) (by kernel_rfl) (by intro x hx; simp [show loopsOf c32 = [] from by kernel_rfl] at hx) (fun args K r h => ?_)
  unfold E32 at h
  split at h
  · exact (ev32 K _ _ _ _).trans h
  · cases h
/-! ### f35: S.l10Count -/
noncomputable def G35 : Env Unit := envNil
noncomputable def c35 : Code := bodyOf Try.f35
noncomputable def S.l10Count (ret : Bool → Option Unit) (a1 : Int) : Option Unit :=
(bif (decide (0 ≤ a1)) then
(ret (decide (a1 ≤ 1000000)))
else
(ret false))
noncomputable def E35 : Fun1 Unit := fun args K =>
  match args with
  | [.one (.sc (.int .i64 a1))] => S.l10Count (fun v1 => K [.one (.sc (.bool v1))]) a1
  | _ => none
theorem ev35 (K : List RV → Option Unit) (a1 : Int) : evF Try.prog G35 loopNil Try.f35 c35 [.one (.sc (.int .i64 a1))] K = S.l10Count (fun v1 => K [.one (.sc (.bool v1))]) a1 := by kernel_rfl
theorem good35 : Sim.Good Try.prog 35 E35 := by
  refine evF_good (G := G35) (L := loopNil) (c := c35) envNil_good Try.func35 (by kernel_rfl) (by kernel_rfl) (by intro x hx; simp [show loopsOf c35 = [] from by kernel_rfl] at hx) (fun args K r h => ?_)
  unfold E35 at h
  split at h
  · exact (ev35 K _).trans h
  · cases h
/-! ### f24: S.OpOk -/
noncomputable def G24 : Env Unit := (envCons 31 E31 (envCons 32 E32 (envCons 33 E33 (envCons 34 E34 (envCons 35 E35 envNil)))))
noncomputable def c24 : Code := bodyOf Try.f24
noncomputable def S.OpOk (ret : Bool → Option Unit) (a1 : Int) (a2 : Int) (a3 : Int) (a4 : Int) (a5 : Int) (a6 : Int) (a7 : Int) (a8 : Int) (a9 : Int) (a10 : Int) (a11 : Int) : Option Unit :=
(bif (a1 == 1) then
(S.ElemOk (fun r12 =>
(bif r12 then
(bif ((a6 == 0) && ((a7 == 0) && ((a8 == 0) && ((a9 == 0) && true)))) then
(bif (a10 == 0) then
(ret (a11 == 0))
else
(ret false))
else
(ret false))
else
(ret false))) a2 a3 a4 a5)
else
(bif (a1 == 2) then
(bif ((a2 == 0) && ((a3 == 0) && ((a4 == 0) && ((a5 == 0) && true)))) then
(S.l11Punct (fun r13 =>
(bif r13 then
(bif (a10 == 0) then
(bif (a11 == 0) then
(bif (a1 == 2) then
(ret true)
else
(ret (a9 == 0)))
else
(ret false))
else
(ret false))
else
(ret false))) a6 a7 a8 a9)
else
(ret false))
else
(bif (a1 == 3) then
(bif ((a2 == 0) && ((a3 == 0) && ((a4 == 0) && ((a5 == 0) && true)))) then
(S.l11Punct (fun r14 =>
(bif r14 then
(bif (a10 == 0) then
(bif (a11 == 0) then
(bif (a1 == 2) then
(ret true)
else
(ret (a9 == 0)))
else
(ret false))
else
(ret false))
else
(ret false))) a6 a7 a8 a9)
else
(ret false))
else
(bif (a1 == 4) then
(bif ((a2 == 0) && ((a3 == 0) && ((a4 == 0) && ((a5 == 0) && true)))) then
(bif ((a6 == 0) && ((a7 == 0) && ((a8 == 0) && ((a9 == 0) && true)))) then
(S.l04Src (fun r15 =>
(bif r15 then
(S.l05Time (fun r16 =>
(ret r16)) a11)
else
(ret false))) a10)
else
(ret false))
else
(ret false))
else
(bif (a1 == 5) then
(bif ((a2 == 0) && ((a3 == 0) && ((a4 == 0) && ((a5 == 0) && true)))) then
(bif ((a6 == 0) && ((a7 == 0) && ((a8 == 0) && ((a9 == 0) && true)))) then
(S.l04Src (fun r17 =>
(bif r17 then
(ret (a11 == 0))
else
(ret false))) a10)
else
(ret false))
else
(ret false))
else
(bif (a1 == 6) then
(bif ((a2 == 0) && ((a3 == 0) && ((a4 == 0) && ((a5 == 0) && true)))) then
(bif ((a6 == 0) && ((a7 == 0) && ((a8 == 0) && ((a9 == 0) && true)))) then
(S.l04Src (fun r18 =>
(bif r18 then
(ret (a11 == 0))
else
(ret false))) a10)
else
(ret false))
else
(ret false))
else
(bif (a1 == 7) then
(bif ((a2 == 0) && ((a3 == 0) && ((a4 == 0) && ((a5 == 0) && true)))) then
(bif ((a6 == 0) && ((a7 == 0) && ((a8 == 0) && ((a9 == 0) && true)))) then
(bif (decide (0 ≤ a10)) then
(bif (decide (a10 < 4)) then
(S.l10Count (fun r19 =>
(ret r19)) a11)
else
(ret false))
else
(ret false))
else
(ret false))
else
(ret false))
else
(bif (a1 == 8) then
(bif ((a2 == 0) && ((a3 == 0) && ((a4 == 0) && ((a5 == 0) && true)))) then
(bif ((a6 == 0) && ((a7 == 0) && ((a8 == 0) && ((a9 == 0) && true)))) then
(bif (decide (0 ≤ a10)) then
(bif (decide (a10 < 4)) then
(S.l10Count (fun r20 =>
(ret r20)) a11)
else
(ret false))
else
(ret false))
else
(ret false))
else
(ret false))
else
(bif (a1 == 9) then
(bif ((a2 == 0) && ((a3 == 0) && ((a4 == 0) && ((a5 == 0) && true)))) then
(bif ((a6 == 0) && ((a7 == 0) && ((a8 == 0) && ((a9 == 0) && true)))) then
(bif (decide (0 ≤ a10)) then
(bif (decide (a10 < 4)) then
(S.l10Count (fun r21 =>
(ret r21)) a11)
else
(ret false))
else
(ret false))
else
(ret false))
else
(ret false))
else
(ret false))))))))))
noncomputable def E24 : Fun1 Unit := fun args K =>
  match args with
  | [.agg [.sc (.int .i64 a1), .sc (.int .i64 a2), .sc (.int .i64 a3), .sc (.int .i64 a4), .sc (.int .i64 a5), .sc (.int .i64 a6), .sc (.int .i64 a7), .sc (.int .i64 a8), .sc (.int .i64 a9), .sc (.int .i64 a10), .sc (.int .i64 a11)]] => S.OpOk (fun v1 => K [.one (.sc (.bool v1))]) a1 a2 a3 a4 a5 a6 a7 a8 a9 a10 a11
  | _ => none
theorem ev24 (K : List RV → Option Unit) (a1 : Int) (a2 : Int) (a3 : Int) (a4 : Int) (a5 : Int) (a6 : Int) (a7 : Int) (a8 : Int) (a9 : Int) (a10 : Int) (a11 : Int) : evF Try.prog G24 loopNil Try.f24 c24 [.agg [.sc (.int .i64 a1), .sc (.int .i64 a2), .sc (.int .i64 a3), .sc (.int .i64 a4), .sc (.int .i64 a5), .sc (.int .i64 a6), .sc (.int .i64 a7), .sc (.int .i64 a8), .sc (.int .i64 a9), .sc (.int .i64 a10), .sc (.int .i64 a11)]] K = S.OpOk (fun v1 => K [.one (.sc (.bool v1))]) a1 a2 a3 a4 a5 a6 a7 a8 a9 a10 a11 := by kernel_rfl
theorem good24 : Sim.Good Try.prog 24 E24 := by
  refine evF_good (G := G24) (L := loopNil) (c := c24) (envCons_good good31 (envCons_good good32 (envCons_good good33 (envCons_good good34 (envCons_good good35 envNil_good))))) Try.func24 (by kernel_rfl) (by kernel_rfl) (by intro x hx; simp [show loopsOf c24 = [] from by kernel_rfl] at hx) (fun args K r h => ?_)
  unfold E24 at h
  split at h
  · exact (ev24 K _ _ _ _ _ _ _ _ _ _ _).trans h
  · cases h
/-! ### f36: L.toElem -/
noncomputable def G36 : Env Unit := envNil
noncomputable def c36 : Code := bodyOf Try.f36
noncomputable def L.toElem (ret : Int → Int → Int → Int → Option Unit) (a1 : Int) (a2 : Int) (a3 : Int) (a4 : Int) : Option Unit :=
(ret a1 a2 a3 a4)
noncomputable def E36 : Fun1 Unit := fun args K =>
  match args with
  | [.agg [.sc (.int .i64 a1), .sc (.int .i64 a2), .sc (.int .i64 a3), .sc (.int .i64 a4)]] => L.toElem (fun v1 v2 v3 v4 => K [.agg [.sc (.int .i64 v1), .sc (.int .i64 v2), .sc (.int .i64 v3), .sc (.int .i64 v4)]]) a1 a2 a3 a4
  | _ => none
theorem ev36 (K : List RV → Option Unit) (a1 : Int) (a2 : Int) (a3 : Int) (a4 : Int) : evF Try.prog G36 loopNil Try.f36 c36 [.agg [.sc (.int .i64 a1), .sc (.int .i64 a2), .sc (.int .i64 a3), .sc (.int .i64 a4)]] K = L.toElem (fun v1 v2 v3 v4 => K [.agg [.sc (.int .i64 v1), .sc (.int .i64 v2), .sc (.int .i64 v3), .sc (.int .i64 v4)]]) a1 a2 a3 a4 := by kernel_rfl
theorem good36 : Sim.Good Try.prog 36 E36 := by
  refine evF_good (G := G36) (L := loopNil) (c := c36) envNil_good Try.func36 (by kernel_rfl) (by kernel_rfl) (by intro x hx; simp [show loopsOf c36 = [] from by kernel_rfl] at hx) (fun args K r h => ?_)
  unfold E36 at h
  split at h
  · exact (ev36 K _ _ _ _).trans h
  · cases h
/-! ### f37: L.toPunct -/
noncomputable def G37 : Env Unit := envNil
noncomputable def c37 : Code := bodyOf Try.f37
noncomputable def L.toPunct (ret : Int → Int → Int → Int → Option Unit) (a1 : Int) (a2 : Int) (a3 : Int) (a4 : Int) : Option Unit :=
(ret a1 a2 a3 a4)
noncomputable def E37 : Fun1 Unit := fun args K =>
  match args with
  | [.agg [.sc (.int .i64 a1), .sc (.int .i64 a2), .sc (.int .i64 a3), .sc (.int .i64 a4)]] => L.toPunct (fun v1 v2 v3 v4 => K [.agg [.sc (.int .i64 v1), .sc (.int .i64 v2), .sc (.int .i64 v3), .sc (.int .i64 v4)]]) a1 a2 a3 a4
  | _ => none
theorem ev37 (K : List RV → Option Unit) (a1 : Int) (a2 : Int) (a3 : Int) (a4 : Int) : evF Try.prog G37 loopNil Try.f37 c37 [.agg [.sc (.int .i64 a1), .sc (.int .i64 a2), .sc (.int .i64 a3), .sc (.int .i64 a4)]] K = L.toPunct (fun v1 v2 v3 v4 => K [.agg [.sc (.int .i64 v1), .sc (.int .i64 v2), .sc (.int .i64 v3), .sc (.int .i64 v4)]]) a1 a2 a3 a4 := by kernel_rfl
theorem good37 : Sim.Good Try.prog 37 E37 := by
  refine evF_good (G := G37) (L := loopNil) (c := c37) envNil_good Try.func37 (by kernel_rfl) (by kernel_rfl) (by intro x hx; simp [show loopsOf c37 = [] from by kernel_rfl] at hx) (fun args K r h => ?_)
  unfold E37 at h
  split at h
  · exact (ev37 K _ _ _ _).trans h
  · cases h
/-! ### f25: L.toOp -/
noncomputable def G25 : Env Unit := (envCons 36 E36 (envCons 37 E37 envNil))
noncomputable def c25 : Code := bodyOf Try.f25
noncomputable def L.toOp (ret : Int → Int → Int → Int → Int → Int → Int → Int → Int → Int → Int → Option Unit) (a1 : Int) (a2 : Int) (a3 : Int) (a4 : Int) (a5 : Int) (a6 : Int) (a7 : Int) (a8 : Int) (a9 : Int) (a10 : Int) (a11 : Int) : Option Unit :=
(L.toElem (fun r12 r13 r14 r15 =>
(L.toPunct (fun r16 r17 r18 r19 =>
(ret a1 r12 r13 r14 r15 r16 r17 r18 r19 a10 a11)) a6 a7 a8 a9)) a2 a3 a4 a5)
noncomputable def E25 : Fun1 Unit := fun args K =>
  match args with
  | [.agg [.sc (.int .i64 a1), .sc (.int .i64 a2), .sc (.int .i64 a3), .sc (.int .i64 a4), .sc (.int .i64 a5), .sc (.int .i64 a6), .sc (.int .i64 a7), .sc (.int .i64 a8), .sc (.int .i64 a9), .sc (.int .i64 a10), .sc (.int .i64 a11)]] => L.toOp (fun v1 v2 v3 v4 v5 v6 v7 v8 v9 v10 v11 => K [.agg [.sc (.int .i64 v1), .sc (.int .i64 v2), .sc (.int .i64 v3), .sc (.int .i64 v4), .sc (.int .i64 v5), .sc (.int .i64 v6), .sc (.int .i64 v7), .sc (.int .i64 v8), .sc (.int .i64 v9), .sc (.int .i64 v10), .sc (.int .i64 v11)]]) a1 a2 a3 a4 a5 a6 a7 a8 a9 a10 a11
  | _ => none
theorem ev25 (K : List RV → Option Unit) (a1 : Int) (a2 : Int) (a3 : Int) (a4 : Int) (a5 : Int) (a6 : Int) (a7 : Int) (a8 : Int) (a9 : Int) (a10 : Int) (a11 : Int) : evF Try.prog G25 loopNil Try.f25 c25 [.agg [.sc (.int .i64 a1), .sc (.int .i64 a2), .sc (.int .i64 a3), .sc (.int .i64 a4), .sc (.int .i64 a5), .sc (.int .i64 a6), .sc (.int .i64 a7), .sc (.int .i64 a8), .sc (.int .i64 a9), .sc (.int .i64 a10), .sc (.int .i64 a11)]] K = L.toOp (fun v1 v2 v3 v4 v5 v6 v7 v8 v9 v10 v11 => K [.agg [.sc (.int .i64 v1), .sc (.int .i64 v2), .sc (.int .i64 v3), .sc (.int .i64 v4), .sc (.int .i64 v5), .sc (.int .i64 v6), .sc (.int .i64 v7), .sc (.int .i64 v8), .sc (.int .i64 v9), .sc (.int .i64 v10), .sc (.int .i64 v11)]]) a1 a2 a3 a4 a5 a6 a7 a8 a9 a10 a11 := by kernel_rfl
theorem good25 : Sim.Good Try.prog 25 E25 := by
  refine evF_good (G := G25) (L := loopNil) (c := c25) (envCons_good good36 (envCons_good good37 envNil_good)) Try.func25 (by kernel_rfl) (by kernel_rfl) (by intro x hx; simp [show loopsOf c25 = [] from by kernel_rfl] at hx) (fun args K r h => ?_)
  unfold E25 at h
  split at h
  · exact (ev25 K _ _ _ _ _ _ _ _ _ _ _).trans h
  · cases h
/-! ### f30: I.in -/
noncomputable def G30 : Env Unit := envNil
noncomputable def c30 : Code := bodyOf Try.f30
noncomputable def I.in (ret : Bool → Option Unit) (a1 : Int) (a2 : Int) (a3 : Int) : Option Unit :=
(bif (decide (a2 ≤ a1)) then
(ret (decide (a1 ≤ a3)))
else
(ret false))
noncomputable def E30 : Fun1 Unit := fun args K =>
  match args with
  | [.one (.sc (.int .i64 a1)), .one (.sc (.int .i64 a2)), .one (.sc (.int .i64 a3))] => I.in (fun v1 => K [.one (.sc (.bool v1))]) a1 a2 a3
  | _ => none
theorem ev30 (K : List RV → Option Unit) (a1 : Int) (a2 : Int) (a3 : Int) : evF Try.prog G30 loopNil Try.f30 c30 [.one (.sc (.int .i64 a1)), .one (.sc (.int .i64 a2)), .one (.sc (.int .i64 a3))] K = I.in (fun v1 => K [.one (.sc (.bool v1))]) a1 a2 a3 := by kernel_rfl
theorem good30 : Sim.Good Try.prog 30 E30 := by
  refine evF_good (G := G30) (L := loopNil) (c := c30) envNil_good Try.func30 (by kernel_rfl) (by kernel_rfl) (by intro x hx; simp [show loopsOf c30 = [] from by kernel_rfl] at hx) (fun args K r h => ?_)
  unfold E30 at h
  split at h
  · exact (ev30 K _ _ _).trans h
  · cases h
/-! ### f45: I.isSource -/
noncomputable def G45 : Env Unit := (envCons 30 E30 envNil)
noncomputable def c45 : Code := bodyOf Try.f45
noncomputable def I.isSource (ret : Bool → Option Unit) (a1 : Int) : Option Unit :=
(I.in (fun r2 =>
(ret r2)) a1 0 3)
noncomputable def E45 : Fun1 Unit := fun args K =>
  match args with
  | [.one (.sc (.int .i64 a1))] => I.isSource (fun v1 => K [.one (.sc (.bool v1))]) a1
  | _ => none
theorem ev45 (K : List RV → Option Unit) (a1 : Int) : evF Try.prog G45 loopNil Try.f45 c45 [.one (.sc (.int .i64 a1))] K = I.isSource (fun v1 => K [.one (.sc (.bool v1))]) a1 := by kernel_rfl
theorem good45 : Sim.Good Try.prog 45 E45 := by
  refine evF_good (G := G45) (L := loopNil) (c := c45) (envCons_good good30 envNil_good) Try.func45 (by kernel_rfl) (by kernel_rfl) (by intro x hx; simp [show loopsOf c45 = [] from by kernel_rfl] at hx) (fun args K r h => ?_)
  unfold E45 at h
  split at h
  · exact (ev45 K _).trans h
  · cases h
/-! ### f46: I.isTime -/
noncomputable def G46 : Env Unit := (envCons 30 E30 envNil)
noncomputable def c46 : Code := bodyOf Try.f46
noncomputable def I.isTime (ret : Bool → Option Unit) (a1 : Int) : Option Unit :=
(I.in (fun r2 =>
(ret r2)) a1 0 1000)
noncomputable def E46 : Fun1 Unit := fun args K =>
  match args with
  | [.one (.sc (.int .i64 a1))] => I.isTime (fun v1 => K [.one (.sc (.bool v1))]) a1
  | _ => none
theorem ev46 (K : List RV → Option Unit) (a1 : Int) : evF Try.prog G46 loopNil Try.f46 c46 [.one (.sc (.int .i64 a1))] K = I.isTime (fun v1 => K [.one (.sc (.bool v1))]) a1 := by kernel_rfl
theorem good46 : Sim.Good Try.prog 46 E46 := by
  refine evF_good (G := G46) (L := loopNil) (c := c46) (envCons_good good30 envNil_good) Try.func46 (by kernel_rfl) (by kernel_rfl) (by intro x hx; simp [show loopsOf c46 = [] from by kernel_rfl] at hx) (fun args K r h => ?_)
  unfold E46 at h
  split at h
  · exact (ev46 K _).trans h
  · cases h
/-! ### f48: I.isKey -/
noncomputable def G48 : Env Unit := (envCons 30 E30 envNil)
noncomputable def c48 : Code := bodyOf Try.f48
noncomputable def I.isKey (ret : Bool → Option Unit) (a1 : Int) : Option Unit :=
(I.in (fun r2 =>
(ret r2)) a1 0 15)
noncomputable def E48 : Fun1 Unit := fun args K =>
  match args with
  | [.one (.sc (.int .i64 a1))] => I.isKey (fun v1 => K [.one (.sc (.bool v1))]) a1
  | _ => none
theorem ev48 (K : List RV → Option Unit) (a1 : Int) : evF Try.prog G48 loopNil Try.f48 c48 [.one (.sc (.int .i64 a1))] K = I.isKey (fun v1 => K [.one (.sc (.bool v1))]) a1 := by kernel_rfl
theorem good48 : Sim.Good Try.prog 48 E48 := by
  refine evF_good (G := G48) (L := loopNil) (c := c48) (envCons_good good30 envNil_good) Try.func48 (by kernel_rfl) (by kernel_rfl) (by intro x hx; simp [show loopsOf c48 = [] from by kernel_rfl] at hx) (fun args K r h => ?_)
  unfold E48 at h
  split at h
  · exact (ev48 K _).trans h
  · cases h
/-! ### f43: I.isElem -/
noncomputable def G43 : Env Unit := (envCons 45 E45 (envCons 46 E46 (envCons 48 E48 envNil)))
noncomputable def c43 : Code := bodyOf Try.f43
noncomputable def I.isElem (ret : Bool → Option Unit) (a1 : Int) (a2 : Int) (a3 : Int) (a4 : Int) : Option Unit :=
(I.isSource (fun r5 =>
(bif r5 then
(I.isKey (fun r6 =>
(bif r6 then
(I.isTime (fun r7 =>
(ret r7)) a4)
else
(ret false))) a2)
else
(ret false))) a1)
noncomputable def E43 : Fun1 Unit := fun args K =>
  match args with
  | [.agg [.sc (.int .i64 a1), .sc (.int .i64 a2), .sc (.int .i64 a3), .sc (.int .i64 a4)]] => I.isElem (fun v1 => K [.one (.sc (.bool v1))]) a1 a2 a3 a4
  | _ => none
theorem ev43 (K : List RV → Option Unit) (a1 : Int) (a2 : Int) (a3 : Int) (a4 : Int) : evF Try.prog G43 loopNil Try.f43 c43 [.agg [.sc (.int .i64 a1), .sc (.int .i64 a2), .sc (.int .i64 a3), .sc (.int .i64 a4)]] K = I.isElem (fun v1 => K [.one (.sc (.bool v1))]) a1 a2 a3 a4 := by kernel_rfl
theorem good43 : Sim.Good Try.prog 43 E43 := by
  refine evF_good (G := G43) (L := loopNil) (c := c43) (envCons_good good45 (envCons_good good46 (envCons_good good48 envNil_good))) Try.func43 (by kernel_rfl) (by kernel_rfl) (by intro x hx; simp [show loopsOf c43 = [] from by kernel_rfl] at hx) (fun args K r h => ?_)
  unfold E43 at h
  split at h
  · exact (ev43 K _ _ _ _).trans h
  · cases h
/-! ### f44: I.Punct_isPlace -/
noncomputable def G44 : Env Unit := (envCons 30 E30 (envCons 45 E45 (envCons 48 E48 envNil)))
noncomputable def c44 : Code := bodyOf Try.f44
noncomputable def I.Punct_isPlace (ret : Bool → Option Unit) (a1 : Int) (a2 : Int) (a3 : Int) (a4 : Int) : Option Unit :=
(I.isSource (fun r5 =>
(bif r5 then
(I.in (fun r6 =>
(bif r6 then
(I.isKey (fun r7 =>
(ret r7)) a3)
else
(ret false))) a2 0 4)
else
(ret false))) a1)
noncomputable def E44 : Fun1 Unit := fun args K =>
  match args with
  | [.agg [.sc (.int .i64 a1), .sc (.int .i64 a2), .sc (.int .i64 a3), .sc (.int .i64 a4)]] => I.Punct_isPlace (fun v1 => K [.one (.sc (.bool v1))]) a1 a2 a3 a4
  | _ => none
theorem ev44 (K : List RV → Option Unit) (a1 : Int) (a2 : Int) (a3 : Int) (a4 : Int) : evF Try.prog G44 loopNil Try.f44 c44 [.agg [.sc (.int .i64 a1), .sc (.int .i64 a2), .sc (.int .i64 a3), .sc (.int .i64 a4)]] K = I.Punct_isPlace (fun v1 => K [.one (.sc (.bool v1))]) a1 a2 a3 a4 := by kernel_rfl
theorem good44 : Sim.Good Try.prog 44 E44 := by
  refine evF_good (G := G44) (L := loopNil) (c := c44) (envCons_good good30 (envCons_good good45 (envCons_good good48 envNil_good))) Try.func44 (by kernel_rfl) (by kernel_rfl) (by intro x hx; simp [show loopsOf c44 = [] from by kernel_rfl] at hx) (fun args K r h => ?_)
  unfold E44 at h
  split at h
  · exact (ev44 K _ _ _ _).trans h
  · cases h
/-! ### f38: I.isOp -/
noncomputable def G38 : Env Unit := (envCons 30 E30 (envCons 43 E43 (envCons 44 E44 (envCons 45 E45 (envCons 46 E46 envNil)))))
noncomputable def c38 : Code := bodyOf Try.f38
noncomputable def I.isOp (ret : Bool → Option Unit) (a1 : Int) (a2 : Int) (a3 : Int) (a4 : Int) (a5 : Int) (a6 : Int) (a7 : Int) (a8 : Int) (a9 : Int) (a10 : Int) (a11 : Int) : Option Unit :=
(bif (a1 == 1) then
(bif ((a1 == a1) && (((a2 == a2) && ((a3 == a3) && ((a4 == a4) && ((a5 == a5) && true)))) && (((a6 == 0) && ((a7 == 0) && ((a8 == 0) && ((a9 == 0) && true)))) && ((a10 == 0) && ((a11 == 0) && true))))) then
(I.isElem (fun r12 =>
(ret r12)) a2 a3 a4 a5)
else
(ret false))
else
(bif (a1 == 2) then
(bif ((a1 == a1) && (((a2 == 0) && ((a3 == 0) && ((a4 == 0) && ((a5 == 0) && true)))) && (((a6 == a6) && ((a7 == a7) && ((a8 == a8) && ((a9 == a9) && true)))) && ((a10 == 0) && ((a11 == 0) && true))))) then
(I.Punct_isPlace (fun r13 =>
(bif r13 then
(I.in (fun r14 =>
(bif r14 then
(bif (a1 == 2) then
(ret true)
else
(ret (a9 == 0)))
else
(ret false))) a9 0 15)
else
(ret false))) a6 a7 a8 a9)
else
(ret false))
else
(bif (a1 == 3) then
(bif ((a1 == a1) && (((a2 == 0) && ((a3 == 0) && ((a4 == 0) && ((a5 == 0) && true)))) && (((a6 == a6) && ((a7 == a7) && ((a8 == a8) && ((a9 == a9) && true)))) && ((a10 == 0) && ((a11 == 0) && true))))) then
(I.Punct_isPlace (fun r15 =>
(bif r15 then
(I.in (fun r16 =>
(bif r16 then
(bif (a1 == 2) then
(ret true)
else
(ret (a9 == 0)))
else
(ret false))) a9 0 15)
else
(ret false))) a6 a7 a8 a9)
else
(ret false))
else
(bif (a1 == 4) then
(Option.bind (bif ((a1 == a1) && (((a2 == 0) && ((a3 == 0) && ((a4 == 0) && ((a5 == 0) && true)))) && (((a6 == 0) && ((a7 == 0) && ((a8 == 0) && ((a9 == 0) && true)))) && ((a10 == a10) && ((a11 == a11) && true))))) then
(I.isSource (fun r17 =>
(bif r17 then
(I.isTime (fun r18 =>
(ret r18)) a11)
else
(ret false))) a10)
else
(ret false)) fun _ =>
(bif ((a1 == a1) && (((a2 == 0) && ((a3 == 0) && ((a4 == 0) && ((a5 == 0) && true)))) && (((a6 == 0) && ((a7 == 0) && ((a8 == 0) && ((a9 == 0) && true)))) && ((a10 == a10) && ((a11 == a11) && true))))) then
(I.isSource (fun r19 =>
(bif r19 then
(I.isTime (fun r20 =>
(ret r20)) a11)
else
(ret false))) a10)
else
(ret false)))
else
(bif (a1 == 5) then
(bif ((a1 == a1) && (((a2 == 0) && ((a3 == 0) && ((a4 == 0) && ((a5 == 0) && true)))) && (((a6 == 0) && ((a7 == 0) && ((a8 == 0) && ((a9 == 0) && true)))) && ((a10 == a10) && ((a11 == 0) && true))))) then
(I.isSource (fun r21 =>
(ret r21)) a10)
else
(ret false))
else
(bif (a1 == 6) then
(bif ((a1 == a1) && (((a2 == 0) && ((a3 == 0) && ((a4 == 0) && ((a5 == 0) && true)))) && (((a6 == 0) && ((a7 == 0) && ((a8 == 0) && ((a9 == 0) && true)))) && ((a10 == a10) && ((a11 == 0) && true))))) then
(I.isSource (fun r22 =>
(ret r22)) a10)
else
(ret false))
else
(bif (a1 == 7) then
(Option.bind (bif ((a1 == a1) && (((a2 == 0) && ((a3 == 0) && ((a4 == 0) && ((a5 == 0) && true)))) && (((a6 == 0) && ((a7 == 0) && ((a8 == 0) && ((a9 == 0) && true)))) && ((a10 == a10) && ((a11 == a11) && true))))) then
(I.in (fun r23 =>
(bif r23 then
(I.in (fun r24 =>
(ret r24)) a11 0 1000000)
else
(ret false))) a10 0 3)
else
(ret false)) fun _ =>
(bif ((a1 == a1) && (((a2 == 0) && ((a3 == 0) && ((a4 == 0) && ((a5 == 0) && true)))) && (((a6 == 0) && ((a7 == 0) && ((a8 == 0) && ((a9 == 0) && true)))) && ((a10 == a10) && ((a11 == a11) && true))))) then
(I.in (fun r25 =>
(bif r25 then
(I.in (fun r26 =>
(ret r26)) a11 0 1000000)
else
(ret false))) a10 0 3)
else
(ret false)))
else
(bif (a1 == 8) then
(Option.bind (bif ((a1 == a1) && (((a2 == 0) && ((a3 == 0) && ((a4 == 0) && ((a5 == 0) && true)))) && (((a6 == 0) && ((a7 == 0) && ((a8 == 0) && ((a9 == 0) && true)))) && ((a10 == a10) && ((a11 == a11) && true))))) then
(I.in (fun r27 =>
(bif r27 then
(I.in (fun r28 =>
(ret r28)) a11 0 1000000)
else
(ret false))) a10 0 3)
else
(ret false)) fun _ =>
(bif ((a1 == a1) && (((a2 == 0) && ((a3 == 0) && ((a4 == 0) && ((a5 == 0) && true)))) && (((a6 == 0) && ((a7 == 0) && ((a8 == 0) && ((a9 == 0) && true)))) && ((a10 == a10) && ((a11 == a11) && true))))) then
(I.in (fun r29 =>
(bif r29 then
(I.in (fun r30 =>
(ret r30)) a11 0 1000000)
else
(ret false))) a10 0 3)
else
(ret false)))
else
(bif (a1 == 9) then
(Option.bind (bif ((a1 == a1) && (((a2 == 0) && ((a3 == 0) && ((a4 == 0) && ((a5 == 0) && true)))) && (((a6 == 0) && ((a7 == 0) && ((a8 == 0) && ((a9 == 0) && true)))) && ((a10 == a10) && ((a11 == a11) && true))))) then
(I.in (fun r31 =>
(bif r31 then
(I.in (fun r32 =>
(ret r32)) a11 0 1000000)
else
(ret false))) a10 0 3)
else
(ret false)) fun _ =>
(bif ((a1 == a1) && (((a2 == 0) && ((a3 == 0) && ((a4 == 0) && ((a5 == 0) && true)))) && (((a6 == 0) && ((a7 == 0) && ((a8 == 0) && ((a9 == 0) && true)))) && ((a10 == a10) && ((a11 == a11) && true))))) then
(I.in (fun r33 =>
(bif r33 then
(I.in (fun r34 =>
(ret r34)) a11 0 1000000)
else
(ret false))) a10 0 3)
else
(ret false)))
else
(ret false))))))))))
noncomputable def E38 : Fun1 Unit := fun args K =>
  match args with
  | [.agg [.sc (.int .i64 a1), .sc (.int .i64 a2), .sc (.int .i64 a3), .sc (.int .i64 a4), .sc (.int .i64 a5), .sc (.int .i64 a6), .sc (.int .i64 a7), .sc (.int .i64 a8), .sc (.int .i64 a9), .sc (.int .i64 a10), .sc (.int .i64 a11)]] => I.isOp (fun v1 => K [.one (.sc (.bool v1))]) a1 a2 a3 a4 a5 a6 a7 a8 a9 a10 a11
  | _ => none
theorem ev38 (K : List RV → Option Unit) (a1 : Int) (a2 : Int) (a3 : Int) (a4 : Int) (a5 : Int) (a6 : Int) (a7 : Int) (a8 : Int) (a9 : Int) (a10 : Int) (a11 : Int) : evF Try.prog G38 loopNil Try.f38 c38 [.agg [.sc (.int .i64 a1), .sc (.int .i64 a2), .sc (.int .i64 a3), .sc (.int .i64 a4), .sc (.int .i64 a5), .sc (.int .i64 a6), .sc (.int .i64 a7), .sc (.int .i64 a8), .sc (.int .i64 a9), .sc (.int .i64 a10), .sc (.int .i64 a11)]] K = I.isOp (fun v1 => K [.one (.sc (.bool v1))]) a1 a2 a3 a4 a5 a6 a7 a8 a9 a10 a11 := by kernel_rfl
theorem good38 : Sim.Good Try.prog 38 E38 := by
  refine evF_good (G := G38) (L := loopNil) (c := c38) (envCons_good good30 (envCons_good good43 (envCons_good good44 (envCons_good good45 (envCons_good good46 envNil_good))))) Try.func38 (by kernel_rfl) (by kernel_rfl) (by intro x hx; simp [show loopsOf c38 = [] from by kernel_rfl] at hx) (fun args K r h => ?_)
  unfold E38 at h
  split at h
  · exact (ev38 K _ _ _ _ _ _ _ _ _ _ _).trans h
  · cases h
/-! ### f26: I.OpOk -/
noncomputable def G26 : Env Unit := (envCons 38 E38 envNil)
noncomputable def c26 : Code := bodyOf Try.f26
noncomputable def I.OpOk (ret : Bool → Option Unit) (a1 : Int) (a2 : Int) (a3 : Int) (a4 : Int) (a5 : Int) (a6 : Int) (a7 : Int) (a8 : Int) (a9 : Int) (a10 : Int) (a11 : Int) : Option Unit :=
(I.isOp (fun r12 =>
(ret r12)) a1 a2 a3 a4 a5 a6 a7 a8 a9 a10 a11)
noncomputable def E26 : Fun1 Unit := fun args K =>
  match args with
  | [.agg [.sc (.int .i64 a1), .sc (.int .i64 a2), .sc (.int .i64 a3), .sc (.int .i64 a4), .sc (.int .i64 a5), .sc (.int .i64 a6), .sc (.int .i64 a7), .sc (.int .i64 a8), .sc (.int .i64 a9), .sc (.int .i64 a10), .sc (.int .i64 a11)]] => I.OpOk (fun v1 => K [.one (.sc (.bool v1))]) a1 a2 a3 a4 a5 a6 a7 a8 a9 a10 a11
  | _ => none
theorem ev26 (K : List RV → Option Unit) (a1 : Int) (a2 : Int) (a3 : Int) (a4 : Int) (a5 : Int) (a6 : Int) (a7 : Int) (a8 : Int) (a9 : Int) (a10 : Int) (a11 : Int) : evF Try.prog G26 loopNil Try.f26 c26 [.agg [.sc (.int .i64 a1), .sc (.int .i64 a2), .sc (.int .i64 a3), .sc (.int .i64 a4), .sc (.int .i64 a5), .sc (.int .i64 a6), .sc (.int .i64 a7), .sc (.int .i64 a8), .sc (.int .i64 a9), .sc (.int .i64 a10), .sc (.int .i64 a11)]] K = I.OpOk (fun v1 => K [.one (.sc (.bool v1))]) a1 a2 a3 a4 a5 a6 a7 a8 a9 a10 a11 := by kernel_rfl
theorem good26 : Sim.Good Try.prog 26 E26 := by
  refine evF_good (G := G26) (L := loopNil) (c := c26) (envCons_good good38 envNil_good) Try.func26 (by kernel_rfl) (by kernel_rfl) (by intro x hx; simp [show loopsOf c26 = [] from by kernel_rfl] at hx) (fun args K r h => ?_)
  unfold E26 at h
  split at h
  · exact (ev26 K _ _ _ _ _ _ _ _ _ _ _).trans h
  · cases h
/-! ### f7: L.FnExactOpOk -/
noncomputable def G7 : Env Unit := (envCons 24 E24 (envCons 25 E25 (envCons 26 E26 envNil)))
noncomputable def c7 : Code := bodyOf Try.f7
noncomputable def L.FnExactOpOk (ret : Bool → Option Unit) (a1 : Int) (a2 : Int) (a3 : Int) (a4 : Int) (a5 : Int) (a6 : Int) (a7 : Int) (a8 : Int) (a9 : Int) (a10 : Int) (a11 : Int) : Option Unit :=
(L.toOp (fun r12 r13 r14 r15 r16 r17 r18 r19 r20 r21 r22 =>
(S.OpOk (fun r23 =>
(L.toOp (fun r24 r25 r26 r27 r28 r29 r30 r31 r32 r33 r34 =>
(I.OpOk (fun r35 =>
(bif (!(r35 == r23)) then
(ret false)
else
(ret true))) r24 r25 r26 r27 r28 r29 r30 r31 r32 r33 r34)) a1 a2 a3 a4 a5 a6 a7 a8 a9 a10 a11)) r12 r13 r14 r15 r16 r17 r18 r19 r20 r21 r22)) a1 a2 a3 a4 a5 a6 a7 a8 a9 a10 a11)
noncomputable def E7 : Fun1 Unit := fun args K =>
  match args with
  | [.agg [.sc (.int .i64 a1), .sc (.int .i64 a2), .sc (.int .i64 a3), .sc (.int .i64 a4), .sc (.int .i64 a5), .sc (.int .i64 a6), .sc (.int .i64 a7), .sc (.int .i64 a8), .sc (.int .i64 a9), .sc (.int .i64 a10), .sc (.int .i64 a11)]] => L.FnExactOpOk (fun v1 => K [.one (.sc (.bool v1))]) a1 a2 a3 a4 a5 a6 a7 a8 a9 a10 a11
  | _ => none
theorem ev7 (K : List RV → Option Unit) (a1 : Int) (a2 : Int) (a3 : Int) (a4 : Int) (a5 : Int) (a6 : Int) (a7 : Int) (a8 : Int) (a9 : Int) (a10 : Int) (a11 : Int) : evF Try.prog G7 loopNil Try.f7 c7 [.agg [.sc (.int .i64 a1), .sc (.int .i64 a2), .sc (.int .i64 a3), .sc (.int .i64 a4), .sc (.int .i64 a5), .sc (.int .i64 a6), .sc (.int .i64 a7), .sc (.int .i64 a8), .sc (.int .i64 a9), .sc (.int .i64 a10), .sc (.int .i64 a11)]] K = L.FnExactOpOk (fun v1 => K [.one (.sc (.bool v1))]) a1 a2 a3 a4 a5 a6 a7 a8 a9 a10 a11 := by kernel_rfl
theorem good7 : Sim.Good Try.prog 7 E7 := by
  refine evF_good (G := G7) (L := loopNil) (c := c7) (envCons_good good24 (envCons_good good25 (envCons_good good26 envNil_good))) Try.func7 (by kernel_rfl) (by kernel_rfl) (by intro x hx; simp [show loopsOf c7 = [] from by kernel_rfl] at hx) (fun args K r h => ?_)
  unfold E7 at h
  split at h
  · exact (ev7 K _ _ _ _ _ _ _ _ _ _ _).trans h
  · cases h
end Go.Proofs.Ytpfjklmobjjgpaa.Run
