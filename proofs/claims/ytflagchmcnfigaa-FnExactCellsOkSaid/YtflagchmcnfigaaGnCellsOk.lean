import Derived.Test.YtflagchmcnfigaaVmU
import Derived.Test.YtflagchmcnfigaaProg
namespace Go.Proofs.Ytflagchmcnfigaa.Run
open Go Go.RowKit Go.Proofs.YtflagchmcnfigaaW.PrintWords Go.Proofs.Ytflagchmcnfigaa.Vm
set_option linter.unusedVariables false
set_option maxRecDepth 100000

/-! ### L.szIntS -/
noncomputable def G146 : Env := envNil
noncomputable def c146 : Code := bodyOf Try.f146
noncomputable def L.szIntS (a1 : Int) (a2 : List Int) : Option Int :=
(let v4 : Int := (IntKind.wrap .i64 (a1 - (a2.length : Int)))
(bif (decide (v4 < 0)) then
(some (-1))
else
(some v4)))
noncomputable def R146 (x : Int) : Res := ⟨[.one (ai x)], [], []⟩
noncomputable def K146 (r : Res) : Option Int :=
  match r with
  | ⟨[.one (.val (.int .i64 v1))], [], []⟩ => some (v1)
  | _ => none
noncomputable def E146 : Fun2 := fun args bs rs =>
  match args, bs, rs with
  | [.s1 (.one (.sl 0)), .s1 (.one (.val (.int .i64 a1)))], [], [⟨3, (.int .i64), a2, .ro⟩] => some ⟨Int, L.szIntS a1 a2, R146⟩
  | _, _, _ => none
theorem ev146 (a1 : Int) (a2 : List Int) : evF Try.prog G146 loopNil (0, 0) Try.f146 c146 [vl 0, vi a1] [] [⟨3, (.int .i64), a2, .ro⟩] K146 = L.szIntS a1 a2 := by kernel_rfl
theorem good146 : Vm.Good Try.prog 146 E146 := by
  refine evF_good (G := G146) (c := c146) envNil_good Try.func146 (by kernel_rfl) (by kernel_rfl) (0, 0) (fun args bs rs out t h h2 => ?_)
  unfold E146 at h
  split at h
  · injection h with h
    subst h
    exact ⟨rfl, loopNil, K146, (by intro x hx; simp [show loopsOf c146 = [] from by kernel_rfl] at hx), (fun r t h => by unfold K146 at h; split at h; (injection h with h; subst h; rfl); cases h), (ev146 _ _).trans h2⟩
  · cases h
/-! ### L.szAgg -/
noncomputable def G97 : Env := (envCons 146 [] E146 envNil)
noncomputable def c97 : Code := bodyOf Try.f97
noncomputable def L.szAgg (a1 a2 a3 a4 a5 a6 : Int) (a7 : List Int) : Option Int :=
(Option.bind (L.szIntS a6 a7) fun r8 =>
(bif (decide (r8 < 0)) then
(some (-1))
else
(some r8)))
noncomputable def R97 (x : Int) : Res := ⟨[.one (ai x)], [], []⟩
noncomputable def K97 (r : Res) : Option Int :=
  match r with
  | ⟨[.one (.val (.int .i64 v1))], [], []⟩ => some (v1)
  | _ => none
noncomputable def E97 : Fun2 := fun args bs rs =>
  match args, bs, rs with
  | [.s1 (.agg [.val (.int .i64 a1), .val (.int .i64 a2), .val (.int .u64 a3), .val (.int .i64 a4), .val (.int .i64 a5), .sl 0]), .s1 (.one (.val (.int .i64 a6)))], [], [⟨3, (.int .i64), a7, .ro⟩] => some ⟨Int, L.szAgg a1 a2 a3 a4 a5 a6 a7, R97⟩
  | _, _, _ => none
theorem ev97 (a1 a2 a3 a4 a5 a6 : Int) (a7 : List Int) : evF Try.prog G97 loopNil (0, 0) Try.f97 c97 [.s1 (.agg [ai a1, ai a2, ak .u64 a3, ai a4, ai a5, .sl 0]), vi a6] [] [⟨3, (.int .i64), a7, .ro⟩] K97 = L.szAgg a1 a2 a3 a4 a5 a6 a7 := by kernel_rfl
theorem good97 : Vm.Good Try.prog 97 E97 := by
  refine evF_good (G := G97) (c := c97) (envCons_good good146 envNil_good) Try.func97 (by kernel_rfl) (by kernel_rfl) (0, 0) (fun args bs rs out t h h2 => ?_)
  unfold E97 at h
  split at h
  · injection h with h
    subst h
    exact ⟨rfl, loopNil, K97, (by intro x hx; simp [show loopsOf c97 = [] from by kernel_rfl] at hx), (fun r t h => by unfold K97 at h; split at h; (injection h with h; subst h; rfl); cases h), (ev97 _ _ _ _ _ _ _).trans h2⟩
  · cases h
/-! ### L.szCell -/
noncomputable def G40 : Env := (envCons 97 [] E97 envNil)
noncomputable def c40 : Code := bodyOf Try.f40
noncomputable def L.szCell (a1 a2 a3 a4 a5 a6 a7 a8 a9 a10 a11 : Int) (a12 : List Int) : Option Int :=
(Option.bind (L.szAgg a6 a7 a8 a9 a10 a11 a12) fun r13 =>
(bif (decide (r13 < 0)) then
(some (-1))
else
(some r13)))
noncomputable def R40 (x : Int) : Res := ⟨[.one (ai x)], [], []⟩
noncomputable def K40 (r : Res) : Option Int :=
  match r with
  | ⟨[.one (.val (.int .i64 v1))], [], []⟩ => some (v1)
  | _ => none
noncomputable def E40 : Fun2 := fun args bs rs =>
  match args, bs, rs with
  | [.s1 (.agg [.val (.int .i64 a1), .val (.int .i64 a2), .val (.int .i64 a3), .val (.int .i64 a4), .val (.int .i64 a5), .val (.int .i64 a6), .val (.int .i64 a7), .val (.int .u64 a8), .val (.int .i64 a9), .val (.int .i64 a10), .sl 0]), .s1 (.one (.val (.int .i64 a11)))], [], [⟨3, (.int .i64), a12, .ro⟩] => some ⟨Int, L.szCell a1 a2 a3 a4 a5 a6 a7 a8 a9 a10 a11 a12, R40⟩
  | _, _, _ => none
theorem ev40 (a1 a2 a3 a4 a5 a6 a7 a8 a9 a10 a11 : Int) (a12 : List Int) : evF Try.prog G40 loopNil (0, 0) Try.f40 c40 [.s1 (.agg [ai a1, ai a2, ai a3, ai a4, ai a5, ai a6, ai a7, ak .u64 a8, ai a9, ai a10, .sl 0]), vi a11] [] [⟨3, (.int .i64), a12, .ro⟩] K40 = L.szCell a1 a2 a3 a4 a5 a6 a7 a8 a9 a10 a11 a12 := by kernel_rfl
theorem good40 : Vm.Good Try.prog 40 E40 := by
  refine evF_good (G := G40) (c := c40) (envCons_good good97 envNil_good) Try.func40 (by kernel_rfl) (by kernel_rfl) (0, 0) (fun args bs rs out t h h2 => ?_)
  unfold E40 at h
  split at h
  · injection h with h
    subst h
    exact ⟨rfl, loopNil, K40, (by intro x hx; simp [show loopsOf c40 = [] from by kernel_rfl] at hx), (fun r t h => by unfold K40 at h; split at h; (injection h with h; subst h; rfl); cases h), (ev40 _ _ _ _ _ _ _ _ _ _ _ _).trans h2⟩
  · cases h
/-! ### L.szCellS -/
noncomputable def G55 : Env := (envCons 40 [] E40 envNil)
noncomputable def c55 : Code := bodyOf Try.f55
noncomputable def c55_5 : Code := (loopsOf c55).getD 0 .skip
noncomputable def L.szCellS_l0 : Nat → (Int → Int → Option Int) → (Int → Option Int) → Int → Int → (List (Int × Int × Int × Int × Int × Int × (Int × Int) × Int × Int × List Int)) → Option Int
  | 0, _, _, _, _, _ => none
  | m + 1, e5_0, e5_1, a6, a7, a8 =>
    (bif (decide (a7 < (a8.length : Int))) then
    (bif decide ((0 : Int) ≤ a7 ∧ a7 < (a8.length : Int)) then
    (Option.bind (L.szCell ((nthI a8 a7 ((0 : Int), ((0 : Int), ((0 : Int), ((0 : Int), ((0 : Int), ((0 : Int), (((0 : Int), (0 : Int)), ((0 : Int), ((0 : Int), [])))))))))).1) ((nthI a8 a7 ((0 : Int), ((0 : Int), ((0 : Int), ((0 : Int), ((0 : Int), ((0 : Int), (((0 : Int), (0 : Int)), ((0 : Int), ((0 : Int), [])))))))))).2.1) ((nthI a8 a7 ((0 : Int), ((0 : Int), ((0 : Int), ((0 : Int), ((0 : Int), ((0 : Int), (((0 : Int), (0 : Int)), ((0 : Int), ((0 : Int), [])))))))))).2.2.1) ((nthI a8 a7 ((0 : Int), ((0 : Int), ((0 : Int), ((0 : Int), ((0 : Int), ((0 : Int), (((0 : Int), (0 : Int)), ((0 : Int), ((0 : Int), [])))))))))).2.2.2.1) ((nthI a8 a7 ((0 : Int), ((0 : Int), ((0 : Int), ((0 : Int), ((0 : Int), ((0 : Int), (((0 : Int), (0 : Int)), ((0 : Int), ((0 : Int), [])))))))))).2.2.2.2.1) ((nthI a8 a7 ((0 : Int), ((0 : Int), ((0 : Int), ((0 : Int), ((0 : Int), ((0 : Int), (((0 : Int), (0 : Int)), ((0 : Int), ((0 : Int), [])))))))))).2.2.2.2.2.1) ((nthI a8 a7 ((0 : Int), ((0 : Int), ((0 : Int), ((0 : Int), ((0 : Int), ((0 : Int), (((0 : Int), (0 : Int)), ((0 : Int), ((0 : Int), [])))))))))).2.2.2.2.2.2.1.1) ((nthI a8 a7 ((0 : Int), ((0 : Int), ((0 : Int), ((0 : Int), ((0 : Int), ((0 : Int), (((0 : Int), (0 : Int)), ((0 : Int), ((0 : Int), [])))))))))).2.2.2.2.2.2.1.2) ((nthI a8 a7 ((0 : Int), ((0 : Int), ((0 : Int), ((0 : Int), ((0 : Int), ((0 : Int), (((0 : Int), (0 : Int)), ((0 : Int), ((0 : Int), [])))))))))).2.2.2.2.2.2.2.1) ((nthI a8 a7 ((0 : Int), ((0 : Int), ((0 : Int), ((0 : Int), ((0 : Int), ((0 : Int), (((0 : Int), (0 : Int)), ((0 : Int), ((0 : Int), [])))))))))).2.2.2.2.2.2.2.2.1) a6 ((nthI a8 a7 ((0 : Int), ((0 : Int), ((0 : Int), ((0 : Int), ((0 : Int), ((0 : Int), (((0 : Int), (0 : Int)), ((0 : Int), ((0 : Int), [])))))))))).2.2.2.2.2.2.2.2.2)) fun r11 =>
    (bif (decide (r11 < 0)) then
    (e5_0 r11 (-1))
    else
    (L.szCellS_l0 m e5_0 e5_1 r11 (IntKind.wrap .i64 (a7 + 1)) a8)))
    else
    none)
    else
    (e5_1 a6))
noncomputable def L.szCellS (a1 : Int) (a2 : List (Int × Int × Int × Int × Int × Int × (Int × Int) × Int × Int × List Int)) : Option Int :=
(let v4 : Int := (IntKind.wrap .i64 (a1 - (a2.length : Int)))
(bif (decide (v4 < 0)) then
(some (-1))
else
(L.szCellS_l0 fu (fun y14 y15 =>
(some y15)) (fun y16 =>
(some y16)) v4 0 a2)))
noncomputable def H55_5 : LoopH := ⟨⟨((.one (.sl 0)) :: hh :: (hu 3 (hh :: (hu 21 [])))), [], [(83, (.pair (.int .i64) (.pair (.int .i64) (.pair (.int .i64) (.pair (.int .i64) (.pair (.int .i64) (.pair (.int .i64) (.pair (.pair (.int .i64) (.int .u64)) (.pair (.int .i64) (.pair (.int .i64) (.sl 3 (.int .i64))))))))))), .ro)]⟩, [2, 3, 4, 6, 7, 8, 9, 10, 11, 12, 13, 14, 15, 16, 17, 18, 19, 20, 21, 22, 23, 24, 25, 26], [], [0, 2, 3, 5, 6, 7, 8, 9, 10, 11, 12, 13, 14, 15, 16, 17, 18, 19, 20, 21, 22, 23, 24, 25, 26]⟩
noncomputable def E55_5 (m : Nat) (ps : List Prm) (k : Kont Int) : Option Int :=
  match ps with
  | [.v (.int .i64 a6), .v (.int .i64 a7), .row (.pair (.int .i64) (.pair (.int .i64) (.pair (.int .i64) (.pair (.int .i64) (.pair (.int .i64) (.pair (.int .i64) (.pair (.pair (.int .i64) (.int .u64)) (.pair (.int .i64) (.pair (.int .i64) (.sl 3 (.int .i64))))))))))) a8] => L.szCellS_l0 m (fun z20 z21 => k .ret (⟨((.s1 (.one (.unk))) :: (vi z20) :: (vu 2 ((vi z21) :: (vu 22 [])))), [], []⟩ : St)) (fun z22 => k (.exit 0) (⟨((.s1 (.one (.unk))) :: (vi z22) :: (vu 25 [])), [], []⟩ : St)) a6 a7 a8
  | _ => none
noncomputable def S55_5 (a6 a7 : Int) (a8 : List (Int × Int × Int × Int × Int × Int × (Int × Int) × Int × Int × List Int)) : St := (⟨((vl 0) :: (vi a6) :: (vu 3 ((vi a7) :: (vu 21 [])))), [], [⟨83, (.pair (.int .i64) (.pair (.int .i64) (.pair (.int .i64) (.pair (.int .i64) (.pair (.int .i64) (.pair (.int .i64) (.pair (.pair (.int .i64) (.int .u64)) (.pair (.int .i64) (.pair (.int .i64) (.sl 3 (.int .i64))))))))))), a8, .ro⟩]⟩ : St)
theorem ev55_5 (m : Nat) (k : Kont Int) (a6 a7 : Int) (a8 : List (Int × Int × Int × Int × Int × Int × (Int × Int) × Int × Int × List Int)) : evC Try.prog G55 loopNil c55_5 (S55_5 a6 a7 a8) (turn Try.prog (0, 0) H55_5 (E55_5 m) k) = E55_5 (m + 1) [.v (.int .i64 a6), .v (.int .i64 a7), .row (.pair (.int .i64) (.pair (.int .i64) (.pair (.int .i64) (.pair (.int .i64) (.pair (.int .i64) (.pair (.int .i64) (.pair (.pair (.int .i64) (.int .u64)) (.pair (.int .i64) (.pair (.int .i64) (.sl 3 (.int .i64))))))))))) a8] k := by kernel_rfl
theorem ok55_5 (m : Nat) : LoopOk Try.prog (0, 0) c55_5 (enter Try.prog (0, 0) H55_5 (E55_5 m)) := by
  refine loop_ok (G := G55) (L := loopNil) (envCons_good good40 envNil_good) (by intro x hx; simp [show loopsOf c55_5 = [] from by kernel_rfl] at hx) (fun ps k => by unfold E55_5; split <;> rfl) (fun m ps k r h => ?_) m
  have h0 := h
  unfold E55_5 at h
  split at h
  · exact ⟨S55_5 _ _ _, by kernel_rfl, (ev55_5 m k _ _ _).trans h0⟩
  · cases h
noncomputable def L55 : LEnv Int := (loopCons 5 (enter Try.prog (0, 0) H55_5 (E55_5 fu)) loopNil)
theorem lq55 : loopsOf c55 = [c55_5] := by kernel_rfl
theorem fr55_5 : firstReg c55_5 = some 5 := by kernel_rfl
theorem le55_5 : L55 5 = enter Try.prog (0, 0) H55_5 (E55_5 fu) := by kernel_rfl
theorem lm55 : ∀ x ∈ [c55_5], ∀ id, firstReg x = some id → LoopOk Try.prog (0, 0) x (L55 id) := (loops_cons fr55_5 le55_5 (ok55_5 fu) loops_nil)
theorem lp55 : ∀ x ∈ loopsOf c55, ∀ id, firstReg x = some id → LoopOk Try.prog (0, 0) x (L55 id) := loops_eq lq55 lm55
noncomputable def R55 (x : Int) : Res := ⟨[.one (ai x)], [], []⟩
noncomputable def K55 (r : Res) : Option Int :=
  match r with
  | ⟨[.one (.val (.int .i64 v1))], [], []⟩ => some (v1)
  | _ => none
noncomputable def E55 : Fun2 := fun args bs rs =>
  match args, bs, rs with
  | [.s1 (.one (.sl 0)), .s1 (.one (.val (.int .i64 a1)))], [], [⟨83, (.pair (.int .i64) (.pair (.int .i64) (.pair (.int .i64) (.pair (.int .i64) (.pair (.int .i64) (.pair (.int .i64) (.pair (.pair (.int .i64) (.int .u64)) (.pair (.int .i64) (.pair (.int .i64) (.sl 3 (.int .i64))))))))))), a2, .ro⟩] => some ⟨Int, L.szCellS a1 a2, R55⟩
  | _, _, _ => none
theorem ev55 (a1 : Int) (a2 : List (Int × Int × Int × Int × Int × Int × (Int × Int) × Int × Int × List Int)) : evF Try.prog G55 L55 (0, 0) Try.f55 c55 [vl 0, vi a1] [] [⟨83, (.pair (.int .i64) (.pair (.int .i64) (.pair (.int .i64) (.pair (.int .i64) (.pair (.int .i64) (.pair (.int .i64) (.pair (.pair (.int .i64) (.int .u64)) (.pair (.int .i64) (.pair (.int .i64) (.sl 3 (.int .i64))))))))))), a2, .ro⟩] K55 = L.szCellS a1 a2 := by kernel_rfl
theorem good55 : Vm.Good Try.prog 55 E55 := by
  refine evF_good (G := G55) (c := c55) (envCons_good good40 envNil_good) Try.func55 (by kernel_rfl) (by kernel_rfl) (0, 0) (fun args bs rs out t h h2 => ?_)
  unfold E55 at h
  split at h
  · injection h with h
    subst h
    exact ⟨rfl, L55, K55, lp55, (fun r t h => by unfold K55 at h; split at h; (injection h with h; subst h; rfl); cases h), (ev55 _ _).trans h2⟩
  · cases h
/-! ### L.toWide -/
noncomputable def G153 : Env := envNil
noncomputable def c153 : Code := bodyOf Try.f153
noncomputable def L.toWide (a1 a2 : Int) : Option (Int × Int) :=
(some (a1, a2))
noncomputable def R153 (x : Int × Int) : Res := ⟨[.agg [ai x.1, ak .u64 x.2]], [], []⟩
noncomputable def K153 (r : Res) : Option (Int × Int) :=
  match r with
  | ⟨[.agg [.val (.int .i64 v1), .val (.int .u64 v2)]], [], []⟩ => some (v1, v2)
  | _ => none
noncomputable def E153 : Fun2 := fun args bs rs =>
  match args, bs, rs with
  | [.s1 (.agg [.val (.int .i64 a1), .val (.int .u64 a2)])], [], [] => some ⟨Int × Int, L.toWide a1 a2, R153⟩
  | _, _, _ => none
theorem ev153 (a1 a2 : Int) : evF Try.prog G153 loopNil (0, 0) Try.f153 c153 [.s1 (.agg [ai a1, ak .u64 a2])] [] [] K153 = L.toWide a1 a2 := by kernel_rfl
theorem good153 : Vm.Good Try.prog 153 E153 := by
  refine evF_good (G := G153) (c := c153) envNil_good Try.func153 (by kernel_rfl) (by kernel_rfl) (0, 0) (fun args bs rs out t h h2 => ?_)
  unfold E153 at h
  split at h
  · injection h with h
    subst h
    exact ⟨rfl, loopNil, K153, (by intro x hx; simp [show loopsOf c153 = [] from by kernel_rfl] at hx), (fun r t h => by unfold K153 at h; split at h; (injection h with h; subst h; rfl); cases h), (ev153 _ _).trans h2⟩
  · cases h
/-! ### L.toIntS -/
noncomputable def G154 : Env := envNil
noncomputable def c154 : Code := bodyOf Try.f154
noncomputable def c154_3 : Code := (loopsOf c154).getD 0 .skip
noncomputable def L.toIntS_l0 : Nat → (List Int → Option (List Int)) → Int → List Int → List Int → Option (List Int)
  | 0, _, _, _, _ => none
  | m + 1, e3_0, a4, a5, a6 =>
    (bif (decide (a4 < (a5.length : Int))) then
    (bif decide ((0 : Int) ≤ a4 ∧ a4 < (a5.length : Int)) then
    (bif decide ((0 : Int) ≤ a4 ∧ a4 < (a6.length : Int)) then
    (L.toIntS_l0 m e3_0 (IntKind.wrap .i64 (a4 + 1)) a5 (a6.set (Int.toNat a4) (nthI a5 a4 (0 : Int))))
    else
    none)
    else
    none)
    else
    (e3_0 a6))
noncomputable def L.toIntS (a1 : List Int) : Option (List Int) :=
(let v2 : Int := (a1.length : Int)
(bif decide ((0 : Int) ≤ v2 ∧ v2 ≤ v2 ∧ (8 : Int) * v2 ≤ 281474976710656 ∧ v2 ≤ 9223372036854775807) then
(L.toIntS_l0 fu (fun y11 =>
(some y11)) 0 a1 (List.replicate (Int.toNat v2) (0 : Int)))
else
none))
noncomputable def H154_3 : LoopH := ⟨⟨((.one (.sl 0)) :: (hu 2 ((.one (.sl 1)) :: hh :: (hu 17 [])))), [], [(3, (.int .i64), .ro), (3, (.int .i64), .own)]⟩, [1, 2, 5, 6, 7, 8, 9, 10, 11, 12, 13, 14, 15, 16, 17, 18, 19, 20, 21], [], [0, 1, 4, 5, 6, 7, 8, 9, 10, 11, 12, 13, 14, 15, 16, 17, 18, 19, 20, 21]⟩
noncomputable def E154_3 (m : Nat) (ps : List Prm) (k : Kont (List Int)) : Option (List Int) :=
  match ps with
  | [.v (.int .i64 a4), .row (.int .i64) a5, .row (.int .i64) a6] => L.toIntS_l0 m (fun z13 => k (.exit 0) (⟨(vu 3 ((vl 0) :: (vu 18 []))), [], [⟨3, (.int .i64), z13, .own⟩]⟩ : St)) a4 a5 a6
  | _ => none
noncomputable def S154_3 (a4 : Int) (a5 a6 : List Int) : St := (⟨((vl 0) :: (vu 2 ((vl 1) :: (vi a4) :: (vu 17 [])))), [], [⟨3, (.int .i64), a5, .ro⟩, ⟨3, (.int .i64), a6, .own⟩]⟩ : St)
theorem ev154_3 (m : Nat) (k : Kont (List Int)) (a4 : Int) (a5 a6 : List Int) : evC Try.prog G154 loopNil c154_3 (S154_3 a4 a5 a6) (turn Try.prog (0, 0) H154_3 (E154_3 m) k) = E154_3 (m + 1) [.v (.int .i64 a4), .row (.int .i64) a5, .row (.int .i64) a6] k := by kernel_rfl
theorem ok154_3 (m : Nat) : LoopOk Try.prog (0, 0) c154_3 (enter Try.prog (0, 0) H154_3 (E154_3 m)) := by
  refine loop_ok (G := G154) (L := loopNil) envNil_good (by intro x hx; simp [show loopsOf c154_3 = [] from by kernel_rfl] at hx) (fun ps k => by unfold E154_3; split <;> rfl) (fun m ps k r h => ?_) m
  have h0 := h
  unfold E154_3 at h
  split at h
  · exact ⟨S154_3 _ _ _, by kernel_rfl, (ev154_3 m k _ _ _).trans h0⟩
  · cases h
noncomputable def L154 : LEnv (List Int) := (loopCons 3 (enter Try.prog (0, 0) H154_3 (E154_3 fu)) loopNil)
theorem lq154 : loopsOf c154 = [c154_3] := by kernel_rfl
theorem fr154_3 : firstReg c154_3 = some 3 := by kernel_rfl
theorem le154_3 : L154 3 = enter Try.prog (0, 0) H154_3 (E154_3 fu) := by kernel_rfl
theorem lm154 : ∀ x ∈ [c154_3], ∀ id, firstReg x = some id → LoopOk Try.prog (0, 0) x (L154 id) := (loops_cons fr154_3 le154_3 (ok154_3 fu) loops_nil)
theorem lp154 : ∀ x ∈ loopsOf c154, ∀ id, firstReg x = some id → LoopOk Try.prog (0, 0) x (L154 id) := loops_eq lq154 lm154
noncomputable def R154 (x : List Int) : Res := ⟨[.one (.sl 0)], [], [⟨3, (.int .i64), x, .own⟩]⟩
noncomputable def K154 (r : Res) : Option (List Int) :=
  match r with
  | ⟨[.one (.sl 0)], [], [⟨3, (.int .i64), v1, .own⟩]⟩ => some (v1)
  | _ => none
noncomputable def E154 : Fun2 := fun args bs rs =>
  match args, bs, rs with
  | [.s1 (.one (.sl 0))], [], [⟨3, (.int .i64), a1, .ro⟩] => some ⟨List Int, L.toIntS a1, R154⟩
  | _, _, _ => none
theorem ev154 (a1 : List Int) : evF Try.prog G154 L154 (0, 0) Try.f154 c154 [vl 0] [] [⟨3, (.int .i64), a1, .ro⟩] K154 = L.toIntS a1 := by kernel_rfl
theorem good154 : Vm.Good Try.prog 154 E154 := by
  refine evF_good (G := G154) (c := c154) envNil_good Try.func154 (by kernel_rfl) (by kernel_rfl) (0, 0) (fun args bs rs out t h h2 => ?_)
  unfold E154 at h
  split at h
  · injection h with h
    subst h
    exact ⟨rfl, L154, K154, lp154, (fun r t h => by unfold K154 at h; split at h; (injection h with h; subst h; rfl); cases h), (ev154 _).trans h2⟩
  · cases h
/-! ### L.toAgg -/
noncomputable def G101 : Env := (envCons 153 [] E153 (envCons 154 [] E154 envNil))
noncomputable def c101 : Code := bodyOf Try.f101
noncomputable def L.toAgg (a1 a2 a3 a4 a5 : Int) (a6 : List Int) : Option (Int × Int × Int × Int × Int × List Int) :=
(Option.bind (L.toWide a2 a3) fun r7 =>
(Option.bind (L.toIntS a6) fun r8 =>
(some (a1, r7.1, r7.2, a4, a5, r8))))
noncomputable def R101 (x : Int × Int × Int × Int × Int × List Int) : Res := ⟨[.agg [ai x.1, ai x.2.1, ak .u64 x.2.2.1, ai x.2.2.2.1, ai x.2.2.2.2.1, .sl 0]], [], [⟨3, (.int .i64), x.2.2.2.2.2, .own⟩]⟩
noncomputable def K101 (r : Res) : Option (Int × Int × Int × Int × Int × List Int) :=
  match r with
  | ⟨[.agg [.val (.int .i64 v1), .val (.int .i64 v2), .val (.int .u64 v3), .val (.int .i64 v4), .val (.int .i64 v5), .sl 0]], [], [⟨3, (.int .i64), v6, .own⟩]⟩ => some (v1, v2, v3, v4, v5, v6)
  | _ => none
noncomputable def E101 : Fun2 := fun args bs rs =>
  match args, bs, rs with
  | [.s1 (.agg [.val (.int .i64 a1), .val (.int .i64 a2), .val (.int .u64 a3), .val (.int .i64 a4), .val (.int .i64 a5), .sl 0])], [], [⟨3, (.int .i64), a6, .ro⟩] => some ⟨Int × Int × Int × Int × Int × List Int, L.toAgg a1 a2 a3 a4 a5 a6, R101⟩
  | _, _, _ => none
theorem ev101 (a1 a2 a3 a4 a5 : Int) (a6 : List Int) : evF Try.prog G101 loopNil (0, 0) Try.f101 c101 [.s1 (.agg [ai a1, ai a2, ak .u64 a3, ai a4, ai a5, .sl 0])] [] [⟨3, (.int .i64), a6, .ro⟩] K101 = L.toAgg a1 a2 a3 a4 a5 a6 := by kernel_rfl
theorem good101 : Vm.Good Try.prog 101 E101 := by
  refine evF_good (G := G101) (c := c101) (envCons_good good153 (envCons_good good154 envNil_good)) Try.func101 (by kernel_rfl) (by kernel_rfl) (0, 0) (fun args bs rs out t h h2 => ?_)
  unfold E101 at h
  split at h
  · injection h with h
    subst h
    exact ⟨rfl, loopNil, K101, (by intro x hx; simp [show loopsOf c101 = [] from by kernel_rfl] at hx), (fun r t h => by unfold K101 at h; split at h; (injection h with h; subst h; rfl); cases h), (ev101 _ _ _ _ _ _).trans h2⟩
  · cases h
/-! ### L.toCell -/
noncomputable def G42 : Env := (envCons 101 [] E101 envNil)
noncomputable def c42 : Code := bodyOf Try.f42
noncomputable def L.toCell (a1 a2 a3 a4 a5 a6 a7 a8 a9 a10 : Int) (a11 : List Int) : Option (Int × Int × Int × Int × Int × Int × Int × Int × Int × Int × List Int) :=
(Option.bind (L.toAgg a6 a7 a8 a9 a10 a11) fun r12 =>
(some (a1, a2, a3, a4, a5, r12.1, r12.2.1, r12.2.2.1, r12.2.2.2.1, r12.2.2.2.2.1, r12.2.2.2.2.2)))
noncomputable def R42 (x : Int × Int × Int × Int × Int × Int × Int × Int × Int × Int × List Int) : Res := ⟨[.agg [ai x.1, ai x.2.1, ai x.2.2.1, ai x.2.2.2.1, ai x.2.2.2.2.1, ai x.2.2.2.2.2.1, ai x.2.2.2.2.2.2.1, ak .u64 x.2.2.2.2.2.2.2.1, ai x.2.2.2.2.2.2.2.2.1, ai x.2.2.2.2.2.2.2.2.2.1, .sl 0]], [], [⟨3, (.int .i64), x.2.2.2.2.2.2.2.2.2.2, .own⟩]⟩
noncomputable def K42 (r : Res) : Option (Int × Int × Int × Int × Int × Int × Int × Int × Int × Int × List Int) :=
  match r with
  | ⟨[.agg [.val (.int .i64 v1), .val (.int .i64 v2), .val (.int .i64 v3), .val (.int .i64 v4), .val (.int .i64 v5), .val (.int .i64 v6), .val (.int .i64 v7), .val (.int .u64 v8), .val (.int .i64 v9), .val (.int .i64 v10), .sl 0]], [], [⟨3, (.int .i64), v11, .own⟩]⟩ => some (v1, v2, v3, v4, v5, v6, v7, v8, v9, v10, v11)
  | _ => none
noncomputable def E42 : Fun2 := fun args bs rs =>
  match args, bs, rs with
  | [.s1 (.agg [.val (.int .i64 a1), .val (.int .i64 a2), .val (.int .i64 a3), .val (.int .i64 a4), .val (.int .i64 a5), .val (.int .i64 a6), .val (.int .i64 a7), .val (.int .u64 a8), .val (.int .i64 a9), .val (.int .i64 a10), .sl 0])], [], [⟨3, (.int .i64), a11, .ro⟩] => some ⟨Int × Int × Int × Int × Int × Int × Int × Int × Int × Int × List Int, L.toCell a1 a2 a3 a4 a5 a6 a7 a8 a9 a10 a11, R42⟩
  | _, _, _ => none
theorem ev42 (a1 a2 a3 a4 a5 a6 a7 a8 a9 a10 : Int) (a11 : List Int) : evF Try.prog G42 loopNil (0, 0) Try.f42 c42 [.s1 (.agg [ai a1, ai a2, ai a3, ai a4, ai a5, ai a6, ai a7, ak .u64 a8, ai a9, ai a10, .sl 0])] [] [⟨3, (.int .i64), a11, .ro⟩] K42 = L.toCell a1 a2 a3 a4 a5 a6 a7 a8 a9 a10 a11 := by kernel_rfl
theorem good42 : Vm.Good Try.prog 42 E42 := by
  refine evF_good (G := G42) (c := c42) (envCons_good good101 envNil_good) Try.func42 (by kernel_rfl) (by kernel_rfl) (0, 0) (fun args bs rs out t h h2 => ?_)
  unfold E42 at h
  split at h
  · injection h with h
    subst h
    exact ⟨rfl, loopNil, K42, (by intro x hx; simp [show loopsOf c42 = [] from by kernel_rfl] at hx), (fun r t h => by unfold K42 at h; split at h; (injection h with h; subst h; rfl); cases h), (ev42 _ _ _ _ _ _ _ _ _ _ _).trans h2⟩
  · cases h
/-! ### L.toCellS -/
noncomputable def G57 : Env := (envCons 42 [] E42 envNil)
noncomputable def c57 : Code := bodyOf Try.f57
noncomputable def c57_3 : Code := (loopsOf c57).getD 0 .skip
noncomputable def L.toCellS_l0 : Nat → ((List (Int × Int × Int × Int × Int × Int × (Int × Int) × Int × Int × List Int)) → Option ((List (Int × Int × Int × Int × Int × Int × (Int × Int) × Int × Int × List Int)))) → Int → (List (Int × Int × Int × Int × Int × Int × (Int × Int) × Int × Int × List Int)) → (List (Int × Int × Int × Int × Int × Int × (Int × Int) × Int × Int × List Int)) → Option ((List (Int × Int × Int × Int × Int × Int × (Int × Int) × Int × Int × List Int)))
  | 0, _, _, _, _ => none
  | m + 1, e3_0, a4, a5, a6 =>
    (bif (decide (a4 < (a5.length : Int))) then
    (bif decide ((0 : Int) ≤ a4 ∧ a4 < (a5.length : Int)) then
    (Option.bind (L.toCell ((nthI a5 a4 ((0 : Int), ((0 : Int), ((0 : Int), ((0 : Int), ((0 : Int), ((0 : Int), (((0 : Int), (0 : Int)), ((0 : Int), ((0 : Int), [])))))))))).1) ((nthI a5 a4 ((0 : Int), ((0 : Int), ((0 : Int), ((0 : Int), ((0 : Int), ((0 : Int), (((0 : Int), (0 : Int)), ((0 : Int), ((0 : Int), [])))))))))).2.1) ((nthI a5 a4 ((0 : Int), ((0 : Int), ((0 : Int), ((0 : Int), ((0 : Int), ((0 : Int), (((0 : Int), (0 : Int)), ((0 : Int), ((0 : Int), [])))))))))).2.2.1) ((nthI a5 a4 ((0 : Int), ((0 : Int), ((0 : Int), ((0 : Int), ((0 : Int), ((0 : Int), (((0 : Int), (0 : Int)), ((0 : Int), ((0 : Int), [])))))))))).2.2.2.1) ((nthI a5 a4 ((0 : Int), ((0 : Int), ((0 : Int), ((0 : Int), ((0 : Int), ((0 : Int), (((0 : Int), (0 : Int)), ((0 : Int), ((0 : Int), [])))))))))).2.2.2.2.1) ((nthI a5 a4 ((0 : Int), ((0 : Int), ((0 : Int), ((0 : Int), ((0 : Int), ((0 : Int), (((0 : Int), (0 : Int)), ((0 : Int), ((0 : Int), [])))))))))).2.2.2.2.2.1) ((nthI a5 a4 ((0 : Int), ((0 : Int), ((0 : Int), ((0 : Int), ((0 : Int), ((0 : Int), (((0 : Int), (0 : Int)), ((0 : Int), ((0 : Int), [])))))))))).2.2.2.2.2.2.1.1) ((nthI a5 a4 ((0 : Int), ((0 : Int), ((0 : Int), ((0 : Int), ((0 : Int), ((0 : Int), (((0 : Int), (0 : Int)), ((0 : Int), ((0 : Int), [])))))))))).2.2.2.2.2.2.1.2) ((nthI a5 a4 ((0 : Int), ((0 : Int), ((0 : Int), ((0 : Int), ((0 : Int), ((0 : Int), (((0 : Int), (0 : Int)), ((0 : Int), ((0 : Int), [])))))))))).2.2.2.2.2.2.2.1) ((nthI a5 a4 ((0 : Int), ((0 : Int), ((0 : Int), ((0 : Int), ((0 : Int), ((0 : Int), (((0 : Int), (0 : Int)), ((0 : Int), ((0 : Int), [])))))))))).2.2.2.2.2.2.2.2.1) ((nthI a5 a4 ((0 : Int), ((0 : Int), ((0 : Int), ((0 : Int), ((0 : Int), ((0 : Int), (((0 : Int), (0 : Int)), ((0 : Int), ((0 : Int), [])))))))))).2.2.2.2.2.2.2.2.2)) fun r9 =>
    (bif decide ((0 : Int) ≤ a4 ∧ a4 < (a6.length : Int)) then
    (let v10 : List (Int × Int × Int × Int × Int × Int × (Int × Int) × Int × Int × List Int) := (a6.set (Int.toNat a4) (r9.1, (r9.2.1, (r9.2.2.1, (r9.2.2.2.1, (r9.2.2.2.2.1, (r9.2.2.2.2.2.1, ((r9.2.2.2.2.2.2.1, r9.2.2.2.2.2.2.2.1), (r9.2.2.2.2.2.2.2.2.1, (r9.2.2.2.2.2.2.2.2.2.1, r9.2.2.2.2.2.2.2.2.2.2))))))))))
    (L.toCellS_l0 m e3_0 (IntKind.wrap .i64 (a4 + 1)) a5 v10))
    else
    none))
    else
    none)
    else
    (e3_0 a6))
noncomputable def L.toCellS (a1 : List (Int × Int × Int × Int × Int × Int × (Int × Int) × Int × Int × List Int)) : Option ((List (Int × Int × Int × Int × Int × Int × (Int × Int) × Int × Int × List Int))) :=
(let v2 : Int := (a1.length : Int)
(bif decide ((0 : Int) ≤ v2 ∧ v2 ≤ v2 ∧ (104 : Int) * v2 ≤ 281474976710656 ∧ v2 ≤ 9223372036854775807) then
(let v3 : List (Int × Int × Int × Int × Int × Int × (Int × Int) × Int × Int × List Int) := (List.replicate (Int.toNat v2) (0, (0, (0, (0, (0, (0, ((0, 0), (0, (0, []))))))))))
(L.toCellS_l0 fu (fun y12 =>
(some y12)) 0 a1 v3))
else
none))
noncomputable def H57_3 : LoopH := ⟨⟨((.one (.sl 0)) :: (hu 2 ((.one (.sl 1)) :: hh :: (hu 18 [])))), [], [(83, (.pair (.int .i64) (.pair (.int .i64) (.pair (.int .i64) (.pair (.int .i64) (.pair (.int .i64) (.pair (.int .i64) (.pair (.pair (.int .i64) (.int .u64)) (.pair (.int .i64) (.pair (.int .i64) (.sl 3 (.int .i64))))))))))), .ro), (90, (.pair (.int .i64) (.pair (.int .i64) (.pair (.int .i64) (.pair (.int .i64) (.pair (.int .i64) (.pair (.int .i64) (.pair (.pair (.int .i64) (.int .u64)) (.pair (.int .i64) (.pair (.int .i64) (.sl 3 (.int .i64))))))))))), .own)]⟩, [1, 2, 5, 6, 7, 8, 9, 10, 11, 12, 13, 14, 15, 16, 17, 18, 19, 20, 21, 22], [], [0, 1, 4, 5, 6, 7, 8, 9, 10, 11, 12, 13, 14, 15, 16, 17, 18, 19, 20, 21, 22]⟩
noncomputable def E57_3 (m : Nat) (ps : List Prm) (k : Kont ((List (Int × Int × Int × Int × Int × Int × (Int × Int) × Int × Int × List Int)))) : Option ((List (Int × Int × Int × Int × Int × Int × (Int × Int) × Int × Int × List Int))) :=
  match ps with
  | [.v (.int .i64 a4), .row (.pair (.int .i64) (.pair (.int .i64) (.pair (.int .i64) (.pair (.int .i64) (.pair (.int .i64) (.pair (.int .i64) (.pair (.pair (.int .i64) (.int .u64)) (.pair (.int .i64) (.pair (.int .i64) (.sl 3 (.int .i64))))))))))) a5, .row (.pair (.int .i64) (.pair (.int .i64) (.pair (.int .i64) (.pair (.int .i64) (.pair (.int .i64) (.pair (.int .i64) (.pair (.pair (.int .i64) (.int .u64)) (.pair (.int .i64) (.pair (.int .i64) (.sl 3 (.int .i64))))))))))) a6] => L.toCellS_l0 m (fun z14 => k (.exit 0) (⟨(vu 3 ((vl 0) :: (vu 19 []))), [], [⟨90, (.pair (.int .i64) (.pair (.int .i64) (.pair (.int .i64) (.pair (.int .i64) (.pair (.int .i64) (.pair (.int .i64) (.pair (.pair (.int .i64) (.int .u64)) (.pair (.int .i64) (.pair (.int .i64) (.sl 3 (.int .i64))))))))))), z14, .own⟩]⟩ : St)) a4 a5 a6
  | _ => none
noncomputable def S57_3 (a4 : Int) (a5 a6 : List (Int × Int × Int × Int × Int × Int × (Int × Int) × Int × Int × List Int)) : St := (⟨((vl 0) :: (vu 2 ((vl 1) :: (vi a4) :: (vu 18 [])))), [], [⟨83, (.pair (.int .i64) (.pair (.int .i64) (.pair (.int .i64) (.pair (.int .i64) (.pair (.int .i64) (.pair (.int .i64) (.pair (.pair (.int .i64) (.int .u64)) (.pair (.int .i64) (.pair (.int .i64) (.sl 3 (.int .i64))))))))))), a5, .ro⟩, ⟨90, (.pair (.int .i64) (.pair (.int .i64) (.pair (.int .i64) (.pair (.int .i64) (.pair (.int .i64) (.pair (.int .i64) (.pair (.pair (.int .i64) (.int .u64)) (.pair (.int .i64) (.pair (.int .i64) (.sl 3 (.int .i64))))))))))), a6, .own⟩]⟩ : St)
theorem ev57_3 (m : Nat) (k : Kont ((List (Int × Int × Int × Int × Int × Int × (Int × Int) × Int × Int × List Int)))) (a4 : Int) (a5 a6 : List (Int × Int × Int × Int × Int × Int × (Int × Int) × Int × Int × List Int)) : evC Try.prog G57 loopNil c57_3 (S57_3 a4 a5 a6) (turn Try.prog (0, 0) H57_3 (E57_3 m) k) = E57_3 (m + 1) [.v (.int .i64 a4), .row (.pair (.int .i64) (.pair (.int .i64) (.pair (.int .i64) (.pair (.int .i64) (.pair (.int .i64) (.pair (.int .i64) (.pair (.pair (.int .i64) (.int .u64)) (.pair (.int .i64) (.pair (.int .i64) (.sl 3 (.int .i64))))))))))) a5, .row (.pair (.int .i64) (.pair (.int .i64) (.pair (.int .i64) (.pair (.int .i64) (.pair (.int .i64) (.pair (.int .i64) (.pair (.pair (.int .i64) (.int .u64)) (.pair (.int .i64) (.pair (.int .i64) (.sl 3 (.int .i64))))))))))) a6] k := by kernel_rfl
theorem ok57_3 (m : Nat) : LoopOk Try.prog (0, 0) c57_3 (enter Try.prog (0, 0) H57_3 (E57_3 m)) := by
  refine loop_ok (G := G57) (L := loopNil) (envCons_good good42 envNil_good) (by intro x hx; simp [show loopsOf c57_3 = [] from by kernel_rfl] at hx) (fun ps k => by unfold E57_3; split <;> rfl) (fun m ps k r h => ?_) m
  have h0 := h
  unfold E57_3 at h
  split at h
  · exact ⟨S57_3 _ _ _, by kernel_rfl, (ev57_3 m k _ _ _).trans h0⟩
  · cases h
noncomputable def L57 : LEnv ((List (Int × Int × Int × Int × Int × Int × (Int × Int) × Int × Int × List Int))) := (loopCons 3 (enter Try.prog (0, 0) H57_3 (E57_3 fu)) loopNil)
theorem lq57 : loopsOf c57 = [c57_3] := by kernel_rfl
theorem fr57_3 : firstReg c57_3 = some 3 := by kernel_rfl
theorem le57_3 : L57 3 = enter Try.prog (0, 0) H57_3 (E57_3 fu) := by kernel_rfl
theorem lm57 : ∀ x ∈ [c57_3], ∀ id, firstReg x = some id → LoopOk Try.prog (0, 0) x (L57 id) := (loops_cons fr57_3 le57_3 (ok57_3 fu) loops_nil)
theorem lp57 : ∀ x ∈ loopsOf c57, ∀ id, firstReg x = some id → LoopOk Try.prog (0, 0) x (L57 id) := loops_eq lq57 lm57
noncomputable def R57 (x : (List (Int × Int × Int × Int × Int × Int × (Int × Int) × Int × Int × List Int))) : Res := ⟨[.one (.sl 0)], [], [⟨90, (.pair (.int .i64) (.pair (.int .i64) (.pair (.int .i64) (.pair (.int .i64) (.pair (.int .i64) (.pair (.int .i64) (.pair (.pair (.int .i64) (.int .u64)) (.pair (.int .i64) (.pair (.int .i64) (.sl 3 (.int .i64))))))))))), x, .own⟩]⟩
noncomputable def K57 (r : Res) : Option ((List (Int × Int × Int × Int × Int × Int × (Int × Int) × Int × Int × List Int))) :=
  match r with
  | ⟨[.one (.sl 0)], [], [⟨90, (.pair (.int .i64) (.pair (.int .i64) (.pair (.int .i64) (.pair (.int .i64) (.pair (.int .i64) (.pair (.int .i64) (.pair (.pair (.int .i64) (.int .u64)) (.pair (.int .i64) (.pair (.int .i64) (.sl 3 (.int .i64))))))))))), v1, .own⟩]⟩ => some (v1)
  | _ => none
noncomputable def E57 : Fun2 := fun args bs rs =>
  match args, bs, rs with
  | [.s1 (.one (.sl 0))], [], [⟨83, (.pair (.int .i64) (.pair (.int .i64) (.pair (.int .i64) (.pair (.int .i64) (.pair (.int .i64) (.pair (.int .i64) (.pair (.pair (.int .i64) (.int .u64)) (.pair (.int .i64) (.pair (.int .i64) (.sl 3 (.int .i64))))))))))), a1, .ro⟩] => some ⟨(List (Int × Int × Int × Int × Int × Int × (Int × Int) × Int × Int × List Int)), L.toCellS a1, R57⟩
  | _, _, _ => none
theorem ev57 (a1 : List (Int × Int × Int × Int × Int × Int × (Int × Int) × Int × Int × List Int)) : evF Try.prog G57 L57 (0, 0) Try.f57 c57 [vl 0] [] [⟨83, (.pair (.int .i64) (.pair (.int .i64) (.pair (.int .i64) (.pair (.int .i64) (.pair (.int .i64) (.pair (.int .i64) (.pair (.pair (.int .i64) (.int .u64)) (.pair (.int .i64) (.pair (.int .i64) (.sl 3 (.int .i64))))))))))), a1, .ro⟩] K57 = L.toCellS a1 := by kernel_rfl
theorem good57 : Vm.Good Try.prog 57 E57 := by
  refine evF_good (G := G57) (c := c57) (envCons_good good42 envNil_good) Try.func57 (by kernel_rfl) (by kernel_rfl) (0, 0) (fun args bs rs out t h h2 => ?_)
  unfold E57 at h
  split at h
  · injection h with h
    subst h
    exact ⟨rfl, L57, K57, lp57, (fun r t h => by unfold K57 at h; split at h; (injection h with h; subst h; rfl); cases h), (ev57 _).trans h2⟩
  · cases h
/-! ### S.l04Key -/
noncomputable def G98 : Env := envNil
noncomputable def c98 : Code := bodyOf Try.f98
noncomputable def S.l04Key (a1 : Int) : Option Bool :=
(bif (decide (0 ≤ a1)) then
(some (decide (a1 ≤ 15)))
else
(some false))
noncomputable def R98 (x : Bool) : Res := ⟨[.one (ab x)], [], []⟩
noncomputable def K98 (r : Res) : Option Bool :=
  match r with
  | ⟨[.one (.val (.bool v1))], [], []⟩ => some (v1)
  | _ => none
noncomputable def E98 : Fun2 := fun args bs rs =>
  match args, bs, rs with
  | [.s1 (.one (.val (.int .i64 a1)))], [], [] => some ⟨Bool, S.l04Key a1, R98⟩
  | _, _, _ => none
theorem ev98 (a1 : Int) : evF Try.prog G98 loopNil (0, 0) Try.f98 c98 [vi a1] [] [] K98 = S.l04Key a1 := by kernel_rfl
theorem good98 : Vm.Good Try.prog 98 E98 := by
  refine evF_good (G := G98) (c := c98) envNil_good Try.func98 (by kernel_rfl) (by kernel_rfl) (0, 0) (fun args bs rs out t h h2 => ?_)
  unfold E98 at h
  split at h
  · injection h with h
    subst h
    exact ⟨rfl, loopNil, K98, (by intro x hx; simp [show loopsOf c98 = [] from by kernel_rfl] at hx), (fun r t h => by unfold K98 at h; split at h; (injection h with h; subst h; rfl); cases h), (ev98 _).trans h2⟩
  · cases h
/-! ### S.l06Win -/
noncomputable def G99 : Env := envNil
noncomputable def c99 : Code := bodyOf Try.f99
noncomputable def S.l06Win (a1 a2 : Int) : Option Bool :=
(bif (decide (0 ≤ a1)) then
(bif (decide (a1 < a2)) then
(some (decide (a2 ≤ 1100)))
else
(some false))
else
(some false))
noncomputable def R99 (x : Bool) : Res := ⟨[.one (ab x)], [], []⟩
noncomputable def K99 (r : Res) : Option Bool :=
  match r with
  | ⟨[.one (.val (.bool v1))], [], []⟩ => some (v1)
  | _ => none
noncomputable def E99 : Fun2 := fun args bs rs =>
  match args, bs, rs with
  | [.s1 (.agg [.val (.int .i64 a1), .val (.int .i64 a2)])], [], [] => some ⟨Bool, S.l06Win a1 a2, R99⟩
  | _, _, _ => none
theorem ev99 (a1 a2 : Int) : evF Try.prog G99 loopNil (0, 0) Try.f99 c99 [.s1 (.agg [ai a1, ai a2])] [] [] K99 = S.l06Win a1 a2 := by kernel_rfl
theorem good99 : Vm.Good Try.prog 99 E99 := by
  refine evF_good (G := G99) (c := c99) envNil_good Try.func99 (by kernel_rfl) (by kernel_rfl) (0, 0) (fun args bs rs out t h h2 => ?_)
  unfold E99 at h
  split at h
  · injection h with h
    subst h
    exact ⟨rfl, loopNil, K99, (by intro x hx; simp [show loopsOf c99 = [] from by kernel_rfl] at hx), (fun r t h => by unfold K99 at h; split at h; (injection h with h; subst h; rfl); cases h), (ev99 _ _).trans h2⟩
  · cases h
/-! ### S.TopOf -/
noncomputable def G148 : Env := envNil
noncomputable def c148 : Code := bodyOf Try.f148
noncomputable def c148_3 : Code := (loopsOf c148).getD 0 .skip
noncomputable def c148_6 : Code := (loopsOf c148_3).getD 0 .skip
noncomputable def S.TopOf_l1 : Nat → (Int → List Int → List Int → Option (List Int)) → Int → Int → List Int → List Int → Option (List Int)
  | 0, _, _, _, _, _ => none
  | m + 1, e6_0, a10, a11, a12, a13 =>
    (bif (decide (a11 < (a12.length : Int))) then
    (bif decide ((0 : Int) ≤ a11 ∧ a11 < (a12.length : Int)) then
    (bif decide ((0 : Int) ≤ a10 ∧ a10 < (a12.length : Int)) then
    (let v16 : Bool := (decide ((nthI a12 a10 (0 : Int)) < (nthI a12 a11 (0 : Int))))
    (bif v16 then
    (S.TopOf_l1 m e6_0 a11 (IntKind.wrap .i64 (a11 + 1)) a12 a13)
    else
    (S.TopOf_l1 m e6_0 a10 (IntKind.wrap .i64 (a11 + 1)) a12 a13)))
    else
    none)
    else
    none)
    else
    (e6_0 a10 a12 a13))
noncomputable def S.TopOf_l0 : Nat → (List Int → Option (List Int)) → List Int → List Int → Option (List Int)
  | 0, _, _, _ => none
  | m + 1, e3_0, a4, a5 =>
    (bif (decide ((a5.length : Int) < 4)) then
    (bif (decide (0 < (a4.length : Int))) then
    (S.TopOf_l1 fu (fun y19 y20 y21 =>
    (bif decide ((0 : Int) ≤ y19 ∧ y19 < (y20.length : Int)) then
    (let v22 : List Int := [(nthI y20 y19 (0 : Int))]
    (bif decide ((y21.length + v22.length) * 8 ≤ 140737488355328) then
    (bif decide ((0 : Int) ≤ 0 ∧ 0 ≤ y19 ∧ y19 ≤ (y20.length : Int)) then
    (let v23 : Int := (IntKind.wrap .i64 (y19 + 1))
    (bif decide ((0 : Int) ≤ v23 ∧ v23 ≤ (y20.length : Int) ∧ (y20.length : Int) ≤ (y20.length : Int)) then
    (bif decide ((([] : List (Int)).length + ((y20.take (Int.toNat y19)).drop (Int.toNat 0)).length) * 8 ≤ 140737488355328) then
    (let v24 : List Int := (([] : List (Int)) ++ ((y20.take (Int.toNat y19)).drop (Int.toNat 0)))
    (bif decide ((v24.length + ((y20.take (Int.toNat (y20.length : Int))).drop (Int.toNat v23)).length) * 8 ≤ 140737488355328) then
    (let v25 : List Int := (v24 ++ ((y20.take (Int.toNat (y20.length : Int))).drop (Int.toNat v23)))
    (S.TopOf_l0 m e3_0 v25 (y21 ++ v22)))
    else
    none))
    else
    none)
    else
    none))
    else
    none)
    else
    none))
    else
    none)) 0 0 a4 a5)
    else
    (e3_0 a5))
    else
    (e3_0 a5))
noncomputable def S.TopOf (a1 a2 : List Int) : Option (List Int) :=
(bif decide ((([] : List (Int)).length + a1.length) * 8 ≤ 140737488355328) then
(let v3 : List Int := (([] : List (Int)) ++ a1)
(bif decide ((v3.length + a2.length) * 8 ≤ 140737488355328) then
(S.TopOf_l0 fu (fun y26 =>
(some y26)) (v3 ++ a2) [])
else
none))
else
none)
noncomputable def H148_6 : LoopH := ⟨⟨(hu 5 ((.one (.sl 0)) :: (.one (.sl 1)) :: hh :: hh :: (hu 48 []))), [], [(3, (.int .i64), .own), (3, (.int .i64), .own)]⟩, [0, 1, 2, 3, 4, 9, 10, 11, 12, 13, 14, 15, 16, 17, 18, 19, 20, 21, 22, 23, 24, 25, 26, 27, 28, 29, 30, 31, 32, 33, 34, 35, 36, 37, 38, 39, 40, 41, 42, 43, 44, 45, 46, 47, 48, 49, 50, 51, 52, 53, 54, 55, 56], [], [0, 1, 2, 3, 8, 9, 10, 11, 12, 13, 14, 15, 16, 17, 18, 19, 20, 21, 22, 23, 24, 25, 26, 27, 28, 29, 30, 31, 32, 33, 34, 35, 36, 37, 38, 39, 40, 41, 42, 43, 44, 45, 46, 47, 48, 49, 50, 51, 52, 53, 54, 55, 56]⟩
noncomputable def E148_6 (m : Nat) (ps : List Prm) (k : Kont (List Int)) : Option (List Int) :=
  match ps with
  | [.v (.int .i64 a10), .v (.int .i64 a11), .row (.int .i64) a12, .row (.int .i64) a13] => S.TopOf_l1 m (fun z31 z32 z33 => k (.exit 2) (⟨(vu 5 ((vl 0) :: (vl 1) :: (vi z31) :: (vu 49 []))), [], [⟨3, (.int .i64), z32, .own⟩, ⟨3, (.int .i64), z33, .own⟩]⟩ : St)) a10 a11 a12 a13
  | _ => none
noncomputable def S148_6 (a10 a11 : Int) (a12 a13 : List Int) : St := (⟨(vu 5 ((vl 0) :: (vl 1) :: (vi a10) :: (vi a11) :: (vu 48 []))), [], [⟨3, (.int .i64), a12, .own⟩, ⟨3, (.int .i64), a13, .own⟩]⟩ : St)
theorem ev148_6 (m : Nat) (k : Kont (List Int)) (a10 a11 : Int) (a12 a13 : List Int) : evC Try.prog G148 loopNil c148_6 (S148_6 a10 a11 a12 a13) (turn Try.prog (0, 0) H148_6 (E148_6 m) k) = E148_6 (m + 1) [.v (.int .i64 a10), .v (.int .i64 a11), .row (.int .i64) a12, .row (.int .i64) a13] k := by kernel_rfl
theorem ok148_6 (m : Nat) : LoopOk Try.prog (0, 0) c148_6 (enter Try.prog (0, 0) H148_6 (E148_6 m)) := by
  refine loop_ok (G := G148) (L := loopNil) envNil_good (by intro x hx; simp [show loopsOf c148_6 = [] from by kernel_rfl] at hx) (fun ps k => by unfold E148_6; split <;> rfl) (fun m ps k r h => ?_) m
  have h0 := h
  unfold E148_6 at h
  split at h
  · exact ⟨S148_6 _ _ _ _, by kernel_rfl, (ev148_6 m k _ _ _ _).trans h0⟩
  · cases h
noncomputable def L148_3 : LEnv (List Int) := (loopCons 6 (enter Try.prog (0, 0) H148_6 (E148_6 fu)) loopNil)
theorem lq148_3 : loopsOf c148_3 = [c148_6] := by kernel_rfl
theorem fr148_6 : firstReg c148_6 = some 6 := by kernel_rfl
theorem le148_6 : L148_3 6 = enter Try.prog (0, 0) H148_6 (E148_6 fu) := by kernel_rfl
theorem lm148_3 : ∀ x ∈ [c148_6], ∀ id, firstReg x = some id → LoopOk Try.prog (0, 0) x (L148_3 id) := (loops_cons fr148_6 le148_6 (ok148_6 fu) loops_nil)
theorem lp148_3 : ∀ x ∈ loopsOf c148_3, ∀ id, firstReg x = some id → LoopOk Try.prog (0, 0) x (L148_3 id) := loops_eq lq148_3 lm148_3
noncomputable def H148_3 : LoopH := ⟨⟨(hu 5 ((.one (.sl 0)) :: (.one (.sl 1)) :: (hu 50 []))), [], [(3, (.int .i64), .own), (3, (.int .i64), .own)]⟩, [0, 1, 2, 3, 4, 7, 8, 9, 10, 11, 12, 13, 14, 15, 16, 17, 18, 19, 20, 21, 22, 23, 24, 25, 26, 27, 28, 29, 30, 31, 32, 33, 34, 35, 36, 37, 38, 39, 40, 41, 42, 43, 44, 45, 46, 47, 48, 49, 50, 51, 52, 53, 54, 55, 56], [], [0, 1, 2, 3, 5, 7, 8, 9, 10, 11, 12, 13, 14, 15, 16, 17, 18, 19, 20, 21, 22, 23, 24, 25, 26, 27, 28, 29, 30, 31, 32, 33, 34, 35, 36, 37, 38, 39, 40, 41, 42, 43, 44, 45, 46, 47, 48, 49, 50, 51, 52, 53, 54, 55, 56]⟩
noncomputable def E148_3 (m : Nat) (ps : List Prm) (k : Kont (List Int)) : Option (List Int) :=
  match ps with
  | [.row (.int .i64) a4, .row (.int .i64) a5] => S.TopOf_l0 m (fun z34 => k (.exit 0) (⟨(vu 6 ((vl 0) :: (vu 50 []))), [], [⟨3, (.int .i64), z34, .own⟩]⟩ : St)) a4 a5
  | _ => none
noncomputable def S148_3 (a4 a5 : List Int) : St := (⟨(vu 5 ((vl 0) :: (vl 1) :: (vu 50 []))), [], [⟨3, (.int .i64), a4, .own⟩, ⟨3, (.int .i64), a5, .own⟩]⟩ : St)
theorem ev148_3 (m : Nat) (k : Kont (List Int)) (a4 a5 : List Int) : evC Try.prog G148 L148_3 c148_3 (S148_3 a4 a5) (turn Try.prog (0, 0) H148_3 (E148_3 m) k) = E148_3 (m + 1) [.row (.int .i64) a4, .row (.int .i64) a5] k := by kernel_rfl
theorem ok148_3 (m : Nat) : LoopOk Try.prog (0, 0) c148_3 (enter Try.prog (0, 0) H148_3 (E148_3 m)) := by
  refine loop_ok (G := G148) (L := L148_3) envNil_good lp148_3 (fun ps k => by unfold E148_3; split <;> rfl) (fun m ps k r h => ?_) m
  have h0 := h
  unfold E148_3 at h
  split at h
  · exact ⟨S148_3 _ _, by kernel_rfl, (ev148_3 m k _ _).trans h0⟩
  · cases h
noncomputable def L148 : LEnv (List Int) := (loopCons 3 (enter Try.prog (0, 0) H148_3 (E148_3 fu)) loopNil)
theorem lq148 : loopsOf c148 = [c148_3] := by kernel_rfl
theorem fr148_3 : firstReg c148_3 = some 3 := by kernel_rfl
theorem le148_3 : L148 3 = enter Try.prog (0, 0) H148_3 (E148_3 fu) := by kernel_rfl
theorem lm148 : ∀ x ∈ [c148_3], ∀ id, firstReg x = some id → LoopOk Try.prog (0, 0) x (L148 id) := (loops_cons fr148_3 le148_3 (ok148_3 fu) loops_nil)
theorem lp148 : ∀ x ∈ loopsOf c148, ∀ id, firstReg x = some id → LoopOk Try.prog (0, 0) x (L148 id) := loops_eq lq148 lm148
noncomputable def R148 (x : List Int) : Res := ⟨[.one (.sl 0)], [], [⟨3, (.int .i64), x, .own⟩]⟩
noncomputable def K148 (r : Res) : Option (List Int) :=
  match r with
  | ⟨[.one (.sl 0)], [], [⟨3, (.int .i64), v1, .own⟩]⟩ => some (v1)
  | _ => none
noncomputable def E148 : Fun2 := fun args bs rs =>
  match args, bs, rs with
  | [.s1 (.one (.sl 0)), .s1 (.one (.sl 1))], [], [⟨3, (.int .i64), a1, .ro⟩, ⟨3, (.int .i64), a2, .ro⟩] => some ⟨List Int, S.TopOf a1 a2, R148⟩
  | _, _, _ => none
theorem ev148 (a1 a2 : List Int) : evF Try.prog G148 L148 (0, 0) Try.f148 c148 [vl 0, vl 1] [] [⟨3, (.int .i64), a1, .ro⟩, ⟨3, (.int .i64), a2, .ro⟩] K148 = S.TopOf a1 a2 := by kernel_rfl
theorem good148 : Vm.Good Try.prog 148 E148 := by
  refine evF_good (G := G148) (c := c148) envNil_good Try.func148 (by kernel_rfl) (by kernel_rfl) (0, 0) (fun args bs rs out t h h2 => ?_)
  unfold E148 at h
  split at h
  · injection h with h
    subst h
    exact ⟨rfl, L148, K148, lp148, (fun r t h => by unfold K148 at h; split at h; (injection h with h; subst h; rfl); cases h), (ev148 _ _).trans h2⟩
  · cases h
/-! ### S.l07Same -/
noncomputable def G147 : Env := envNil
noncomputable def c147 : Code := bodyOf Try.f147
noncomputable def c147_4 : Code := (loopsOf c147).getD 0 .skip
noncomputable def S.l07Same_l0 : Nat → (Bool → Option Bool) → (Option Bool) → Int → List Int → List Int → Option Bool
  | 0, _, _, _, _, _ => none
  | m + 1, e4_0, e4_1, a5, a6, a7 =>
    (bif (decide (a5 < (a6.length : Int))) then
    (bif decide ((0 : Int) ≤ a5 ∧ a5 < (a6.length : Int)) then
    (bif decide ((0 : Int) ≤ a5 ∧ a5 < (a7.length : Int)) then
    (bif ((nthI a6 a5 (0 : Int)) != (nthI a7 a5 (0 : Int))) then
    (e4_0 false)
    else
    (S.l07Same_l0 m e4_0 e4_1 (IntKind.wrap .i64 (a5 + 1)) a6 a7))
    else
    none)
    else
    none)
    else
    e4_1)
noncomputable def S.l07Same (a1 a2 : List Int) : Option Bool :=
(bif ((a1.length : Int) != (a2.length : Int)) then
(some false)
else
(S.l07Same_l0 fu (fun y12 =>
(some y12)) (some true) 0 a1 a2))
noncomputable def H147_4 : LoopH := ⟨⟨((.one (.sl 0)) :: (.one (.sl 1)) :: (hu 3 (hh :: (hu 20 [])))), [], [(3, (.int .i64), .ro), (3, (.int .i64), .ro)]⟩, [2, 3, 4, 6, 7, 8, 9, 10, 11, 12, 13, 14, 15, 16, 17, 18, 19, 20, 21, 22, 23, 24, 25], [], [0, 1, 2, 3, 5, 6, 7, 8, 9, 10, 11, 12, 13, 14, 15, 16, 17, 18, 19, 20, 21, 22, 23, 24, 25]⟩
noncomputable def E147_4 (m : Nat) (ps : List Prm) (k : Kont Bool) : Option Bool :=
  match ps with
  | [.v (.int .i64 a5), .row (.int .i64) a6, .row (.int .i64) a7] => S.l07Same_l0 m (fun z14 => k .ret (⟨(vu 4 ((vb z14) :: (vu 21 []))), [], []⟩ : St)) (k (.exit 0) (⟨(vu 26 []), [], []⟩ : St)) a5 a6 a7
  | _ => none
noncomputable def S147_4 (a5 : Int) (a6 a7 : List Int) : St := (⟨((vl 0) :: (vl 1) :: (vu 3 ((vi a5) :: (vu 20 [])))), [], [⟨3, (.int .i64), a6, .ro⟩, ⟨3, (.int .i64), a7, .ro⟩]⟩ : St)
theorem ev147_4 (m : Nat) (k : Kont Bool) (a5 : Int) (a6 a7 : List Int) : evC Try.prog G147 loopNil c147_4 (S147_4 a5 a6 a7) (turn Try.prog (0, 0) H147_4 (E147_4 m) k) = E147_4 (m + 1) [.v (.int .i64 a5), .row (.int .i64) a6, .row (.int .i64) a7] k := by kernel_rfl
theorem ok147_4 (m : Nat) : LoopOk Try.prog (0, 0) c147_4 (enter Try.prog (0, 0) H147_4 (E147_4 m)) := by
  refine loop_ok (G := G147) (L := loopNil) envNil_good (by intro x hx; simp [show loopsOf c147_4 = [] from by kernel_rfl] at hx) (fun ps k => by unfold E147_4; split <;> rfl) (fun m ps k r h => ?_) m
  have h0 := h
  unfold E147_4 at h
  split at h
  · exact ⟨S147_4 _ _ _, by kernel_rfl, (ev147_4 m k _ _ _).trans h0⟩
  · cases h
noncomputable def L147 : LEnv Bool := (loopCons 4 (enter Try.prog (0, 0) H147_4 (E147_4 fu)) loopNil)
theorem lq147 : loopsOf c147 = [c147_4] := by kernel_rfl
theorem fr147_4 : firstReg c147_4 = some 4 := by kernel_rfl
theorem le147_4 : L147 4 = enter Try.prog (0, 0) H147_4 (E147_4 fu) := by kernel_rfl
theorem lm147 : ∀ x ∈ [c147_4], ∀ id, firstReg x = some id → LoopOk Try.prog (0, 0) x (L147 id) := (loops_cons fr147_4 le147_4 (ok147_4 fu) loops_nil)
theorem lp147 : ∀ x ∈ loopsOf c147, ∀ id, firstReg x = some id → LoopOk Try.prog (0, 0) x (L147 id) := loops_eq lq147 lm147
noncomputable def R147 (x : Bool) : Res := ⟨[.one (ab x)], [], []⟩
noncomputable def K147 (r : Res) : Option Bool :=
  match r with
  | ⟨[.one (.val (.bool v1))], [], []⟩ => some (v1)
  | _ => none
noncomputable def E147 : Fun2 := fun args bs rs =>
  match args, bs, rs with
  | [.s1 (.one (.sl 0)), .s1 (.one (.sl 1))], [], [⟨3, (.int .i64), a1, .ro⟩, ⟨3, (.int .i64), a2, .ro⟩] => some ⟨Bool, S.l07Same a1 a2, R147⟩
  | _, _, _ => none
theorem ev147 (a1 a2 : List Int) : evF Try.prog G147 L147 (0, 0) Try.f147 c147 [vl 0, vl 1] [] [⟨3, (.int .i64), a1, .ro⟩, ⟨3, (.int .i64), a2, .ro⟩] K147 = S.l07Same a1 a2 := by kernel_rfl
theorem good147 : Vm.Good Try.prog 147 E147 := by
  refine evF_good (G := G147) (c := c147) envNil_good Try.func147 (by kernel_rfl) (by kernel_rfl) (0, 0) (fun args bs rs out t h h2 => ?_)
  unfold E147 at h
  split at h
  · injection h with h
    subst h
    exact ⟨rfl, L147, K147, lp147, (fun r t h => by unfold K147 at h; split at h; (injection h with h; subst h; rfl); cases h), (ev147 _ _).trans h2⟩
  · cases h
/-! ### S.WideOf -/
noncomputable def G150 : Env := envNil
noncomputable def c150 : Code := bodyOf Try.f150
noncomputable def S.WideOf (a1 : Int) : Option (Int × Int) :=
(bif (decide (a1 < 0)) then
(some ((-1), (IntKind.wrap .u64 a1)))
else
(some (0, (IntKind.wrap .u64 a1))))
noncomputable def R150 (x : Int × Int) : Res := ⟨[.agg [ai x.1, ak .u64 x.2]], [], []⟩
noncomputable def K150 (r : Res) : Option (Int × Int) :=
  match r with
  | ⟨[.agg [.val (.int .i64 v1), .val (.int .u64 v2)]], [], []⟩ => some (v1, v2)
  | _ => none
noncomputable def E150 : Fun2 := fun args bs rs =>
  match args, bs, rs with
  | [.s1 (.one (.val (.int .i64 a1)))], [], [] => some ⟨Int × Int, S.WideOf a1, R150⟩
  | _, _, _ => none
theorem ev150 (a1 : Int) : evF Try.prog G150 loopNil (0, 0) Try.f150 c150 [vi a1] [] [] K150 = S.WideOf a1 := by kernel_rfl
theorem good150 : Vm.Good Try.prog 150 E150 := by
  refine evF_good (G := G150) (c := c150) envNil_good Try.func150 (by kernel_rfl) (by kernel_rfl) (0, 0) (fun args bs rs out t h h2 => ?_)
  unfold E150 at h
  split at h
  · injection h with h
    subst h
    exact ⟨rfl, loopNil, K150, (by intro x hx; simp [show loopsOf c150 = [] from by kernel_rfl] at hx), (fun r t h => by unfold K150 at h; split at h; (injection h with h; subst h; rfl); cases h), (ev150 _).trans h2⟩
  · cases h
/-! ### S.WideAdd -/
noncomputable def G149 : Env := envNil
noncomputable def c149 : Code := bodyOf Try.f149
noncomputable def S.WideAdd (a1 a2 a3 a4 : Int) : Option (Int × Int) :=
(let v5 : Int := (IntKind.wrap .u64 (a2 + a4))
(let v8 : Int := (IntKind.wrap .u64 ((IntKind.wrap .u64 a1) + (IntKind.wrap .u64 a3)))
(bif (decide (v5 < a2)) then
(some ((IntKind.wrap .i64 (IntKind.wrap .u64 (v8 + 1))), v5))
else
(some ((IntKind.wrap .i64 v8), v5)))))
noncomputable def R149 (x : Int × Int) : Res := ⟨[.agg [ai x.1, ak .u64 x.2]], [], []⟩
noncomputable def K149 (r : Res) : Option (Int × Int) :=
  match r with
  | ⟨[.agg [.val (.int .i64 v1), .val (.int .u64 v2)]], [], []⟩ => some (v1, v2)
  | _ => none
noncomputable def E149 : Fun2 := fun args bs rs =>
  match args, bs, rs with
  | [.s1 (.agg [.val (.int .i64 a1), .val (.int .u64 a2)]), .s1 (.agg [.val (.int .i64 a3), .val (.int .u64 a4)])], [], [] => some ⟨Int × Int, S.WideAdd a1 a2 a3 a4, R149⟩
  | _, _, _ => none
theorem ev149 (a1 a2 a3 a4 : Int) : evF Try.prog G149 loopNil (0, 0) Try.f149 c149 [.s1 (.agg [ai a1, ak .u64 a2]), .s1 (.agg [ai a3, ak .u64 a4])] [] [] K149 = S.WideAdd a1 a2 a3 a4 := by kernel_rfl
theorem good149 : Vm.Good Try.prog 149 E149 := by
  refine evF_good (G := G149) (c := c149) envNil_good Try.func149 (by kernel_rfl) (by kernel_rfl) (0, 0) (fun args bs rs out t h h2 => ?_)
  unfold E149 at h
  split at h
  · injection h with h
    subst h
    exact ⟨rfl, loopNil, K149, (by intro x hx; simp [show loopsOf c149 = [] from by kernel_rfl] at hx), (fun r t h => by unfold K149 at h; split at h; (injection h with h; subst h; rfl); cases h), (ev149 _ _ _ _).trans h2⟩
  · cases h
/-! ### S.WideNeg -/
noncomputable def G190 : Env := (envCons 149 [] E149 envNil)
noncomputable def c190 : Code := bodyOf Try.f190
noncomputable def S.WideNeg (a1 a2 : Int) : Option (Int × Int) :=
(Option.bind (S.WideAdd (IntKind.wrap .i64 ((-1) - a1)) (IntKind.wrap .u64 (18446744073709551615 - a2)) 0 1) fun r5 =>
(some (r5.1, r5.2)))
noncomputable def R190 (x : Int × Int) : Res := ⟨[.agg [ai x.1, ak .u64 x.2]], [], []⟩
noncomputable def K190 (r : Res) : Option (Int × Int) :=
  match r with
  | ⟨[.agg [.val (.int .i64 v1), .val (.int .u64 v2)]], [], []⟩ => some (v1, v2)
  | _ => none
noncomputable def E190 : Fun2 := fun args bs rs =>
  match args, bs, rs with
  | [.s1 (.agg [.val (.int .i64 a1), .val (.int .u64 a2)])], [], [] => some ⟨Int × Int, S.WideNeg a1 a2, R190⟩
  | _, _, _ => none
theorem ev190 (a1 a2 : Int) : evF Try.prog G190 loopNil (0, 0) Try.f190 c190 [.s1 (.agg [ai a1, ak .u64 a2])] [] [] K190 = S.WideNeg a1 a2 := by kernel_rfl
theorem good190 : Vm.Good Try.prog 190 E190 := by
  refine evF_good (G := G190) (c := c190) (envCons_good good149 envNil_good) Try.func190 (by kernel_rfl) (by kernel_rfl) (0, 0) (fun args bs rs out t h h2 => ?_)
  unfold E190 at h
  split at h
  · injection h with h
    subst h
    exact ⟨rfl, loopNil, K190, (by intro x hx; simp [show loopsOf c190 = [] from by kernel_rfl] at hx), (fun r t h => by unfold K190 at h; split at h; (injection h with h; subst h; rfl); cases h), (ev190 _ _).trans h2⟩
  · cases h
/-! ### S.l03Times -/
noncomputable def G180 : Env := (envCons 150 [] E150 (envCons 190 [] E190 (envCons 149 [] E149 envNil)))
noncomputable def c180 : Code := bodyOf Try.f180
noncomputable def c180_7 : Code := (loopsOf c180).getD 0 .skip
noncomputable def S.l03Times_l0 : Nat → (Int → Int → Int → Int → Option (Int × Int)) → Int → Int → Int → Int → Int → Int → Int → Option (Int × Int)
  | 0, _, _, _, _, _, _, _, _ => none
  | m + 1, e7_0, a8, a9, a10, a11, a12, a13, a14 =>
    (bif (decide (0 < a8)) then
    (bif decide (2 = 0) then
    none
    else
    (bif ((Int.tmod a8 2) == 1) then
    (Option.bind (S.WideAdd a11 a12 a13 a14) fun r17 =>
    (Option.bind (S.WideAdd a13 a14 a13 a14) fun r18 =>
    (bif decide (2 = 0) then
    none
    else
    (S.l03Times_l0 m e7_0 (IntKind.wrap .u64 (Int.tdiv a8 2)) a9 a10 r17.1 r17.2 r18.1 r18.2))))
    else
    (Option.bind (S.WideAdd a13 a14 a13 a14) fun r20 =>
    (bif decide (2 = 0) then
    none
    else
    (S.l03Times_l0 m e7_0 (IntKind.wrap .u64 (Int.tdiv a8 2)) a9 a10 a11 a12 r20.1 r20.2)))))
    else
    (e7_0 a9 a10 a11 a12))
noncomputable def S.l03Times (a1 a2 : Int) : Option (Int × Int) :=
(Option.bind (S.WideOf a1) fun r3 =>
(let v4 : Int := (IntKind.wrap .u64 a2)
(bif (decide (a2 < 0)) then
(Option.bind (S.WideNeg r3.1 r3.2) fun r6 =>
(S.l03Times_l0 fu (fun y22 y23 y24 y25 =>
(some (y24, y25))) (IntKind.wrap .u64 (0 - v4)) 0 0 0 0 r6.1 r6.2))
else
(S.l03Times_l0 fu (fun y26 y27 y28 y29 =>
(some (y28, y29))) v4 0 0 0 0 r3.1 r3.2))))
noncomputable def H180_7 : LoopH := ⟨⟨(hu 4 ((.one (.ptr 0 0)) :: (.one (.ptr 1 0)) :: (.one (.ptr 2 0)) :: hh :: (hu 25 []))), [(86, [.hole, .hole]), (86, [.hole, .hole]), (86, [.hole, .hole])], []⟩, [0, 1, 2, 3, 8, 9, 10, 11, 12, 13, 14, 15, 16, 17, 18, 19, 20, 21, 22, 23, 24, 25, 26, 27, 28, 29, 30, 31, 32], [], [0, 1, 2, 3, 6, 7, 8, 9, 10, 11, 12, 13, 14, 15, 16, 17, 18, 19, 20, 21, 22, 23, 24, 25, 26, 27, 28, 29, 30, 31, 32]⟩
noncomputable def E180_7 (m : Nat) (ps : List Prm) (k : Kont (Int × Int)) : Option (Int × Int) :=
  match ps with
  | [.v (.int .u64 a8), .v (.int .i64 a9), .v (.int .u64 a10), .v (.int .i64 a11), .v (.int .u64 a12), .v (.int .i64 a13), .v (.int .u64 a14)] => S.l03Times_l0 m (fun z34 z35 z36 z37 => k (.exit 0) (⟨(vu 4 ((vp 0 0) :: (vp 1 0) :: (vu 27 []))), [(86, [ai z34, ak .u64 z35]), (86, [ai z36, ak .u64 z37])], []⟩ : St)) a8 a9 a10 a11 a12 a13 a14
  | _ => none
noncomputable def S180_7 (a8 a9 a10 a11 a12 a13 a14 : Int) : St := (⟨(vu 4 ((vp 0 0) :: (vp 1 0) :: (vp 2 0) :: (vk .u64 a8) :: (vu 25 []))), [(86, [ai a9, ak .u64 a10]), (86, [ai a11, ak .u64 a12]), (86, [ai a13, ak .u64 a14])], []⟩ : St)
theorem ev180_7 (m : Nat) (k : Kont (Int × Int)) (a8 a9 a10 a11 a12 a13 a14 : Int) : evC Try.prog G180 loopNil c180_7 (S180_7 a8 a9 a10 a11 a12 a13 a14) (turn Try.prog (0, 0) H180_7 (E180_7 m) k) = E180_7 (m + 1) [.v (.int .u64 a8), .v (.int .i64 a9), .v (.int .u64 a10), .v (.int .i64 a11), .v (.int .u64 a12), .v (.int .i64 a13), .v (.int .u64 a14)] k := by kernel_rfl
theorem ok180_7 (m : Nat) : LoopOk Try.prog (0, 0) c180_7 (enter Try.prog (0, 0) H180_7 (E180_7 m)) := by
  refine loop_ok (G := G180) (L := loopNil) (envCons_good good150 (envCons_good good190 (envCons_good good149 envNil_good))) (by intro x hx; simp [show loopsOf c180_7 = [] from by kernel_rfl] at hx) (fun ps k => by unfold E180_7; split <;> rfl) (fun m ps k r h => ?_) m
  have h0 := h
  unfold E180_7 at h
  split at h
  · exact ⟨S180_7 _ _ _ _ _ _ _, by kernel_rfl, (ev180_7 m k _ _ _ _ _ _ _).trans h0⟩
  · cases h
noncomputable def L180 : LEnv (Int × Int) := (loopCons 7 (enter Try.prog (0, 0) H180_7 (E180_7 fu)) loopNil)
theorem lq180 : loopsOf c180 = [c180_7] := by kernel_rfl
theorem fr180_7 : firstReg c180_7 = some 7 := by kernel_rfl
theorem le180_7 : L180 7 = enter Try.prog (0, 0) H180_7 (E180_7 fu) := by kernel_rfl
theorem lm180 : ∀ x ∈ [c180_7], ∀ id, firstReg x = some id → LoopOk Try.prog (0, 0) x (L180 id) := (loops_cons fr180_7 le180_7 (ok180_7 fu) loops_nil)
theorem lp180 : ∀ x ∈ loopsOf c180, ∀ id, firstReg x = some id → LoopOk Try.prog (0, 0) x (L180 id) := loops_eq lq180 lm180
noncomputable def R180 (x : Int × Int) : Res := ⟨[.agg [ai x.1, ak .u64 x.2]], [], []⟩
noncomputable def K180 (r : Res) : Option (Int × Int) :=
  match r with
  | ⟨[.agg [.val (.int .i64 v1), .val (.int .u64 v2)]], [], []⟩ => some (v1, v2)
  | _ => none
noncomputable def E180 : Fun2 := fun args bs rs =>
  match args, bs, rs with
  | [.s1 (.one (.val (.int .i64 a1))), .s1 (.one (.val (.int .i64 a2)))], [], [] => some ⟨Int × Int, S.l03Times a1 a2, R180⟩
  | _, _, _ => none
theorem ev180 (a1 a2 : Int) : evF Try.prog G180 L180 (0, 0) Try.f180 c180 [vi a1, vi a2] [] [] K180 = S.l03Times a1 a2 := by kernel_rfl
theorem good180 : Vm.Good Try.prog 180 E180 := by
  refine evF_good (G := G180) (c := c180) (envCons_good good150 (envCons_good good190 (envCons_good good149 envNil_good))) Try.func180 (by kernel_rfl) (by kernel_rfl) (0, 0) (fun args bs rs out t h h2 => ?_)
  unfold E180 at h
  split at h
  · injection h with h
    subst h
    exact ⟨rfl, L180, K180, lp180, (fun r t h => by unfold K180 at h; split at h; (injection h with h; subst h; rfl); cases h), (ev180 _ _).trans h2⟩
  · cases h
/-! ### S.l07Times -/
noncomputable def G151 : Env := (envCons 180 [] E180 envNil)
noncomputable def c151 : Code := bodyOf Try.f151
noncomputable def S.l07Times (a1 a2 : Int) : Option (Int × Int) :=
(Option.bind (S.l03Times a1 a2) fun r3 =>
(some (r3.1, r3.2)))
noncomputable def R151 (x : Int × Int) : Res := ⟨[.agg [ai x.1, ak .u64 x.2]], [], []⟩
noncomputable def K151 (r : Res) : Option (Int × Int) :=
  match r with
  | ⟨[.agg [.val (.int .i64 v1), .val (.int .u64 v2)]], [], []⟩ => some (v1, v2)
  | _ => none
noncomputable def E151 : Fun2 := fun args bs rs =>
  match args, bs, rs with
  | [.s1 (.one (.val (.int .i64 a1))), .s1 (.one (.val (.int .i64 a2)))], [], [] => some ⟨Int × Int, S.l07Times a1 a2, R151⟩
  | _, _, _ => none
theorem ev151 (a1 a2 : Int) : evF Try.prog G151 loopNil (0, 0) Try.f151 c151 [vi a1, vi a2] [] [] K151 = S.l07Times a1 a2 := by kernel_rfl
theorem good151 : Vm.Good Try.prog 151 E151 := by
  refine evF_good (G := G151) (c := c151) (envCons_good good180 envNil_good) Try.func151 (by kernel_rfl) (by kernel_rfl) (0, 0) (fun args bs rs out t h h2 => ?_)
  unfold E151 at h
  split at h
  · injection h with h
    subst h
    exact ⟨rfl, loopNil, K151, (by intro x hx; simp [show loopsOf c151 = [] from by kernel_rfl] at hx), (fun r t h => by unfold K151 at h; split at h; (injection h with h; subst h; rfl); cases h), (ev151 _ _).trans h2⟩
  · cases h
/-! ### S.WideCmp -/
noncomputable def G152 : Env := envNil
noncomputable def c152 : Code := bodyOf Try.f152
noncomputable def S.WideCmp (a1 a2 a3 a4 : Int) : Option Int :=
(bif (a1 != a3) then
(bif (decide (a1 < a3)) then
(some (-1))
else
(some 1))
else
(bif (a2 != a4) then
(bif (decide (a2 < a4)) then
(some (-1))
else
(some 1))
else
(some 0)))
noncomputable def R152 (x : Int) : Res := ⟨[.one (ai x)], [], []⟩
noncomputable def K152 (r : Res) : Option Int :=
  match r with
  | ⟨[.one (.val (.int .i64 v1))], [], []⟩ => some (v1)
  | _ => none
noncomputable def E152 : Fun2 := fun args bs rs =>
  match args, bs, rs with
  | [.s1 (.agg [.val (.int .i64 a1), .val (.int .u64 a2)]), .s1 (.agg [.val (.int .i64 a3), .val (.int .u64 a4)])], [], [] => some ⟨Int, S.WideCmp a1 a2 a3 a4, R152⟩
  | _, _, _ => none
theorem ev152 (a1 a2 a3 a4 : Int) : evF Try.prog G152 loopNil (0, 0) Try.f152 c152 [.s1 (.agg [ai a1, ak .u64 a2]), .s1 (.agg [ai a3, ak .u64 a4])] [] [] K152 = S.WideCmp a1 a2 a3 a4 := by kernel_rfl
theorem good152 : Vm.Good Try.prog 152 E152 := by
  refine evF_good (G := G152) (c := c152) envNil_good Try.func152 (by kernel_rfl) (by kernel_rfl) (0, 0) (fun args bs rs out t h h2 => ?_)
  unfold E152 at h
  split at h
  · injection h with h
    subst h
    exact ⟨rfl, loopNil, K152, (by intro x hx; simp [show loopsOf c152 = [] from by kernel_rfl] at hx), (fun r t h => by unfold K152 at h; split at h; (injection h with h; subst h; rfl); cases h), (ev152 _ _ _ _).trans h2⟩
  · cases h
/-! ### S.AggOk -/
noncomputable def G100 : Env := (envCons 148 [] E148 (envCons 147 [] E147 (envCons 150 [] E150 (envCons 149 [] E149 (envCons 151 [] E151 (envCons 152 [] E152 envNil))))))
noncomputable def c100 : Code := bodyOf Try.f100
noncomputable def c100_9 : Code := (loopsOf c100).getD 0 .skip
noncomputable def S.AggOk_l0 : Nat → (Int → Int → Int → Int → Int → Int → Int → List Int → Option Bool) → Int → Int → Int → Int → Int → Int → Int → Int → List Int → Option Bool
  | 0, _, _, _, _, _, _, _, _, _, _ => none
  | m + 1, e9_0, a18, a19, a20, a21, a22, a23, a24, a25, a26 =>
    (bif (decide (a18 < (a26.length : Int))) then
    (bif decide ((0 : Int) ≤ a18 ∧ a18 < (a26.length : Int)) then
    (Option.bind (S.WideOf (nthI a26 a18 (0 : Int))) fun r29 =>
    (Option.bind (S.WideAdd a24 a25 r29.1 r29.2) fun r30 =>
    (S.AggOk_l0 m e9_0 (IntKind.wrap .i64 (a18 + 1)) a19 a20 a21 a22 a23 r30.1 r30.2 a26)))
    else
    none)
    else
    (e9_0 a19 a20 a21 a22 a23 a24 a25 a26))
noncomputable def S.AggOk (a1 a2 a3 a4 a5 : Int) (a6 : List Int) : Option Bool :=
(bif (decide (a1 < 0)) then
(some false)
else
(bif (decide (1000000 < a1)) then
(some false)
else
(bif ((a6.length : Int) != (if 4 < a1 then 4 else a1)) then
(some false)
else
(bif (a1 == 0) then
(bif ((a2 == 0) && ((a3 == 0) && true)) then
(bif (a4 == 0) then
(some (a5 == 0))
else
(some false))
else
(some false))
else
(Option.bind (S.TopOf a6 []) fun r12 =>
(Option.bind (S.l07Same r12 a6) fun r13 =>
(bif (!r13) then
(some false)
else
(bif decide ((0 : Int) ≤ 0 ∧ 0 < (a6.length : Int)) then
(bif ((nthI a6 0 (0 : Int)) != a5) then
(some false)
else
(let v16 : Int := (IntKind.wrap .i64 ((a6.length : Int) - 1))
(bif decide ((0 : Int) ≤ v16 ∧ v16 < (a6.length : Int)) then
(bif (decide ((nthI a6 v16 (0 : Int)) < a4)) then
(some false)
else
(S.AggOk_l0 fu (fun y32 y33 y34 y35 y36 y37 y38 y39 =>
(let v41 : Int := (IntKind.wrap .i64 (y32 - (y39.length : Int)))
(bif (v41 == 0) then
(let v43 : Int := (IntKind.wrap .i64 ((y39.length : Int) - 1))
(bif decide ((0 : Int) ≤ v43 ∧ v43 < (y39.length : Int)) then
(bif (y35 == (nthI y39 v43 (0 : Int))) then
(some ((y33 == y37) && ((y34 == y38) && true)))
else
(some false))
else
none))
else
(same (Option.bind (S.l07Times v41 y35) fun r46 =>
(dup (Option.bind (S.WideAdd y37 y38 r46.1 r46.2) fun r47 =>
(let v48 : Int := (IntKind.wrap .i64 (v41 - 1))
(bif decide ((0 : Int) ≤ 3 ∧ 3 < (y39.length : Int)) then
(same (Option.bind (S.WideOf y35) fun r49 =>
(same (Option.bind (S.WideAdd y37 y38 r49.1 r49.2) fun r50 =>
(same (Option.bind (S.l07Times v48 (nthI y39 3 (0 : Int))) fun r51 =>
(dup (Option.bind (S.WideAdd r50.1 r50.2 r51.1 r51.2) fun r52 =>
(Option.bind (S.WideCmp y33 y34 r47.1 r47.2) fun r53 =>
(bif (decide (0 ≤ r53)) then
(Option.bind (S.WideCmp y33 y34 r52.1 r52.2) fun r55 =>
(some (decide (r55 ≤ 0))))
else
(some false))))))
(Option.bind (S.l07Times v48 (nthI y39 3 (0 : Int))) fun r51 =>
(Option.bind (S.WideAdd r50.1 r50.2 r51.1 r51.2) fun r52 =>
(Option.bind (S.WideCmp y33 y34 r47.1 r47.2) fun r53 =>
(bif (decide (0 ≤ r53)) then
(Option.bind (S.WideCmp y33 y34 r52.1 r52.2) fun r55 =>
(some (decide (r55 ≤ 0))))
else
(some false)))))))
(Option.bind (S.WideAdd y37 y38 r49.1 r49.2) fun r50 =>
(Option.bind (S.l07Times v48 (nthI y39 3 (0 : Int))) fun r51 =>
(Option.bind (S.WideAdd r50.1 r50.2 r51.1 r51.2) fun r52 =>
(Option.bind (S.WideCmp y33 y34 r47.1 r47.2) fun r53 =>
(bif (decide (0 ≤ r53)) then
(Option.bind (S.WideCmp y33 y34 r52.1 r52.2) fun r55 =>
(some (decide (r55 ≤ 0))))
else
(some false))))))))
(Option.bind (S.WideOf y35) fun r49 =>
(Option.bind (S.WideAdd y37 y38 r49.1 r49.2) fun r50 =>
(Option.bind (S.l07Times v48 (nthI y39 3 (0 : Int))) fun r51 =>
(Option.bind (S.WideAdd r50.1 r50.2 r51.1 r51.2) fun r52 =>
(Option.bind (S.WideCmp y33 y34 r47.1 r47.2) fun r53 =>
(bif (decide (0 ≤ r53)) then
(Option.bind (S.WideCmp y33 y34 r52.1 r52.2) fun r55 =>
(some (decide (r55 ≤ 0))))
else
(some false))))))))
else
none)))))
(Option.bind (S.l07Times v41 y35) fun r46 =>
(Option.bind (S.WideAdd y37 y38 r46.1 r46.2) fun r47 =>
(let v48 : Int := (IntKind.wrap .i64 (v41 - 1))
(bif decide ((0 : Int) ≤ 3 ∧ 3 < (y39.length : Int)) then
(same (Option.bind (S.WideOf y35) fun r49 =>
(same (Option.bind (S.WideAdd y37 y38 r49.1 r49.2) fun r50 =>
(same (Option.bind (S.l07Times v48 (nthI y39 3 (0 : Int))) fun r51 =>
(dup (Option.bind (S.WideAdd r50.1 r50.2 r51.1 r51.2) fun r52 =>
(Option.bind (S.WideCmp y33 y34 r47.1 r47.2) fun r53 =>
(bif (decide (0 ≤ r53)) then
(Option.bind (S.WideCmp y33 y34 r52.1 r52.2) fun r55 =>
(some (decide (r55 ≤ 0))))
else
(some false))))))
(Option.bind (S.l07Times v48 (nthI y39 3 (0 : Int))) fun r51 =>
(Option.bind (S.WideAdd r50.1 r50.2 r51.1 r51.2) fun r52 =>
(Option.bind (S.WideCmp y33 y34 r47.1 r47.2) fun r53 =>
(bif (decide (0 ≤ r53)) then
(Option.bind (S.WideCmp y33 y34 r52.1 r52.2) fun r55 =>
(some (decide (r55 ≤ 0))))
else
(some false)))))))
(Option.bind (S.WideAdd y37 y38 r49.1 r49.2) fun r50 =>
(Option.bind (S.l07Times v48 (nthI y39 3 (0 : Int))) fun r51 =>
(Option.bind (S.WideAdd r50.1 r50.2 r51.1 r51.2) fun r52 =>
(Option.bind (S.WideCmp y33 y34 r47.1 r47.2) fun r53 =>
(bif (decide (0 ≤ r53)) then
(Option.bind (S.WideCmp y33 y34 r52.1 r52.2) fun r55 =>
(some (decide (r55 ≤ 0))))
else
(some false))))))))
(Option.bind (S.WideOf y35) fun r49 =>
(Option.bind (S.WideAdd y37 y38 r49.1 r49.2) fun r50 =>
(Option.bind (S.l07Times v48 (nthI y39 3 (0 : Int))) fun r51 =>
(Option.bind (S.WideAdd r50.1 r50.2 r51.1 r51.2) fun r52 =>
(Option.bind (S.WideCmp y33 y34 r47.1 r47.2) fun r53 =>
(bif (decide (0 ≤ r53)) then
(Option.bind (S.WideCmp y33 y34 r52.1 r52.2) fun r55 =>
(some (decide (r55 ≤ 0))))
else
(some false))))))))
else
none)))))))) 0 a1 a2 a3 a4 a5 0 0 a6))
else
none)))
else
none))))))))
noncomputable def H100_9 : LoopH := ⟨⟨((.one (.unk)) :: (.one (.ptr 0 0)) :: (.one (.unk)) :: (.one (.ptr 1 0)) :: hh :: (hu 138 [])), [(88, [.hole, .hole, .hole, .hole, .hole, .sl 0]), (86, [.hole, .hole])], [(3, (.int .i64), .ro)]⟩, [0, 2, 5, 6, 7, 8, 9, 10, 11, 12, 13, 14, 15, 16, 17, 18, 19, 20, 21, 22, 23, 24, 25, 26, 27, 28, 29, 30, 31, 32, 33, 34, 35, 36, 37, 38, 39, 40, 41, 42, 43, 44, 45, 46, 47, 48, 49, 50, 51, 52, 53, 54, 55, 56, 57, 58, 59, 60, 61, 62, 63, 64, 65, 66, 67, 68, 69, 70, 71, 72, 73, 74, 75, 76, 77, 78, 79, 80, 81, 82, 83, 84, 85, 86, 87, 88, 89, 90, 91, 92, 93, 94, 95, 96, 97, 98, 99, 100, 101, 102, 103, 104, 105, 106, 107, 108, 109, 110, 111, 112, 113, 114, 115, 116, 117, 118, 119, 120, 121, 122, 123, 124, 125, 126, 127, 128, 129, 130, 131, 132, 133, 134, 135, 136, 137, 138, 139, 140, 141, 142], [], [0, 4, 5, 6, 7, 8, 9, 10, 11, 12, 13, 14, 15, 16, 17, 18, 19, 20, 21, 22, 23, 24, 25, 26, 27, 28, 29, 30, 31, 32, 33, 34, 35, 36, 37, 38, 39, 40, 41, 42, 43, 44, 45, 46, 47, 48, 49, 50, 51, 52, 53, 54, 55, 56, 57, 58, 59, 60, 61, 62, 63, 64, 65, 66, 67, 68, 69, 70, 71, 72, 73, 74, 75, 76, 77, 78, 79, 80, 81, 82, 83, 84, 85, 86, 87, 88, 89, 90, 91, 92, 93, 94, 95, 96, 97, 98, 99, 100, 101, 102, 103, 104, 105, 106, 107, 108, 109, 110, 111, 112, 113, 114, 115, 116, 117, 118, 119, 120, 121, 122, 123, 124, 125, 126, 127, 128, 129, 130, 131, 132, 133, 134, 135, 136, 137, 138, 139, 140, 141, 142]⟩
noncomputable def E100_9 (m : Nat) (ps : List Prm) (k : Kont Bool) : Option Bool :=
  match ps with
  | [.v (.int .i64 a18), .v (.int .i64 a19), .v (.int .i64 a20), .v (.int .u64 a21), .v (.int .i64 a22), .v (.int .i64 a23), .v (.int .i64 a24), .v (.int .u64 a25), .row (.int .i64) a26] => S.AggOk_l0 m (fun z65 z66 z67 z68 z69 z70 z71 z72 => k (.exit 0) (⟨((.s1 (.one (.unk))) :: (vp 0 0) :: (.s1 (.one (.unk))) :: (vp 1 0) :: (vu 139 [])), [(88, [ai z65, ai z66, ak .u64 z67, ai z68, ai z69, .sl 0]), (86, [ai z70, ak .u64 z71])], [⟨3, (.int .i64), z72, .ro⟩]⟩ : St)) a18 a19 a20 a21 a22 a23 a24 a25 a26
  | _ => none
noncomputable def S100_9 (a18 a19 a20 a21 a22 a23 a24 a25 : Int) (a26 : List Int) : St := (⟨((.s1 (.one (.unk))) :: (vp 0 0) :: (.s1 (.one (.unk))) :: (vp 1 0) :: (vi a18) :: (vu 138 [])), [(88, [ai a19, ai a20, ak .u64 a21, ai a22, ai a23, .sl 0]), (86, [ai a24, ak .u64 a25])], [⟨3, (.int .i64), a26, .ro⟩]⟩ : St)
theorem ev100_9 (m : Nat) (k : Kont Bool) (a18 a19 a20 a21 a22 a23 a24 a25 : Int) (a26 : List Int) : evC Try.prog G100 loopNil c100_9 (S100_9 a18 a19 a20 a21 a22 a23 a24 a25 a26) (turn Try.prog (0, 0) H100_9 (E100_9 m) k) = E100_9 (m + 1) [.v (.int .i64 a18), .v (.int .i64 a19), .v (.int .i64 a20), .v (.int .u64 a21), .v (.int .i64 a22), .v (.int .i64 a23), .v (.int .i64 a24), .v (.int .u64 a25), .row (.int .i64) a26] k := by kernel_rfl
theorem ok100_9 (m : Nat) : LoopOk Try.prog (0, 0) c100_9 (enter Try.prog (0, 0) H100_9 (E100_9 m)) := by
  refine loop_ok (G := G100) (L := loopNil) (envCons_good good148 (envCons_good good147 (envCons_good good150 (envCons_good good149 (envCons_good good151 (envCons_good good152 envNil_good)))))) (by intro x hx; simp [show loopsOf c100_9 = [] from by kernel_rfl] at hx) (fun ps k => by unfold E100_9; split <;> rfl) (fun m ps k r h => ?_) m
  have h0 := h
  unfold E100_9 at h
  split at h
  · exact ⟨S100_9 _ _ _ _ _ _ _ _ _, by kernel_rfl, (ev100_9 m k _ _ _ _ _ _ _ _ _).trans h0⟩
  · cases h
noncomputable def L100 : LEnv Bool := (loopCons 9 (enter Try.prog (0, 0) H100_9 (E100_9 fu)) loopNil)
theorem lq100 : loopsOf c100 = [c100_9] := by kernel_rfl
theorem fr100_9 : firstReg c100_9 = some 9 := by kernel_rfl
theorem le100_9 : L100 9 = enter Try.prog (0, 0) H100_9 (E100_9 fu) := by kernel_rfl
theorem lm100 : ∀ x ∈ [c100_9], ∀ id, firstReg x = some id → LoopOk Try.prog (0, 0) x (L100 id) := (loops_cons fr100_9 le100_9 (ok100_9 fu) loops_nil)
theorem lp100 : ∀ x ∈ loopsOf c100, ∀ id, firstReg x = some id → LoopOk Try.prog (0, 0) x (L100 id) := loops_eq lq100 lm100
noncomputable def R100 (x : Bool) : Res := ⟨[.one (ab x)], [], []⟩
noncomputable def K100 (r : Res) : Option Bool :=
  match r with
  | ⟨[.one (.val (.bool v1))], [], []⟩ => some (v1)
  | _ => none
noncomputable def E100 : Fun2 := fun args bs rs =>
  match args, bs, rs with
  | [.s1 (.agg [.val (.int .i64 a1), .val (.int .i64 a2), .val (.int .u64 a3), .val (.int .i64 a4), .val (.int .i64 a5), .sl 0])], [], [⟨3, (.int .i64), a6, .ro⟩] => some ⟨Bool, S.AggOk a1 a2 a3 a4 a5 a6, R100⟩
  | _, _, _ => none
theorem ev100 (a1 a2 a3 a4 a5 : Int) (a6 : List Int) : evF Try.prog G100 L100 (0, 0) Try.f100 c100 [.s1 (.agg [ai a1, ai a2, ak .u64 a3, ai a4, ai a5, .sl 0])] [] [⟨3, (.int .i64), a6, .ro⟩] K100 = S.AggOk a1 a2 a3 a4 a5 a6 := by kernel_rfl
theorem good100 : Vm.Good Try.prog 100 E100 := by
  refine evF_good (G := G100) (c := c100) (envCons_good good148 (envCons_good good147 (envCons_good good150 (envCons_good good149 (envCons_good good151 (envCons_good good152 envNil_good)))))) Try.func100 (by kernel_rfl) (by kernel_rfl) (0, 0) (fun args bs rs out t h h2 => ?_)
  unfold E100 at h
  split at h
  · injection h with h
    subst h
    exact ⟨rfl, L100, K100, lp100, (fun r t h => by unfold K100 at h; split at h; (injection h with h; subst h; rfl); cases h), (ev100 _ _ _ _ _ _).trans h2⟩
  · cases h
/-! ### S.CellOk -/
noncomputable def G41 : Env := (envCons 98 [] E98 (envCons 99 [] E99 (envCons 100 [] E100 envNil)))
noncomputable def c41 : Code := bodyOf Try.f41
noncomputable def S.CellOk (a1 a2 a3 a4 a5 a6 a7 a8 a9 a10 : Int) (a11 : List Int) : Option Bool :=
(bif (decide (0 ≤ a1)) then
(bif (decide (a1 < 4)) then
(Option.bind (S.l04Key a2) fun r14 =>
(bif r14 then
(Option.bind (S.l06Win a3 a4) fun r15 =>
(bif r15 then
(bif (decide (0 ≤ a5)) then
(bif (decide (a5 < 16)) then
(Option.bind (S.AggOk a6 a7 a8 a9 a10 a11) fun r18 =>
(bif r18 then
(some (decide (0 < a6)))
else
(some false)))
else
(some false))
else
(some false))
else
(some false)))
else
(some false)))
else
(some false))
else
(some false))
noncomputable def R41 (x : Bool) : Res := ⟨[.one (ab x)], [], []⟩
noncomputable def K41 (r : Res) : Option Bool :=
  match r with
  | ⟨[.one (.val (.bool v1))], [], []⟩ => some (v1)
  | _ => none
noncomputable def E41 : Fun2 := fun args bs rs =>
  match args, bs, rs with
  | [.s1 (.agg [.val (.int .i64 a1), .val (.int .i64 a2), .val (.int .i64 a3), .val (.int .i64 a4), .val (.int .i64 a5), .val (.int .i64 a6), .val (.int .i64 a7), .val (.int .u64 a8), .val (.int .i64 a9), .val (.int .i64 a10), .sl 0])], [], [⟨3, (.int .i64), a11, .ro⟩] => some ⟨Bool, S.CellOk a1 a2 a3 a4 a5 a6 a7 a8 a9 a10 a11, R41⟩
  | _, _, _ => none
theorem ev41 (a1 a2 a3 a4 a5 a6 a7 a8 a9 a10 : Int) (a11 : List Int) : evF Try.prog G41 loopNil (0, 0) Try.f41 c41 [.s1 (.agg [ai a1, ai a2, ai a3, ai a4, ai a5, ai a6, ai a7, ak .u64 a8, ai a9, ai a10, .sl 0])] [] [⟨3, (.int .i64), a11, .ro⟩] K41 = S.CellOk a1 a2 a3 a4 a5 a6 a7 a8 a9 a10 a11 := by kernel_rfl
theorem good41 : Vm.Good Try.prog 41 E41 := by
  refine evF_good (G := G41) (c := c41) (envCons_good good98 (envCons_good good99 (envCons_good good100 envNil_good))) Try.func41 (by kernel_rfl) (by kernel_rfl) (0, 0) (fun args bs rs out t h h2 => ?_)
  unfold E41 at h
  split at h
  · injection h with h
    subst h
    exact ⟨rfl, loopNil, K41, (by intro x hx; simp [show loopsOf c41 = [] from by kernel_rfl] at hx), (fun r t h => by unfold K41 at h; split at h; (injection h with h; subst h; rfl); cases h), (ev41 _ _ _ _ _ _ _ _ _ _ _).trans h2⟩
  · cases h
/-! ### S.l09Less -/
noncomputable def G115 : Env := envNil
noncomputable def c115 : Code := bodyOf Try.f115
noncomputable def S.l09Less (a1 a2 a3 a4 a5 a6 a7 a8 a9 a10 a11 a12 a13 a14 a15 a16 a17 a18 a19 a20 : Int) (a21 a22 : List Int) : Option Bool :=
(bif (a1 != a11) then
(some (decide (a1 < a11)))
else
(bif (a2 != a12) then
(some (decide (a2 < a12)))
else
(bif (a3 != a13) then
(some (decide (a3 < a13)))
else
(bif (a4 != a14) then
(some (decide (a4 < a14)))
else
(some (decide (a5 < a15)))))))
noncomputable def R115 (x : Bool) : Res := ⟨[.one (ab x)], [], []⟩
noncomputable def K115 (r : Res) : Option Bool :=
  match r with
  | ⟨[.one (.val (.bool v1))], [], []⟩ => some (v1)
  | _ => none
noncomputable def E115 : Fun2 := fun args bs rs =>
  match args, bs, rs with
  | [.s1 (.agg [.val (.int .i64 a1), .val (.int .i64 a2), .val (.int .i64 a3), .val (.int .i64 a4), .val (.int .i64 a5), .val (.int .i64 a6), .val (.int .i64 a7), .val (.int .u64 a8), .val (.int .i64 a9), .val (.int .i64 a10), .sl 0]), .s1 (.agg [.val (.int .i64 a11), .val (.int .i64 a12), .val (.int .i64 a13), .val (.int .i64 a14), .val (.int .i64 a15), .val (.int .i64 a16), .val (.int .i64 a17), .val (.int .u64 a18), .val (.int .i64 a19), .val (.int .i64 a20), .sl 1])], [], [⟨3, (.int .i64), a21, .ro⟩, ⟨3, (.int .i64), a22, .ro⟩] => some ⟨Bool, S.l09Less a1 a2 a3 a4 a5 a6 a7 a8 a9 a10 a11 a12 a13 a14 a15 a16 a17 a18 a19 a20 a21 a22, R115⟩
  | _, _, _ => none
theorem ev115 (a1 a2 a3 a4 a5 a6 a7 a8 a9 a10 a11 a12 a13 a14 a15 a16 a17 a18 a19 a20 : Int) (a21 a22 : List Int) : evF Try.prog G115 loopNil (0, 0) Try.f115 c115 [.s1 (.agg [ai a1, ai a2, ai a3, ai a4, ai a5, ai a6, ai a7, ak .u64 a8, ai a9, ai a10, .sl 0]), .s1 (.agg [ai a11, ai a12, ai a13, ai a14, ai a15, ai a16, ai a17, ak .u64 a18, ai a19, ai a20, .sl 1])] [] [⟨3, (.int .i64), a21, .ro⟩, ⟨3, (.int .i64), a22, .ro⟩] K115 = S.l09Less a1 a2 a3 a4 a5 a6 a7 a8 a9 a10 a11 a12 a13 a14 a15 a16 a17 a18 a19 a20 a21 a22 := by kernel_rfl
theorem good115 : Vm.Good Try.prog 115 E115 := by
  refine evF_good (G := G115) (c := c115) envNil_good Try.func115 (by kernel_rfl) (by kernel_rfl) (0, 0) (fun args bs rs out t h h2 => ?_)
  unfold E115 at h
  split at h
  · injection h with h
    subst h
    exact ⟨rfl, loopNil, K115, (by intro x hx; simp [show loopsOf c115 = [] from by kernel_rfl] at hx), (fun r t h => by unfold K115 at h; split at h; (injection h with h; subst h; rfl); cases h), (ev115 _ _ _ _ _ _ _ _ _ _ _ _ _ _ _ _ _ _ _ _ _ _).trans h2⟩
  · cases h
/-! ### S.CellsOk -/
noncomputable def G56 : Env := (envCons 41 [] E41 (envCons 115 [] E115 envNil))
noncomputable def c56 : Code := bodyOf Try.f56
noncomputable def c56_4 : Code := (loopsOf c56).getD 0 .skip
noncomputable def S.CellsOk_l0 : Nat → (Bool → Option Bool) → (Option Bool) → Int → (List (Int × Int × Int × Int × Int × Int × (Int × Int) × Int × Int × List Int)) → Option Bool
  | 0, _, _, _, _ => none
  | m + 1, e4_0, e4_1, a4, a5 =>
    (bif (decide (a4 < (a5.length : Int))) then
    (bif decide ((0 : Int) ≤ a4 ∧ a4 < (a5.length : Int)) then
    (Option.bind (S.CellOk ((nthI a5 a4 ((0 : Int), ((0 : Int), ((0 : Int), ((0 : Int), ((0 : Int), ((0 : Int), (((0 : Int), (0 : Int)), ((0 : Int), ((0 : Int), [])))))))))).1) ((nthI a5 a4 ((0 : Int), ((0 : Int), ((0 : Int), ((0 : Int), ((0 : Int), ((0 : Int), (((0 : Int), (0 : Int)), ((0 : Int), ((0 : Int), [])))))))))).2.1) ((nthI a5 a4 ((0 : Int), ((0 : Int), ((0 : Int), ((0 : Int), ((0 : Int), ((0 : Int), (((0 : Int), (0 : Int)), ((0 : Int), ((0 : Int), [])))))))))).2.2.1) ((nthI a5 a4 ((0 : Int), ((0 : Int), ((0 : Int), ((0 : Int), ((0 : Int), ((0 : Int), (((0 : Int), (0 : Int)), ((0 : Int), ((0 : Int), [])))))))))).2.2.2.1) ((nthI a5 a4 ((0 : Int), ((0 : Int), ((0 : Int), ((0 : Int), ((0 : Int), ((0 : Int), (((0 : Int), (0 : Int)), ((0 : Int), ((0 : Int), [])))))))))).2.2.2.2.1) ((nthI a5 a4 ((0 : Int), ((0 : Int), ((0 : Int), ((0 : Int), ((0 : Int), ((0 : Int), (((0 : Int), (0 : Int)), ((0 : Int), ((0 : Int), [])))))))))).2.2.2.2.2.1) ((nthI a5 a4 ((0 : Int), ((0 : Int), ((0 : Int), ((0 : Int), ((0 : Int), ((0 : Int), (((0 : Int), (0 : Int)), ((0 : Int), ((0 : Int), [])))))))))).2.2.2.2.2.2.1.1) ((nthI a5 a4 ((0 : Int), ((0 : Int), ((0 : Int), ((0 : Int), ((0 : Int), ((0 : Int), (((0 : Int), (0 : Int)), ((0 : Int), ((0 : Int), [])))))))))).2.2.2.2.2.2.1.2) ((nthI a5 a4 ((0 : Int), ((0 : Int), ((0 : Int), ((0 : Int), ((0 : Int), ((0 : Int), (((0 : Int), (0 : Int)), ((0 : Int), ((0 : Int), [])))))))))).2.2.2.2.2.2.2.1) ((nthI a5 a4 ((0 : Int), ((0 : Int), ((0 : Int), ((0 : Int), ((0 : Int), ((0 : Int), (((0 : Int), (0 : Int)), ((0 : Int), ((0 : Int), [])))))))))).2.2.2.2.2.2.2.2.1) ((nthI a5 a4 ((0 : Int), ((0 : Int), ((0 : Int), ((0 : Int), ((0 : Int), ((0 : Int), (((0 : Int), (0 : Int)), ((0 : Int), ((0 : Int), [])))))))))).2.2.2.2.2.2.2.2.2)) fun r8 =>
    (bif (!r8) then
    (e4_0 false)
    else
    (bif (decide (0 < a4)) then
    (let v10 : Int := (IntKind.wrap .i64 (a4 - 1))
    (bif decide ((0 : Int) ≤ v10 ∧ v10 < (a5.length : Int)) then
    (bif decide ((0 : Int) ≤ a4 ∧ a4 < (a5.length : Int)) then
    (Option.bind (S.l09Less ((nthI a5 v10 ((0 : Int), ((0 : Int), ((0 : Int), ((0 : Int), ((0 : Int), ((0 : Int), (((0 : Int), (0 : Int)), ((0 : Int), ((0 : Int), [])))))))))).1) ((nthI a5 v10 ((0 : Int), ((0 : Int), ((0 : Int), ((0 : Int), ((0 : Int), ((0 : Int), (((0 : Int), (0 : Int)), ((0 : Int), ((0 : Int), [])))))))))).2.1) ((nthI a5 v10 ((0 : Int), ((0 : Int), ((0 : Int), ((0 : Int), ((0 : Int), ((0 : Int), (((0 : Int), (0 : Int)), ((0 : Int), ((0 : Int), [])))))))))).2.2.1) ((nthI a5 v10 ((0 : Int), ((0 : Int), ((0 : Int), ((0 : Int), ((0 : Int), ((0 : Int), (((0 : Int), (0 : Int)), ((0 : Int), ((0 : Int), [])))))))))).2.2.2.1) ((nthI a5 v10 ((0 : Int), ((0 : Int), ((0 : Int), ((0 : Int), ((0 : Int), ((0 : Int), (((0 : Int), (0 : Int)), ((0 : Int), ((0 : Int), [])))))))))).2.2.2.2.1) ((nthI a5 v10 ((0 : Int), ((0 : Int), ((0 : Int), ((0 : Int), ((0 : Int), ((0 : Int), (((0 : Int), (0 : Int)), ((0 : Int), ((0 : Int), [])))))))))).2.2.2.2.2.1) ((nthI a5 v10 ((0 : Int), ((0 : Int), ((0 : Int), ((0 : Int), ((0 : Int), ((0 : Int), (((0 : Int), (0 : Int)), ((0 : Int), ((0 : Int), [])))))))))).2.2.2.2.2.2.1.1) ((nthI a5 v10 ((0 : Int), ((0 : Int), ((0 : Int), ((0 : Int), ((0 : Int), ((0 : Int), (((0 : Int), (0 : Int)), ((0 : Int), ((0 : Int), [])))))))))).2.2.2.2.2.2.1.2) ((nthI a5 v10 ((0 : Int), ((0 : Int), ((0 : Int), ((0 : Int), ((0 : Int), ((0 : Int), (((0 : Int), (0 : Int)), ((0 : Int), ((0 : Int), [])))))))))).2.2.2.2.2.2.2.1) ((nthI a5 v10 ((0 : Int), ((0 : Int), ((0 : Int), ((0 : Int), ((0 : Int), ((0 : Int), (((0 : Int), (0 : Int)), ((0 : Int), ((0 : Int), [])))))))))).2.2.2.2.2.2.2.2.1) ((nthI a5 a4 ((0 : Int), ((0 : Int), ((0 : Int), ((0 : Int), ((0 : Int), ((0 : Int), (((0 : Int), (0 : Int)), ((0 : Int), ((0 : Int), [])))))))))).1) ((nthI a5 a4 ((0 : Int), ((0 : Int), ((0 : Int), ((0 : Int), ((0 : Int), ((0 : Int), (((0 : Int), (0 : Int)), ((0 : Int), ((0 : Int), [])))))))))).2.1) ((nthI a5 a4 ((0 : Int), ((0 : Int), ((0 : Int), ((0 : Int), ((0 : Int), ((0 : Int), (((0 : Int), (0 : Int)), ((0 : Int), ((0 : Int), [])))))))))).2.2.1) ((nthI a5 a4 ((0 : Int), ((0 : Int), ((0 : Int), ((0 : Int), ((0 : Int), ((0 : Int), (((0 : Int), (0 : Int)), ((0 : Int), ((0 : Int), [])))))))))).2.2.2.1) ((nthI a5 a4 ((0 : Int), ((0 : Int), ((0 : Int), ((0 : Int), ((0 : Int), ((0 : Int), (((0 : Int), (0 : Int)), ((0 : Int), ((0 : Int), [])))))))))).2.2.2.2.1) ((nthI a5 a4 ((0 : Int), ((0 : Int), ((0 : Int), ((0 : Int), ((0 : Int), ((0 : Int), (((0 : Int), (0 : Int)), ((0 : Int), ((0 : Int), [])))))))))).2.2.2.2.2.1) ((nthI a5 a4 ((0 : Int), ((0 : Int), ((0 : Int), ((0 : Int), ((0 : Int), ((0 : Int), (((0 : Int), (0 : Int)), ((0 : Int), ((0 : Int), [])))))))))).2.2.2.2.2.2.1.1) ((nthI a5 a4 ((0 : Int), ((0 : Int), ((0 : Int), ((0 : Int), ((0 : Int), ((0 : Int), (((0 : Int), (0 : Int)), ((0 : Int), ((0 : Int), [])))))))))).2.2.2.2.2.2.1.2) ((nthI a5 a4 ((0 : Int), ((0 : Int), ((0 : Int), ((0 : Int), ((0 : Int), ((0 : Int), (((0 : Int), (0 : Int)), ((0 : Int), ((0 : Int), [])))))))))).2.2.2.2.2.2.2.1) ((nthI a5 a4 ((0 : Int), ((0 : Int), ((0 : Int), ((0 : Int), ((0 : Int), ((0 : Int), (((0 : Int), (0 : Int)), ((0 : Int), ((0 : Int), [])))))))))).2.2.2.2.2.2.2.2.1) ((nthI a5 v10 ((0 : Int), ((0 : Int), ((0 : Int), ((0 : Int), ((0 : Int), ((0 : Int), (((0 : Int), (0 : Int)), ((0 : Int), ((0 : Int), [])))))))))).2.2.2.2.2.2.2.2.2) ((nthI a5 a4 ((0 : Int), ((0 : Int), ((0 : Int), ((0 : Int), ((0 : Int), ((0 : Int), (((0 : Int), (0 : Int)), ((0 : Int), ((0 : Int), [])))))))))).2.2.2.2.2.2.2.2.2)) fun r11 =>
    (bif (!r11) then
    (e4_0 false)
    else
    (S.CellsOk_l0 m e4_0 e4_1 (IntKind.wrap .i64 (a4 + 1)) a5)))
    else
    none)
    else
    none))
    else
    (S.CellsOk_l0 m e4_0 e4_1 (IntKind.wrap .i64 (a4 + 1)) a5))))
    else
    none)
    else
    e4_1)
noncomputable def S.CellsOk (a1 : List (Int × Int × Int × Int × Int × Int × (Int × Int) × Int × Int × List Int)) : Option Bool :=
(bif (decide (10000 < (a1.length : Int))) then
(some false)
else
(S.CellsOk_l0 fu (fun y14 =>
(some y14)) (some true) 0 a1))
noncomputable def H56_4 : LoopH := ⟨⟨((.one (.sl 0)) :: (hu 2 (hh :: (hu 32 [])))), [], [(90, (.pair (.int .i64) (.pair (.int .i64) (.pair (.int .i64) (.pair (.int .i64) (.pair (.int .i64) (.pair (.int .i64) (.pair (.pair (.int .i64) (.int .u64)) (.pair (.int .i64) (.pair (.int .i64) (.sl 3 (.int .i64))))))))))), .ro)]⟩, [1, 2, 4, 5, 6, 7, 8, 9, 10, 11, 12, 13, 14, 15, 16, 17, 18, 19, 20, 21, 22, 23, 24, 25, 26, 27, 28, 29, 30, 31, 32, 33, 34, 35], [], [0, 1, 3, 4, 5, 6, 7, 8, 9, 10, 11, 12, 13, 14, 15, 16, 17, 18, 19, 20, 21, 22, 23, 24, 25, 26, 27, 28, 29, 30, 31, 32, 33, 34, 35]⟩
noncomputable def E56_4 (m : Nat) (ps : List Prm) (k : Kont Bool) : Option Bool :=
  match ps with
  | [.v (.int .i64 a4), .row (.pair (.int .i64) (.pair (.int .i64) (.pair (.int .i64) (.pair (.int .i64) (.pair (.int .i64) (.pair (.int .i64) (.pair (.pair (.int .i64) (.int .u64)) (.pair (.int .i64) (.pair (.int .i64) (.sl 3 (.int .i64))))))))))) a5] => S.CellsOk_l0 m (fun z16 => k .ret (⟨(vu 2 ((vb z16) :: (vu 33 []))), [], []⟩ : St)) (k (.exit 0) (⟨(vu 36 []), [], []⟩ : St)) a4 a5
  | _ => none
noncomputable def S56_4 (a4 : Int) (a5 : List (Int × Int × Int × Int × Int × Int × (Int × Int) × Int × Int × List Int)) : St := (⟨((vl 0) :: (vu 2 ((vi a4) :: (vu 32 [])))), [], [⟨90, (.pair (.int .i64) (.pair (.int .i64) (.pair (.int .i64) (.pair (.int .i64) (.pair (.int .i64) (.pair (.int .i64) (.pair (.pair (.int .i64) (.int .u64)) (.pair (.int .i64) (.pair (.int .i64) (.sl 3 (.int .i64))))))))))), a5, .ro⟩]⟩ : St)
theorem ev56_4 (m : Nat) (k : Kont Bool) (a4 : Int) (a5 : List (Int × Int × Int × Int × Int × Int × (Int × Int) × Int × Int × List Int)) : evC Try.prog G56 loopNil c56_4 (S56_4 a4 a5) (turn Try.prog (0, 0) H56_4 (E56_4 m) k) = E56_4 (m + 1) [.v (.int .i64 a4), .row (.pair (.int .i64) (.pair (.int .i64) (.pair (.int .i64) (.pair (.int .i64) (.pair (.int .i64) (.pair (.int .i64) (.pair (.pair (.int .i64) (.int .u64)) (.pair (.int .i64) (.pair (.int .i64) (.sl 3 (.int .i64))))))))))) a5] k := by kernel_rfl
theorem ok56_4 (m : Nat) : LoopOk Try.prog (0, 0) c56_4 (enter Try.prog (0, 0) H56_4 (E56_4 m)) := by
  refine loop_ok (G := G56) (L := loopNil) (envCons_good good41 (envCons_good good115 envNil_good)) (by intro x hx; simp [show loopsOf c56_4 = [] from by kernel_rfl] at hx) (fun ps k => by unfold E56_4; split <;> rfl) (fun m ps k r h => ?_) m
  have h0 := h
  unfold E56_4 at h
  split at h
  · exact ⟨S56_4 _ _, by kernel_rfl, (ev56_4 m k _ _).trans h0⟩
  · cases h
noncomputable def L56 : LEnv Bool := (loopCons 4 (enter Try.prog (0, 0) H56_4 (E56_4 fu)) loopNil)
theorem lq56 : loopsOf c56 = [c56_4] := by kernel_rfl
theorem fr56_4 : firstReg c56_4 = some 4 := by kernel_rfl
theorem le56_4 : L56 4 = enter Try.prog (0, 0) H56_4 (E56_4 fu) := by kernel_rfl
theorem lm56 : ∀ x ∈ [c56_4], ∀ id, firstReg x = some id → LoopOk Try.prog (0, 0) x (L56 id) := (loops_cons fr56_4 le56_4 (ok56_4 fu) loops_nil)
theorem lp56 : ∀ x ∈ loopsOf c56, ∀ id, firstReg x = some id → LoopOk Try.prog (0, 0) x (L56 id) := loops_eq lq56 lm56
noncomputable def R56 (x : Bool) : Res := ⟨[.one (ab x)], [], []⟩
noncomputable def K56 (r : Res) : Option Bool :=
  match r with
  | ⟨[.one (.val (.bool v1))], [], []⟩ => some (v1)
  | _ => none
noncomputable def E56 : Fun2 := fun args bs rs =>
  match args, bs, rs with
  | [.s1 (.one (.sl 0))], [], [⟨90, (.pair (.int .i64) (.pair (.int .i64) (.pair (.int .i64) (.pair (.int .i64) (.pair (.int .i64) (.pair (.int .i64) (.pair (.pair (.int .i64) (.int .u64)) (.pair (.int .i64) (.pair (.int .i64) (.sl 3 (.int .i64))))))))))), a1, .ro⟩] => some ⟨Bool, S.CellsOk a1, R56⟩
  | _, _, _ => none
theorem ev56 (a1 : List (Int × Int × Int × Int × Int × Int × (Int × Int) × Int × Int × List Int)) : evF Try.prog G56 L56 (0, 0) Try.f56 c56 [vl 0] [] [⟨90, (.pair (.int .i64) (.pair (.int .i64) (.pair (.int .i64) (.pair (.int .i64) (.pair (.int .i64) (.pair (.int .i64) (.pair (.pair (.int .i64) (.int .u64)) (.pair (.int .i64) (.pair (.int .i64) (.sl 3 (.int .i64))))))))))), a1, .ro⟩] K56 = S.CellsOk a1 := by kernel_rfl
theorem good56 : Vm.Good Try.prog 56 E56 := by
  refine evF_good (G := G56) (c := c56) (envCons_good good41 (envCons_good good115 envNil_good)) Try.func56 (by kernel_rfl) (by kernel_rfl) (0, 0) (fun args bs rs out t h h2 => ?_)
  unfold E56 at h
  split at h
  · injection h with h
    subst h
    exact ⟨rfl, L56, K56, lp56, (fun r t h => by unfold K56 at h; split at h; (injection h with h; subst h; rfl); cases h), (ev56 _).trans h2⟩
  · cases h
/-! ### I.in -/
noncomputable def G134 : Env := envNil
noncomputable def c134 : Code := bodyOf Try.f134
noncomputable def I.in (a1 a2 a3 : Int) : Option Bool :=
(bif (decide (a2 ≤ a1)) then
(some (decide (a1 ≤ a3)))
else
(some false))
noncomputable def R134 (x : Bool) : Res := ⟨[.one (ab x)], [], []⟩
noncomputable def K134 (r : Res) : Option Bool :=
  match r with
  | ⟨[.one (.val (.bool v1))], [], []⟩ => some (v1)
  | _ => none
noncomputable def E134 : Fun2 := fun args bs rs =>
  match args, bs, rs with
  | [.s1 (.one (.val (.int .i64 a1))), .s1 (.one (.val (.int .i64 a2))), .s1 (.one (.val (.int .i64 a3)))], [], [] => some ⟨Bool, I.in a1 a2 a3, R134⟩
  | _, _, _ => none
theorem ev134 (a1 a2 a3 : Int) : evF Try.prog G134 loopNil (0, 0) Try.f134 c134 [vi a1, vi a2, vi a3] [] [] K134 = I.in a1 a2 a3 := by kernel_rfl
theorem good134 : Vm.Good Try.prog 134 E134 := by
  refine evF_good (G := G134) (c := c134) envNil_good Try.func134 (by kernel_rfl) (by kernel_rfl) (0, 0) (fun args bs rs out t h h2 => ?_)
  unfold E134 at h
  split at h
  · injection h with h
    subst h
    exact ⟨rfl, loopNil, K134, (by intro x hx; simp [show loopsOf c134 = [] from by kernel_rfl] at hx), (fun r t h => by unfold K134 at h; split at h; (injection h with h; subst h; rfl); cases h), (ev134 _ _ _).trans h2⟩
  · cases h
/-! ### I.isId -/
noncomputable def G178 : Env := (envCons 134 [] E134 envNil)
noncomputable def c178 : Code := bodyOf Try.f178
noncomputable def I.isId (a1 : Int) : Option Bool :=
(Option.bind (I.in a1 0 3) fun r2 =>
(some r2))
noncomputable def R178 (x : Bool) : Res := ⟨[.one (ab x)], [], []⟩
noncomputable def K178 (r : Res) : Option Bool :=
  match r with
  | ⟨[.one (.val (.bool v1))], [], []⟩ => some (v1)
  | _ => none
noncomputable def E178 : Fun2 := fun args bs rs =>
  match args, bs, rs with
  | [.s1 (.one (.val (.int .i64 a1)))], [], [] => some ⟨Bool, I.isId a1, R178⟩
  | _, _, _ => none
theorem ev178 (a1 : Int) : evF Try.prog G178 loopNil (0, 0) Try.f178 c178 [vi a1] [] [] K178 = I.isId a1 := by kernel_rfl
theorem good178 : Vm.Good Try.prog 178 E178 := by
  refine evF_good (G := G178) (c := c178) (envCons_good good134 envNil_good) Try.func178 (by kernel_rfl) (by kernel_rfl) (0, 0) (fun args bs rs out t h h2 => ?_)
  unfold E178 at h
  split at h
  · injection h with h
    subst h
    exact ⟨rfl, loopNil, K178, (by intro x hx; simp [show loopsOf c178 = [] from by kernel_rfl] at hx), (fun r t h => by unfold K178 at h; split at h; (injection h with h; subst h; rfl); cases h), (ev178 _).trans h2⟩
  · cases h
/-! ### I.isKey -/
noncomputable def G170 : Env := (envCons 134 [] E134 envNil)
noncomputable def c170 : Code := bodyOf Try.f170
noncomputable def I.isKey (a1 : Int) : Option Bool :=
(Option.bind (I.in a1 0 15) fun r2 =>
(some r2))
noncomputable def R170 (x : Bool) : Res := ⟨[.one (ab x)], [], []⟩
noncomputable def K170 (r : Res) : Option Bool :=
  match r with
  | ⟨[.one (.val (.bool v1))], [], []⟩ => some (v1)
  | _ => none
noncomputable def E170 : Fun2 := fun args bs rs =>
  match args, bs, rs with
  | [.s1 (.one (.val (.int .i64 a1)))], [], [] => some ⟨Bool, I.isKey a1, R170⟩
  | _, _, _ => none
theorem ev170 (a1 : Int) : evF Try.prog G170 loopNil (0, 0) Try.f170 c170 [vi a1] [] [] K170 = I.isKey a1 := by kernel_rfl
theorem good170 : Vm.Good Try.prog 170 E170 := by
  refine evF_good (G := G170) (c := c170) (envCons_good good134 envNil_good) Try.func170 (by kernel_rfl) (by kernel_rfl) (0, 0) (fun args bs rs out t h h2 => ?_)
  unfold E170 at h
  split at h
  · injection h with h
    subst h
    exact ⟨rfl, loopNil, K170, (by intro x hx; simp [show loopsOf c170 = [] from by kernel_rfl] at hx), (fun r t h => by unfold K170 at h; split at h; (injection h with h; subst h; rfl); cases h), (ev170 _).trans h2⟩
  · cases h
/-! ### I.isCellPlace -/
noncomputable def G155 : Env := (envCons 178 [] E178 (envCons 170 [] E170 (envCons 134 [] E134 envNil)))
noncomputable def c155 : Code := bodyOf Try.f155
noncomputable def I.isCellPlace (a1 a2 a3 : Int) : Option Bool :=
(Option.bind (I.isId a1) fun r4 =>
(bif r4 then
(Option.bind (I.isKey a2) fun r5 =>
(bif r5 then
(Option.bind (I.in a3 0 15) fun r6 =>
(some r6))
else
(some false)))
else
(some false)))
noncomputable def R155 (x : Bool) : Res := ⟨[.one (ab x)], [], []⟩
noncomputable def K155 (r : Res) : Option Bool :=
  match r with
  | ⟨[.one (.val (.bool v1))], [], []⟩ => some (v1)
  | _ => none
noncomputable def E155 : Fun2 := fun args bs rs =>
  match args, bs, rs with
  | [.s1 (.one (.val (.int .i64 a1))), .s1 (.one (.val (.int .i64 a2))), .s1 (.one (.val (.int .i64 a3)))], [], [] => some ⟨Bool, I.isCellPlace a1 a2 a3, R155⟩
  | _, _, _ => none
theorem ev155 (a1 a2 a3 : Int) : evF Try.prog G155 loopNil (0, 0) Try.f155 c155 [vi a1, vi a2, vi a3] [] [] K155 = I.isCellPlace a1 a2 a3 := by kernel_rfl
theorem good155 : Vm.Good Try.prog 155 E155 := by
  refine evF_good (G := G155) (c := c155) (envCons_good good178 (envCons_good good170 (envCons_good good134 envNil_good))) Try.func155 (by kernel_rfl) (by kernel_rfl) (0, 0) (fun args bs rs out t h h2 => ?_)
  unfold E155 at h
  split at h
  · injection h with h
    subst h
    exact ⟨rfl, loopNil, K155, (by intro x hx; simp [show loopsOf c155 = [] from by kernel_rfl] at hx), (fun r t h => by unfold K155 at h; split at h; (injection h with h; subst h; rfl); cases h), (ev155 _ _ _).trans h2⟩
  · cases h
/-! ### I.Cell_win -/
noncomputable def G157 : Env := envNil
noncomputable def c157 : Code := bodyOf Try.f157
noncomputable def I.Cell_win (a1 a2 a3 a4 a5 a6 a7 a8 a9 a10 : Int) (a11 : List Int) : Option (Int × Int) :=
(some (a3, a4))
noncomputable def R157 (x : Int × Int) : Res := ⟨[.agg [ai x.1, ai x.2]], [], []⟩
noncomputable def K157 (r : Res) : Option (Int × Int) :=
  match r with
  | ⟨[.agg [.val (.int .i64 v1), .val (.int .i64 v2)]], [], []⟩ => some (v1, v2)
  | _ => none
noncomputable def E157 : Fun2 := fun args bs rs =>
  match args, bs, rs with
  | [.s1 (.agg [.val (.int .i64 a1), .val (.int .i64 a2), .val (.int .i64 a3), .val (.int .i64 a4), .val (.int .i64 a5), .val (.int .i64 a6), .val (.int .i64 a7), .val (.int .u64 a8), .val (.int .i64 a9), .val (.int .i64 a10), .sl 0])], [], [⟨3, (.int .i64), a11, .ro⟩] => some ⟨Int × Int, I.Cell_win a1 a2 a3 a4 a5 a6 a7 a8 a9 a10 a11, R157⟩
  | _, _, _ => none
theorem ev157 (a1 a2 a3 a4 a5 a6 a7 a8 a9 a10 : Int) (a11 : List Int) : evF Try.prog G157 loopNil (0, 0) Try.f157 c157 [.s1 (.agg [ai a1, ai a2, ai a3, ai a4, ai a5, ai a6, ai a7, ak .u64 a8, ai a9, ai a10, .sl 0])] [] [⟨3, (.int .i64), a11, .ro⟩] K157 = I.Cell_win a1 a2 a3 a4 a5 a6 a7 a8 a9 a10 a11 := by kernel_rfl
theorem good157 : Vm.Good Try.prog 157 E157 := by
  refine evF_good (G := G157) (c := c157) envNil_good Try.func157 (by kernel_rfl) (by kernel_rfl) (0, 0) (fun args bs rs out t h h2 => ?_)
  unfold E157 at h
  split at h
  · injection h with h
    subst h
    exact ⟨rfl, loopNil, K157, (by intro x hx; simp [show loopsOf c157 = [] from by kernel_rfl] at hx), (fun r t h => by unfold K157 at h; split at h; (injection h with h; subst h; rfl); cases h), (ev157 _ _ _ _ _ _ _ _ _ _ _).trans h2⟩
  · cases h
/-! ### I.isWin -/
noncomputable def G156 : Env := envNil
noncomputable def c156 : Code := bodyOf Try.f156
noncomputable def I.isWin (a1 a2 : Int) : Option Bool :=
(bif (decide (0 ≤ a1)) then
(bif (decide (a1 < a2)) then
(some (decide (a2 ≤ 1100)))
else
(some false))
else
(some false))
noncomputable def R156 (x : Bool) : Res := ⟨[.one (ab x)], [], []⟩
noncomputable def K156 (r : Res) : Option Bool :=
  match r with
  | ⟨[.one (.val (.bool v1))], [], []⟩ => some (v1)
  | _ => none
noncomputable def E156 : Fun2 := fun args bs rs =>
  match args, bs, rs with
  | [.s1 (.agg [.val (.int .i64 a1), .val (.int .i64 a2)])], [], [] => some ⟨Bool, I.isWin a1 a2, R156⟩
  | _, _, _ => none
theorem ev156 (a1 a2 : Int) : evF Try.prog G156 loopNil (0, 0) Try.f156 c156 [.s1 (.agg [ai a1, ai a2])] [] [] K156 = I.isWin a1 a2 := by kernel_rfl
theorem good156 : Vm.Good Try.prog 156 E156 := by
  refine evF_good (G := G156) (c := c156) envNil_good Try.func156 (by kernel_rfl) (by kernel_rfl) (0, 0) (fun args bs rs out t h h2 => ?_)
  unfold E156 at h
  split at h
  · injection h with h
    subst h
    exact ⟨rfl, loopNil, K156, (by intro x hx; simp [show loopsOf c156 = [] from by kernel_rfl] at hx), (fun r t h => by unfold K156 at h; split at h; (injection h with h; subst h; rfl); cases h), (ev156 _ _).trans h2⟩
  · cases h
/-! ### I.WideOf -/
noncomputable def G183 : Env := envNil
noncomputable def c183 : Code := bodyOf Try.f183
noncomputable def I.WideOf (a1 : Int) : Option (Int × Int) :=
(bif decide ((0 : Int) ≤ 63) then
(some ((Int.fdiv a1 (2 ^ min (Int.toNat 63) (IntKind.bits .i64))), (IntKind.wrap .u64 a1)))
else
none)
noncomputable def R183 (x : Int × Int) : Res := ⟨[.agg [ai x.1, ak .u64 x.2]], [], []⟩
noncomputable def K183 (r : Res) : Option (Int × Int) :=
  match r with
  | ⟨[.agg [.val (.int .i64 v1), .val (.int .u64 v2)]], [], []⟩ => some (v1, v2)
  | _ => none
noncomputable def E183 : Fun2 := fun args bs rs =>
  match args, bs, rs with
  | [.s1 (.one (.val (.int .i64 a1)))], [], [] => some ⟨Int × Int, I.WideOf a1, R183⟩
  | _, _, _ => none
theorem ev183 (a1 : Int) : evF Try.prog G183 loopNil (0, 0) Try.f183 c183 [vi a1] [] [] K183 = I.WideOf a1 := by kernel_rfl
theorem good183 : Vm.Good Try.prog 183 E183 := by
  refine evF_good (G := G183) (c := c183) envNil_good Try.func183 (by kernel_rfl) (by kernel_rfl) (0, 0) (fun args bs rs out t h h2 => ?_)
  unfold E183 at h
  split at h
  · injection h with h
    subst h
    exact ⟨rfl, loopNil, K183, (by intro x hx; simp [show loopsOf c183 = [] from by kernel_rfl] at hx), (fun r t h => by unfold K183 at h; split at h; (injection h with h; subst h; rfl); cases h), (ev183 _).trans h2⟩
  · cases h
/-! ### I.WideAdd -/
noncomputable def G181 : Env := envNil
noncomputable def c181 : Code := bodyOf Try.f181
noncomputable def I.WideAdd (a1 a2 a3 a4 : Int) : Option (Int × Int) :=
(bif decide ((0 : Int) ≤ a2 ∧ (0 : Int) ≤ a4 ∧ (0 : Int) ≤ 0 ∧ (0 : Int) ≤ 1) then
(some ((IntKind.wrap .i64 ((IntKind.wrap .i64 (a1 + a3)) + (IntKind.wrap .i64 ((a2 + a4 + 0) / 18446744073709551616)))), ((a2 + a4 + 0) % 18446744073709551616)))
else
none)
noncomputable def R181 (x : Int × Int) : Res := ⟨[.agg [ai x.1, ak .u64 x.2]], [], []⟩
noncomputable def K181 (r : Res) : Option (Int × Int) :=
  match r with
  | ⟨[.agg [.val (.int .i64 v1), .val (.int .u64 v2)]], [], []⟩ => some (v1, v2)
  | _ => none
noncomputable def E181 : Fun2 := fun args bs rs =>
  match args, bs, rs with
  | [.s1 (.agg [.val (.int .i64 a1), .val (.int .u64 a2)]), .s1 (.agg [.val (.int .i64 a3), .val (.int .u64 a4)])], [], [] => some ⟨Int × Int, I.WideAdd a1 a2 a3 a4, R181⟩
  | _, _, _ => none
theorem ev181 (a1 a2 a3 a4 : Int) : evF Try.prog G181 loopNil (0, 0) Try.f181 c181 [.s1 (.agg [ai a1, ak .u64 a2]), .s1 (.agg [ai a3, ak .u64 a4])] [] [] K181 = I.WideAdd a1 a2 a3 a4 := by kernel_rfl
theorem good181 : Vm.Good Try.prog 181 E181 := by
  refine evF_good (G := G181) (c := c181) envNil_good Try.func181 (by kernel_rfl) (by kernel_rfl) (0, 0) (fun args bs rs out t h h2 => ?_)
  unfold E181 at h
  split at h
  · injection h with h
    subst h
    exact ⟨rfl, loopNil, K181, (by intro x hx; simp [show loopsOf c181 = [] from by kernel_rfl] at hx), (fun r t h => by unfold K181 at h; split at h; (injection h with h; subst h; rfl); cases h), (ev181 _ _ _ _).trans h2⟩
  · cases h
/-! ### I.WideNeg -/
noncomputable def G182 : Env := (envCons 181 [] E181 envNil)
noncomputable def c182 : Code := bodyOf Try.f182
noncomputable def I.WideNeg (a1 a2 : Int) : Option (Int × Int) :=
(let v3 : Int := (Go.bits .xor .i64 (if IntKind.signed .i64 then -1 else IntKind.max .i64) a1)
(let v4 : Int := (Go.bits .xor .u64 (if IntKind.signed .u64 then -1 else IntKind.max .u64) a2)
(Option.bind (I.WideAdd v3 v4 0 1) fun r5 =>
(some (r5.1, r5.2)))))
noncomputable def R182 (x : Int × Int) : Res := ⟨[.agg [ai x.1, ak .u64 x.2]], [], []⟩
noncomputable def K182 (r : Res) : Option (Int × Int) :=
  match r with
  | ⟨[.agg [.val (.int .i64 v1), .val (.int .u64 v2)]], [], []⟩ => some (v1, v2)
  | _ => none
noncomputable def E182 : Fun2 := fun args bs rs =>
  match args, bs, rs with
  | [.s1 (.agg [.val (.int .i64 a1), .val (.int .u64 a2)])], [], [] => some ⟨Int × Int, I.WideNeg a1 a2, R182⟩
  | _, _, _ => none
theorem ev182 (a1 a2 : Int) : evF Try.prog G182 loopNil (0, 0) Try.f182 c182 [.s1 (.agg [ai a1, ak .u64 a2])] [] [] K182 = I.WideNeg a1 a2 := by kernel_rfl
theorem good182 : Vm.Good Try.prog 182 E182 := by
  refine evF_good (G := G182) (c := c182) (envCons_good good181 envNil_good) Try.func182 (by kernel_rfl) (by kernel_rfl) (0, 0) (fun args bs rs out t h h2 => ?_)
  unfold E182 at h
  split at h
  · injection h with h
    subst h
    exact ⟨rfl, loopNil, K182, (by intro x hx; simp [show loopsOf c182 = [] from by kernel_rfl] at hx), (fun r t h => by unfold K182 at h; split at h; (injection h with h; subst h; rfl); cases h), (ev182 _ _).trans h2⟩
  · cases h
/-! ### G.bits.Mul64 -/
noncomputable def G198 : Env := envNil
noncomputable def c198 : Code := bodyOf Try.f198
noncomputable def G.bits.Mul64 (a1 a2 : Int) : Option (Int × Int) :=
(let v3 : Int := (Go.bits .and .u64 a1 4294967295)
(bif decide ((0 : Int) ≤ 32) then
(let v4 : Int := (Int.fdiv a1 (2 ^ min (Int.toNat 32) (IntKind.bits .u64)))
(let v5 : Int := (Go.bits .and .u64 a2 4294967295)
(bif decide ((0 : Int) ≤ 32) then
(let v6 : Int := (Int.fdiv a2 (2 ^ min (Int.toNat 32) (IntKind.bits .u64)))
(bif decide ((0 : Int) ≤ 32) then
(let v10 : Int := (IntKind.wrap .u64 ((IntKind.wrap .u64 (v4 * v5)) + (Int.fdiv (IntKind.wrap .u64 (v3 * v5)) (2 ^ min (Int.toNat 32) (IntKind.bits .u64)))))
(bif decide ((0 : Int) ≤ 32) then
(bif decide ((0 : Int) ≤ 32) then
(some ((IntKind.wrap .u64 ((IntKind.wrap .u64 ((IntKind.wrap .u64 (v4 * v6)) + (Int.fdiv v10 (2 ^ min (Int.toNat 32) (IntKind.bits .u64))))) + (Int.fdiv (IntKind.wrap .u64 ((Go.bits .and .u64 v10 4294967295) + (IntKind.wrap .u64 (v3 * v6)))) (2 ^ min (Int.toNat 32) (IntKind.bits .u64))))), (IntKind.wrap .u64 (a1 * a2))))
else
none)
else
none))
else
none))
else
none)))
else
none))
noncomputable def R198 (x : Int × Int) : Res := ⟨[.one (ak .u64 x.1), .one (ak .u64 x.2)], [], []⟩
noncomputable def K198 (r : Res) : Option (Int × Int) :=
  match r with
  | ⟨[.one (.val (.int .u64 v1)), .one (.val (.int .u64 v2))], [], []⟩ => some (v1, v2)
  | _ => none
noncomputable def E198 : Fun2 := fun args bs rs =>
  match args, bs, rs with
  | [.s1 (.one (.val (.int .u64 a1))), .s1 (.one (.val (.int .u64 a2)))], [], [] => some ⟨Int × Int, G.bits.Mul64 a1 a2, R198⟩
  | _, _, _ => none
theorem ev198 (a1 a2 : Int) : evF Try.prog G198 loopNil (0, 0) Try.f198 c198 [vk .u64 a1, vk .u64 a2] [] [] K198 = G.bits.Mul64 a1 a2 := by kernel_rfl
theorem good198 : Vm.Good Try.prog 198 E198 := by
  refine evF_good (G := G198) (c := c198) envNil_good Try.func198 (by kernel_rfl) (by kernel_rfl) (0, 0) (fun args bs rs out t h h2 => ?_)
  unfold E198 at h
  split at h
  · injection h with h
    subst h
    exact ⟨rfl, loopNil, K198, (by intro x hx; simp [show loopsOf c198 = [] from by kernel_rfl] at hx), (fun r t h => by unfold K198 at h; split at h; (injection h with h; subst h; rfl); cases h), (ev198 _ _).trans h2⟩
  · cases h
/-! ### I.wideTimes -/
noncomputable def G185 : Env := (envCons 198 [] E198 (envCons 182 [] E182 envNil))
noncomputable def c185 : Code := bodyOf Try.f185
noncomputable def I.wideTimes (a1 a2 : Int) : Option (Int × Int) :=
(let v3 : Int := (IntKind.wrap .u64 a1)
(bif (decide (a1 < 0)) then
(Option.bind (G.bits.Mul64 (IntKind.wrap .u64 (0 - v3)) (IntKind.wrap .u64 a2)) fun r7 =>
(let v8 : Int := (IntKind.wrap .i64 r7.1)
(bif (decide (a1 < 0)) then
(Option.bind (I.WideNeg v8 r7.2) fun r10 =>
(some (r10.1, r10.2)))
else
(some (v8, r7.2)))))
else
(Option.bind (G.bits.Mul64 v3 (IntKind.wrap .u64 a2)) fun r12 =>
(let v13 : Int := (IntKind.wrap .i64 r12.1)
(bif (decide (a1 < 0)) then
(Option.bind (I.WideNeg v13 r12.2) fun r15 =>
(some (r15.1, r15.2)))
else
(some (v13, r12.2)))))))
noncomputable def R185 (x : Int × Int) : Res := ⟨[.agg [ai x.1, ak .u64 x.2]], [], []⟩
noncomputable def K185 (r : Res) : Option (Int × Int) :=
  match r with
  | ⟨[.agg [.val (.int .i64 v1), .val (.int .u64 v2)]], [], []⟩ => some (v1, v2)
  | _ => none
noncomputable def E185 : Fun2 := fun args bs rs =>
  match args, bs, rs with
  | [.s1 (.one (.val (.int .i64 a1))), .s1 (.one (.val (.int .i64 a2)))], [], [] => some ⟨Int × Int, I.wideTimes a1 a2, R185⟩
  | _, _, _ => none
theorem ev185 (a1 a2 : Int) : evF Try.prog G185 loopNil (0, 0) Try.f185 c185 [vi a1, vi a2] [] [] K185 = I.wideTimes a1 a2 := by kernel_rfl
theorem good185 : Vm.Good Try.prog 185 E185 := by
  refine evF_good (G := G185) (c := c185) (envCons_good good198 (envCons_good good182 envNil_good)) Try.func185 (by kernel_rfl) (by kernel_rfl) (0, 0) (fun args bs rs out t h h2 => ?_)
  unfold E185 at h
  split at h
  · injection h with h
    subst h
    exact ⟨rfl, loopNil, K185, (by intro x hx; simp [show loopsOf c185 = [] from by kernel_rfl] at hx), (fun r t h => by unfold K185 at h; split at h; (injection h with h; subst h; rfl); cases h), (ev185 _ _).trans h2⟩
  · cases h
/-! ### G.cmp.isNaN_int -/
noncomputable def G188 : Env := envNil
noncomputable def c188 : Code := bodyOf Try.f188
noncomputable def G.cmp.isNaN_int (a1 : Int) : Option Bool :=
(some (a1 != a1))
noncomputable def R188 (x : Bool) : Res := ⟨[.one (ab x)], [], []⟩
noncomputable def K188 (r : Res) : Option Bool :=
  match r with
  | ⟨[.one (.val (.bool v1))], [], []⟩ => some (v1)
  | _ => none
noncomputable def E188 : Fun2 := fun args bs rs =>
  match args, bs, rs with
  | [.s1 (.one (.val (.int .i64 a1)))], [], [] => some ⟨Bool, G.cmp.isNaN_int a1, R188⟩
  | _, _, _ => none
theorem ev188 (a1 : Int) : evF Try.prog G188 loopNil (0, 0) Try.f188 c188 [vi a1] [] [] K188 = G.cmp.isNaN_int a1 := by kernel_rfl
theorem good188 : Vm.Good Try.prog 188 E188 := by
  refine evF_good (G := G188) (c := c188) envNil_good Try.func188 (by kernel_rfl) (by kernel_rfl) (0, 0) (fun args bs rs out t h h2 => ?_)
  unfold E188 at h
  split at h
  · injection h with h
    subst h
    exact ⟨rfl, loopNil, K188, (by intro x hx; simp [show loopsOf c188 = [] from by kernel_rfl] at hx), (fun r t h => by unfold K188 at h; split at h; (injection h with h; subst h; rfl); cases h), (ev188 _).trans h2⟩
  · cases h
/-! ### G.cmp.Compare_int -/
noncomputable def G164 : Env := (envCons 188 [] E188 envNil)
noncomputable def c164 : Code := bodyOf Try.f164
noncomputable def G.cmp.Compare_int (a1 a2 : Int) : Option Int :=
(Option.bind (G.cmp.isNaN_int a1) fun r3 =>
(Option.bind (G.cmp.isNaN_int a2) fun r4 =>
(bif r3 then
(bif r4 then
(some 0)
else
(some (-1)))
else
(bif r4 then
(some 1)
else
(bif (decide (a1 < a2)) then
(some (-1))
else
(bif (decide (a2 < a1)) then
(some 1)
else
(some 0)))))))
noncomputable def R164 (x : Int) : Res := ⟨[.one (ai x)], [], []⟩
noncomputable def K164 (r : Res) : Option Int :=
  match r with
  | ⟨[.one (.val (.int .i64 v1))], [], []⟩ => some (v1)
  | _ => none
noncomputable def E164 : Fun2 := fun args bs rs =>
  match args, bs, rs with
  | [.s1 (.one (.val (.int .i64 a1))), .s1 (.one (.val (.int .i64 a2)))], [], [] => some ⟨Int, G.cmp.Compare_int a1 a2, R164⟩
  | _, _, _ => none
theorem ev164 (a1 a2 : Int) : evF Try.prog G164 loopNil (0, 0) Try.f164 c164 [vi a1, vi a2] [] [] K164 = G.cmp.Compare_int a1 a2 := by kernel_rfl
theorem good164 : Vm.Good Try.prog 164 E164 := by
  refine evF_good (G := G164) (c := c164) (envCons_good good188 envNil_good) Try.func164 (by kernel_rfl) (by kernel_rfl) (0, 0) (fun args bs rs out t h h2 => ?_)
  unfold E164 at h
  split at h
  · injection h with h
    subst h
    exact ⟨rfl, loopNil, K164, (by intro x hx; simp [show loopsOf c164 = [] from by kernel_rfl] at hx), (fun r t h => by unfold K164 at h; split at h; (injection h with h; subst h; rfl); cases h), (ev164 _ _).trans h2⟩
  · cases h
/-! ### G.cmp.isNaN_uint64 -/
noncomputable def G203 : Env := envNil
noncomputable def c203 : Code := bodyOf Try.f203
noncomputable def G.cmp.isNaN_uint64 (a1 : Int) : Option Bool :=
(some (a1 != a1))
noncomputable def R203 (x : Bool) : Res := ⟨[.one (ab x)], [], []⟩
noncomputable def K203 (r : Res) : Option Bool :=
  match r with
  | ⟨[.one (.val (.bool v1))], [], []⟩ => some (v1)
  | _ => none
noncomputable def E203 : Fun2 := fun args bs rs =>
  match args, bs, rs with
  | [.s1 (.one (.val (.int .u64 a1)))], [], [] => some ⟨Bool, G.cmp.isNaN_uint64 a1, R203⟩
  | _, _, _ => none
theorem ev203 (a1 : Int) : evF Try.prog G203 loopNil (0, 0) Try.f203 c203 [vk .u64 a1] [] [] K203 = G.cmp.isNaN_uint64 a1 := by kernel_rfl
theorem good203 : Vm.Good Try.prog 203 E203 := by
  refine evF_good (G := G203) (c := c203) envNil_good Try.func203 (by kernel_rfl) (by kernel_rfl) (0, 0) (fun args bs rs out t h h2 => ?_)
  unfold E203 at h
  split at h
  · injection h with h
    subst h
    exact ⟨rfl, loopNil, K203, (by intro x hx; simp [show loopsOf c203 = [] from by kernel_rfl] at hx), (fun r t h => by unfold K203 at h; split at h; (injection h with h; subst h; rfl); cases h), (ev203 _).trans h2⟩
  · cases h
/-! ### G.cmp.Compare_uint64 -/
noncomputable def G197 : Env := (envCons 203 [] E203 envNil)
noncomputable def c197 : Code := bodyOf Try.f197
noncomputable def G.cmp.Compare_uint64 (a1 a2 : Int) : Option Int :=
(Option.bind (G.cmp.isNaN_uint64 a1) fun r3 =>
(Option.bind (G.cmp.isNaN_uint64 a2) fun r4 =>
(bif r3 then
(bif r4 then
(some 0)
else
(some (-1)))
else
(bif r4 then
(some 1)
else
(bif (decide (a1 < a2)) then
(some (-1))
else
(bif (decide (a2 < a1)) then
(some 1)
else
(some 0)))))))
noncomputable def R197 (x : Int) : Res := ⟨[.one (ai x)], [], []⟩
noncomputable def K197 (r : Res) : Option Int :=
  match r with
  | ⟨[.one (.val (.int .i64 v1))], [], []⟩ => some (v1)
  | _ => none
noncomputable def E197 : Fun2 := fun args bs rs =>
  match args, bs, rs with
  | [.s1 (.one (.val (.int .u64 a1))), .s1 (.one (.val (.int .u64 a2)))], [], [] => some ⟨Int, G.cmp.Compare_uint64 a1 a2, R197⟩
  | _, _, _ => none
theorem ev197 (a1 a2 : Int) : evF Try.prog G197 loopNil (0, 0) Try.f197 c197 [vk .u64 a1, vk .u64 a2] [] [] K197 = G.cmp.Compare_uint64 a1 a2 := by kernel_rfl
theorem good197 : Vm.Good Try.prog 197 E197 := by
  refine evF_good (G := G197) (c := c197) (envCons_good good203 envNil_good) Try.func197 (by kernel_rfl) (by kernel_rfl) (0, 0) (fun args bs rs out t h h2 => ?_)
  unfold E197 at h
  split at h
  · injection h with h
    subst h
    exact ⟨rfl, loopNil, K197, (by intro x hx; simp [show loopsOf c197 = [] from by kernel_rfl] at hx), (fun r t h => by unfold K197 at h; split at h; (injection h with h; subst h; rfl); cases h), (ev197 _ _).trans h2⟩
  · cases h
/-! ### G.cmp.Or_int -/
noncomputable def G163 : Env := envNil
noncomputable def c163 : Code := bodyOf Try.f163
noncomputable def c163_3 : Code := (loopsOf c163).getD 0 .skip
noncomputable def G.cmp.Or_int_l0 : Nat → (Int → Int → Option Int) → (Int → Option Int) → Int → Int → Int → List Int → Option Int
  | 0, _, _, _, _, _, _ => none
  | m + 1, e3_0, e3_1, a3, a4, a5, a6 =>
    (bif (decide (a5 < a4)) then
    (bif decide ((0 : Int) ≤ a5 ∧ a5 < (a6.length : Int)) then
    (let v8 : Int := (nthI a6 a5 (0 : Int))
    (bif (v8 != a3) then
    (e3_0 v8 a3)
    else
    (G.cmp.Or_int_l0 m e3_0 e3_1 a3 a4 (IntKind.wrap .i64 (a5 + 1)) a6)))
    else
    none)
    else
    (e3_1 a3))
noncomputable def G.cmp.Or_int (a1 : List Int) : Option Int :=
(G.cmp.Or_int_l0 fu (fun y10 y11 =>
(some y10)) (fun y12 =>
(some y12)) 0 (a1.length : Int) 0 a1)
noncomputable def H163_3 : LoopH := ⟨⟨(hu 3 (hh :: (hu 2 ((.one (.sl 0)) :: hh :: hh :: (hu 9 []))))), [], [(3, (.int .i64), .ro)]⟩, [0, 1, 2, 4, 5, 9, 10, 11, 12, 13, 14, 15, 16, 17], [], [0, 1, 4, 5, 6, 7, 8, 9, 10, 11, 12, 13, 14, 15, 16, 17]⟩
noncomputable def E163_3 (m : Nat) (ps : List Prm) (k : Kont Int) : Option Int :=
  match ps with
  | [.v (.int .i64 a3), .v (.int .i64 a4), .v (.int .i64 a5), .row (.int .i64) a6] => G.cmp.Or_int_l0 m (fun z16 z17 => k .ret (⟨(vu 2 ((vi z16) :: (vi z17) :: (vu 14 []))), [], []⟩ : St)) (fun z18 => k (.exit 0) (⟨(vu 3 ((vi z18) :: (vu 14 []))), [], []⟩ : St)) a3 a4 a5 a6
  | _ => none
noncomputable def S163_3 (a3 a4 a5 : Int) (a6 : List Int) : St := (⟨(vu 3 ((vi a3) :: (vu 2 ((vl 0) :: (vi a4) :: (vi a5) :: (vu 9 []))))), [], [⟨3, (.int .i64), a6, .ro⟩]⟩ : St)
theorem ev163_3 (m : Nat) (k : Kont Int) (a3 a4 a5 : Int) (a6 : List Int) : evC Try.prog G163 loopNil c163_3 (S163_3 a3 a4 a5 a6) (turn Try.prog (0, 0) H163_3 (E163_3 m) k) = E163_3 (m + 1) [.v (.int .i64 a3), .v (.int .i64 a4), .v (.int .i64 a5), .row (.int .i64) a6] k := by kernel_rfl
theorem ok163_3 (m : Nat) : LoopOk Try.prog (0, 0) c163_3 (enter Try.prog (0, 0) H163_3 (E163_3 m)) := by
  refine loop_ok (G := G163) (L := loopNil) envNil_good (by intro x hx; simp [show loopsOf c163_3 = [] from by kernel_rfl] at hx) (fun ps k => by unfold E163_3; split <;> rfl) (fun m ps k r h => ?_) m
  have h0 := h
  unfold E163_3 at h
  split at h
  · exact ⟨S163_3 _ _ _ _, by kernel_rfl, (ev163_3 m k _ _ _ _).trans h0⟩
  · cases h
noncomputable def L163 : LEnv Int := (loopCons 3 (enter Try.prog (0, 0) H163_3 (E163_3 fu)) loopNil)
theorem lq163 : loopsOf c163 = [c163_3] := by kernel_rfl
theorem fr163_3 : firstReg c163_3 = some 3 := by kernel_rfl
theorem le163_3 : L163 3 = enter Try.prog (0, 0) H163_3 (E163_3 fu) := by kernel_rfl
theorem lm163 : ∀ x ∈ [c163_3], ∀ id, firstReg x = some id → LoopOk Try.prog (0, 0) x (L163 id) := (loops_cons fr163_3 le163_3 (ok163_3 fu) loops_nil)
theorem lp163 : ∀ x ∈ loopsOf c163, ∀ id, firstReg x = some id → LoopOk Try.prog (0, 0) x (L163 id) := loops_eq lq163 lm163
noncomputable def R163 (x : Int) : Res := ⟨[.one (ai x)], [], []⟩
noncomputable def K163 (r : Res) : Option Int :=
  match r with
  | ⟨[.one (.val (.int .i64 v1))], [], []⟩ => some (v1)
  | _ => none
noncomputable def E163 : Fun2 := fun args bs rs =>
  match args, bs, rs with
  | [.s1 (.one (.sl 0))], [], [⟨3, (.int .i64), a1, .ro⟩] => some ⟨Int, G.cmp.Or_int a1, R163⟩
  | _, _, _ => none
theorem ev163 (a1 : List Int) : evF Try.prog G163 L163 (0, 0) Try.f163 c163 [vl 0] [] [⟨3, (.int .i64), a1, .ro⟩] K163 = G.cmp.Or_int a1 := by kernel_rfl
theorem good163 : Vm.Good Try.prog 163 E163 := by
  refine evF_good (G := G163) (c := c163) envNil_good Try.func163 (by kernel_rfl) (by kernel_rfl) (0, 0) (fun args bs rs out t h h2 => ?_)
  unfold E163 at h
  split at h
  · injection h with h
    subst h
    exact ⟨rfl, L163, K163, lp163, (fun r t h => by unfold K163 at h; split at h; (injection h with h; subst h; rfl); cases h), (ev163 _).trans h2⟩
  · cases h
/-! ### I.WideCmp -/
noncomputable def G184 : Env := (envCons 164 [] E164 (envCons 197 [] E197 (envCons 163 [] E163 envNil)))
noncomputable def c184 : Code := bodyOf Try.f184
noncomputable def I.WideCmp (a1 a2 a3 a4 : Int) : Option Int :=
(Option.bind (G.cmp.Compare_int a1 a3) fun r5 =>
(Option.bind (G.cmp.Compare_uint64 a2 a4) fun r6 =>
(Option.bind (G.cmp.Or_int [r5, r6]) fun r7 =>
(some r7))))
noncomputable def R184 (x : Int) : Res := ⟨[.one (ai x)], [], []⟩
noncomputable def K184 (r : Res) : Option Int :=
  match r with
  | ⟨[.one (.val (.int .i64 v1))], [], []⟩ => some (v1)
  | _ => none
noncomputable def E184 : Fun2 := fun args bs rs =>
  match args, bs, rs with
  | [.s1 (.agg [.val (.int .i64 a1), .val (.int .u64 a2)]), .s1 (.agg [.val (.int .i64 a3), .val (.int .u64 a4)])], [], [] => some ⟨Int, I.WideCmp a1 a2 a3 a4, R184⟩
  | _, _, _ => none
theorem ev184 (a1 a2 a3 a4 : Int) : evF Try.prog G184 loopNil (0, 0) Try.f184 c184 [.s1 (.agg [ai a1, ak .u64 a2]), .s1 (.agg [ai a3, ak .u64 a4])] [] [] K184 = I.WideCmp a1 a2 a3 a4 := by kernel_rfl
theorem good184 : Vm.Good Try.prog 184 E184 := by
  refine evF_good (G := G184) (c := c184) (envCons_good good164 (envCons_good good197 (envCons_good good163 envNil_good))) Try.func184 (by kernel_rfl) (by kernel_rfl) (0, 0) (fun args bs rs out t h h2 => ?_)
  unfold E184 at h
  split at h
  · injection h with h
    subst h
    exact ⟨rfl, loopNil, K184, (by intro x hx; simp [show loopsOf c184 = [] from by kernel_rfl] at hx), (fun r t h => by unfold K184 at h; split at h; (injection h with h; subst h; rfl); cases h), (ev184 _ _ _ _).trans h2⟩
  · cases h
/-! ### I.isAgg -/
noncomputable def G158 : Env := (envCons 134 [] E134 (envCons 183 [] E183 (envCons 182 [] E182 (envCons 181 [] E181 (envCons 185 [] E185 (envCons 184 [] E184 envNil))))))
noncomputable def c158 : Code := bodyOf Try.f158
noncomputable def c158_7 : Code := (loopsOf c158).getD 0 .skip
noncomputable def I.isAgg_l0 : Nat → (Bool → Int → Int → Int → Int → Int → Int → Int → List Int → Option Bool) → (Int → Int → Int → Int → Int → Int → Int → List Int → Option Bool) → Int → Int → Int → Int → Int → Int → Int → Int → Int → List Int → Option Bool
  | 0, _, _, _, _, _, _, _, _, _, _, _, _ => none
  | m + 1, e7_0, e7_1, a14, a15, a16, a17, a18, a19, a20, a21, a22, a23 =>
    (bif (decide (a15 < a14)) then
    (bif decide ((0 : Int) ≤ a15 ∧ a15 < (a23.length : Int)) then
    (let v25 : Int := (nthI a23 a15 (0 : Int))
    (bif (decide (0 < a15)) then
    (let v27 : Int := (IntKind.wrap .i64 (a15 - 1))
    (bif decide ((0 : Int) ≤ v27 ∧ v27 < (a23.length : Int)) then
    (bif (decide ((nthI a23 v27 (0 : Int)) < v25)) then
    (e7_0 false a16 a17 a18 a19 a20 a21 a22 a23)
    else
    (Option.bind (I.WideOf v25) fun r29 =>
    (Option.bind (I.WideNeg r29.1 r29.2) fun r30 =>
    (Option.bind (I.WideAdd a21 a22 r30.1 r30.2) fun r31 =>
    (I.isAgg_l0 m e7_0 e7_1 a14 (IntKind.wrap .i64 (a15 + 1)) a16 a17 a18 a19 a20 r31.1 r31.2 a23)))))
    else
    none))
    else
    (Option.bind (I.WideOf v25) fun r33 =>
    (Option.bind (I.WideNeg r33.1 r33.2) fun r34 =>
    (Option.bind (I.WideAdd a21 a22 r34.1 r34.2) fun r35 =>
    (I.isAgg_l0 m e7_0 e7_1 a14 (IntKind.wrap .i64 (a15 + 1)) a16 a17 a18 a19 a20 r35.1 r35.2 a23))))))
    else
    none)
    else
    (e7_1 a16 a17 a18 a19 a20 a21 a22 a23))
noncomputable def I.isAgg (a1 a2 a3 a4 a5 : Int) (a6 : List Int) : Option Bool :=
(bif (a1 == 0) then
(bif ((a2 == 0) && ((a3 == 0) && true)) then
(bif (a4 == 0) then
(bif (a5 == 0) then
(some ((a6.length : Int) == 0))
else
(some false))
else
(some false))
else
(some false))
else
(Option.bind (I.in a1 1 1000000) fun r9 =>
(bif (!r9) then
(some false)
else
(bif ((a6.length : Int) != (if 4 < a1 then 4 else a1)) then
(some false)
else
(bif decide ((0 : Int) ≤ 0 ∧ 0 < (a6.length : Int)) then
(bif ((nthI a6 0 (0 : Int)) != a5) then
(some false)
else
(I.isAgg_l0 fu (fun y37 y38 y39 y40 y41 y42 y43 y44 y45 =>
(some y37)) (fun y46 y47 y48 y49 y50 y51 y52 y53 =>
(let v55 : Int := (IntKind.wrap .i64 ((y53.length : Int) - 1))
(bif decide ((0 : Int) ≤ v55 ∧ v55 < (y53.length : Int)) then
(let v56 : Int := (nthI y53 v55 (0 : Int))
(bif (decide (y46 ≤ 4)) then
(bif (y49 == v56) then
(some ((y51 == 0) && ((y52 == 0) && true)))
else
(some false))
else
(let v60 : Int := (IntKind.wrap .i64 ((IntKind.wrap .i64 (y46 - 4)) - 1))
(Option.bind (I.WideOf y49) fun r61 =>
(Option.bind (I.WideNeg r61.1 r61.2) fun r62 =>
(Option.bind (I.WideAdd y51 y52 r62.1 r62.2) fun r63 =>
(bif (decide (y49 ≤ v56)) then
(Option.bind (I.wideTimes y49 v60) fun r65 =>
(Option.bind (I.WideCmp r65.1 r65.2 r63.1 r63.2) fun r66 =>
(bif (decide (r66 ≤ 0)) then
(Option.bind (I.wideTimes v56 v60) fun r68 =>
(Option.bind (I.WideCmp r63.1 r63.2 r68.1 r68.2) fun r69 =>
(some (decide (r69 ≤ 0)))))
else
(some false))))
else
(some false))))))))
else
none))) (a6.length : Int) 0 a1 a2 a3 a4 a5 a2 a3 a6))
else
none)))))
noncomputable def H158_7 : LoopH := ⟨⟨((.one (.unk)) :: (.one (.ptr 0 0)) :: (.one (.unk)) :: (.one (.ptr 1 0)) :: (hu 52 ((.one (.sl 0)) :: hh :: hh :: (hu 73 [])))), [(88, [.hole, .hole, .hole, .hole, .hole, .sl 0]), (86, [.hole, .hole])], [(3, (.int .i64), .ro)]⟩, [0, 2, 4, 5, 6, 7, 8, 9, 10, 11, 12, 13, 14, 15, 16, 17, 18, 19, 20, 21, 22, 23, 24, 25, 26, 27, 28, 29, 30, 31, 32, 33, 34, 35, 36, 37, 38, 39, 40, 41, 42, 43, 44, 45, 46, 47, 48, 49, 50, 51, 52, 53, 54, 55, 59, 60, 61, 62, 63, 64, 65, 66, 67, 68, 69, 70, 71, 72, 73, 74, 75, 76, 77, 78, 79, 80, 81, 82, 83, 84, 85, 86, 87, 88, 89, 90, 91, 92, 93, 94, 95, 96, 97, 98, 99, 100, 101, 102, 103, 104, 105, 106, 107, 108, 109, 110, 111, 112, 113, 114, 115, 116, 117, 118, 119, 120, 121, 122, 123, 124, 125, 126, 127, 128, 129, 130, 131], [], [0, 4, 5, 6, 7, 8, 9, 10, 11, 12, 13, 14, 15, 16, 17, 18, 19, 20, 21, 22, 23, 24, 25, 26, 27, 28, 29, 30, 31, 32, 33, 34, 35, 36, 37, 38, 39, 40, 41, 42, 43, 44, 45, 46, 47, 48, 49, 50, 51, 52, 53, 54, 55, 56, 57, 58, 59, 60, 61, 62, 63, 64, 65, 66, 67, 68, 69, 70, 71, 72, 73, 74, 75, 76, 77, 78, 79, 80, 81, 82, 83, 84, 85, 86, 87, 88, 89, 90, 91, 92, 93, 94, 95, 96, 97, 98, 99, 100, 101, 102, 103, 104, 105, 106, 107, 108, 109, 110, 111, 112, 113, 114, 115, 116, 117, 118, 119, 120, 121, 122, 123, 124, 125, 126, 127, 128, 129, 130, 131]⟩
noncomputable def E158_7 (m : Nat) (ps : List Prm) (k : Kont Bool) : Option Bool :=
  match ps with
  | [.v (.int .i64 a14), .v (.int .i64 a15), .v (.int .i64 a16), .v (.int .i64 a17), .v (.int .u64 a18), .v (.int .i64 a19), .v (.int .i64 a20), .v (.int .i64 a21), .v (.int .u64 a22), .row (.int .i64) a23] => I.isAgg_l0 m (fun z88 z89 z90 z91 z92 z93 z94 z95 z96 => k .ret (⟨((.s1 (.one (.unk))) :: (vp 0 0) :: (vb z88) :: (vp 1 0) :: (vu 128 [])), [(88, [ai z89, ai z90, ak .u64 z91, ai z92, ai z93, .sl 0]), (86, [ai z94, ak .u64 z95])], [⟨3, (.int .i64), z96, .ro⟩]⟩ : St)) (fun z97 z98 z99 z100 z101 z102 z103 z104 => k (.exit 0) (⟨((.s1 (.one (.unk))) :: (vp 0 0) :: (.s1 (.one (.unk))) :: (vp 1 0) :: (vu 128 [])), [(88, [ai z97, ai z98, ak .u64 z99, ai z100, ai z101, .sl 0]), (86, [ai z102, ak .u64 z103])], [⟨3, (.int .i64), z104, .ro⟩]⟩ : St)) a14 a15 a16 a17 a18 a19 a20 a21 a22 a23
  | _ => none
noncomputable def S158_7 (a14 a15 a16 a17 a18 a19 a20 a21 a22 : Int) (a23 : List Int) : St := (⟨((.s1 (.one (.unk))) :: (vp 0 0) :: (.s1 (.one (.unk))) :: (vp 1 0) :: (vu 52 ((vl 0) :: (vi a14) :: (vi a15) :: (vu 73 [])))), [(88, [ai a16, ai a17, ak .u64 a18, ai a19, ai a20, .sl 0]), (86, [ai a21, ak .u64 a22])], [⟨3, (.int .i64), a23, .ro⟩]⟩ : St)
theorem ev158_7 (m : Nat) (k : Kont Bool) (a14 a15 a16 a17 a18 a19 a20 a21 a22 : Int) (a23 : List Int) : evC Try.prog G158 loopNil c158_7 (S158_7 a14 a15 a16 a17 a18 a19 a20 a21 a22 a23) (turn Try.prog (0, 0) H158_7 (E158_7 m) k) = E158_7 (m + 1) [.v (.int .i64 a14), .v (.int .i64 a15), .v (.int .i64 a16), .v (.int .i64 a17), .v (.int .u64 a18), .v (.int .i64 a19), .v (.int .i64 a20), .v (.int .i64 a21), .v (.int .u64 a22), .row (.int .i64) a23] k := by kernel_rfl
theorem ok158_7 (m : Nat) : LoopOk Try.prog (0, 0) c158_7 (enter Try.prog (0, 0) H158_7 (E158_7 m)) := by
  refine loop_ok (G := G158) (L := loopNil) (envCons_good good134 (envCons_good good183 (envCons_good good182 (envCons_good good181 (envCons_good good185 (envCons_good good184 envNil_good)))))) (by intro x hx; simp [show loopsOf c158_7 = [] from by kernel_rfl] at hx) (fun ps k => by unfold E158_7; split <;> rfl) (fun m ps k r h => ?_) m
  have h0 := h
  unfold E158_7 at h
  split at h
  · exact ⟨S158_7 _ _ _ _ _ _ _ _ _ _, by kernel_rfl, (ev158_7 m k _ _ _ _ _ _ _ _ _ _).trans h0⟩
  · cases h
noncomputable def L158 : LEnv Bool := (loopCons 7 (enter Try.prog (0, 0) H158_7 (E158_7 fu)) loopNil)
theorem lq158 : loopsOf c158 = [c158_7] := by kernel_rfl
theorem fr158_7 : firstReg c158_7 = some 7 := by kernel_rfl
theorem le158_7 : L158 7 = enter Try.prog (0, 0) H158_7 (E158_7 fu) := by kernel_rfl
theorem lm158 : ∀ x ∈ [c158_7], ∀ id, firstReg x = some id → LoopOk Try.prog (0, 0) x (L158 id) := (loops_cons fr158_7 le158_7 (ok158_7 fu) loops_nil)
theorem lp158 : ∀ x ∈ loopsOf c158, ∀ id, firstReg x = some id → LoopOk Try.prog (0, 0) x (L158 id) := loops_eq lq158 lm158
noncomputable def R158 (x : Bool) : Res := ⟨[.one (ab x)], [], []⟩
noncomputable def K158 (r : Res) : Option Bool :=
  match r with
  | ⟨[.one (.val (.bool v1))], [], []⟩ => some (v1)
  | _ => none
noncomputable def E158 : Fun2 := fun args bs rs =>
  match args, bs, rs with
  | [.s1 (.agg [.val (.int .i64 a1), .val (.int .i64 a2), .val (.int .u64 a3), .val (.int .i64 a4), .val (.int .i64 a5), .sl 0])], [], [⟨3, (.int .i64), a6, .ro⟩] => some ⟨Bool, I.isAgg a1 a2 a3 a4 a5 a6, R158⟩
  | _, _, _ => none
theorem ev158 (a1 a2 a3 a4 a5 : Int) (a6 : List Int) : evF Try.prog G158 L158 (0, 0) Try.f158 c158 [.s1 (.agg [ai a1, ai a2, ak .u64 a3, ai a4, ai a5, .sl 0])] [] [⟨3, (.int .i64), a6, .ro⟩] K158 = I.isAgg a1 a2 a3 a4 a5 a6 := by kernel_rfl
theorem good158 : Vm.Good Try.prog 158 E158 := by
  refine evF_good (G := G158) (c := c158) (envCons_good good134 (envCons_good good183 (envCons_good good182 (envCons_good good181 (envCons_good good185 (envCons_good good184 envNil_good)))))) Try.func158 (by kernel_rfl) (by kernel_rfl) (0, 0) (fun args bs rs out t h h2 => ?_)
  unfold E158 at h
  split at h
  · injection h with h
    subst h
    exact ⟨rfl, L158, K158, lp158, (fun r t h => by unfold K158 at h; split at h; (injection h with h; subst h; rfl); cases h), (ev158 _ _ _ _ _ _).trans h2⟩
  · cases h
/-! ### I.isCell -/
noncomputable def G102 : Env := (envCons 155 [] E155 (envCons 157 [] E157 (envCons 156 [] E156 (envCons 158 [] E158 envNil))))
noncomputable def c102 : Code := bodyOf Try.f102
noncomputable def I.isCell (a1 a2 a3 a4 a5 a6 a7 a8 a9 a10 : Int) (a11 : List Int) : Option Bool :=
(Option.bind (I.isCellPlace a1 a2 a5) fun r12 =>
(bif r12 then
(Option.bind (I.Cell_win a1 a2 a3 a4 a5 a6 a7 a8 a9 a10 a11) fun r13 =>
(Option.bind (I.isWin r13.1 r13.2) fun r14 =>
(bif r14 then
(Option.bind (I.isAgg a6 a7 a8 a9 a10 a11) fun r15 =>
(bif r15 then
(some (decide (0 < a6)))
else
(some false)))
else
(some false))))
else
(some false)))
noncomputable def R102 (x : Bool) : Res := ⟨[.one (ab x)], [], []⟩
noncomputable def K102 (r : Res) : Option Bool :=
  match r with
  | ⟨[.one (.val (.bool v1))], [], []⟩ => some (v1)
  | _ => none
noncomputable def E102 : Fun2 := fun args bs rs =>
  match args, bs, rs with
  | [.s1 (.agg [.val (.int .i64 a1), .val (.int .i64 a2), .val (.int .i64 a3), .val (.int .i64 a4), .val (.int .i64 a5), .val (.int .i64 a6), .val (.int .i64 a7), .val (.int .u64 a8), .val (.int .i64 a9), .val (.int .i64 a10), .sl 0])], [], [⟨3, (.int .i64), a11, .ro⟩] => some ⟨Bool, I.isCell a1 a2 a3 a4 a5 a6 a7 a8 a9 a10 a11, R102⟩
  | _, _, _ => none
theorem ev102 (a1 a2 a3 a4 a5 a6 a7 a8 a9 a10 : Int) (a11 : List Int) : evF Try.prog G102 loopNil (0, 0) Try.f102 c102 [.s1 (.agg [ai a1, ai a2, ai a3, ai a4, ai a5, ai a6, ai a7, ak .u64 a8, ai a9, ai a10, .sl 0])] [] [⟨3, (.int .i64), a11, .ro⟩] K102 = I.isCell a1 a2 a3 a4 a5 a6 a7 a8 a9 a10 a11 := by kernel_rfl
theorem good102 : Vm.Good Try.prog 102 E102 := by
  refine evF_good (G := G102) (c := c102) (envCons_good good155 (envCons_good good157 (envCons_good good156 (envCons_good good158 envNil_good)))) Try.func102 (by kernel_rfl) (by kernel_rfl) (0, 0) (fun args bs rs out t h h2 => ?_)
  unfold E102 at h
  split at h
  · injection h with h
    subst h
    exact ⟨rfl, loopNil, K102, (by intro x hx; simp [show loopsOf c102 = [] from by kernel_rfl] at hx), (fun r t h => by unfold K102 at h; split at h; (injection h with h; subst h; rfl); cases h), (ev102 _ _ _ _ _ _ _ _ _ _ _).trans h2⟩
  · cases h
/-! ### I.compareSeats -/
noncomputable def G189 : Env := (envCons 164 [] E164 (envCons 163 [] E163 envNil))
noncomputable def c189 : Code := bodyOf Try.f189
noncomputable def I.compareSeats (a1 a2 a3 a4 a5 a6 a7 a8 a9 a10 a11 a12 a13 a14 a15 a16 a17 a18 a19 a20 : Int) (a21 a22 : List Int) : Option Int :=
(Option.bind (G.cmp.Compare_int a1 a11) fun r23 =>
(Option.bind (G.cmp.Compare_int a2 a12) fun r24 =>
(Option.bind (G.cmp.Compare_int a3 a13) fun r25 =>
(Option.bind (G.cmp.Compare_int a4 a14) fun r26 =>
(Option.bind (G.cmp.Or_int [r23, r24, r25, r26]) fun r28 =>
(some r28))))))
noncomputable def R189 (x : Int) : Res := ⟨[.one (ai x)], [], []⟩
noncomputable def K189 (r : Res) : Option Int :=
  match r with
  | ⟨[.one (.val (.int .i64 v1))], [], []⟩ => some (v1)
  | _ => none
noncomputable def E189 : Fun2 := fun args bs rs =>
  match args, bs, rs with
  | [.s1 (.agg [.val (.int .i64 a1), .val (.int .i64 a2), .val (.int .i64 a3), .val (.int .i64 a4), .val (.int .i64 a5), .val (.int .i64 a6), .val (.int .i64 a7), .val (.int .u64 a8), .val (.int .i64 a9), .val (.int .i64 a10), .sl 0]), .s1 (.agg [.val (.int .i64 a11), .val (.int .i64 a12), .val (.int .i64 a13), .val (.int .i64 a14), .val (.int .i64 a15), .val (.int .i64 a16), .val (.int .i64 a17), .val (.int .u64 a18), .val (.int .i64 a19), .val (.int .i64 a20), .sl 1])], [], [⟨3, (.int .i64), a21, .ro⟩, ⟨3, (.int .i64), a22, .ro⟩] => some ⟨Int, I.compareSeats a1 a2 a3 a4 a5 a6 a7 a8 a9 a10 a11 a12 a13 a14 a15 a16 a17 a18 a19 a20 a21 a22, R189⟩
  | _, _, _ => none
theorem ev189 (a1 a2 a3 a4 a5 a6 a7 a8 a9 a10 a11 a12 a13 a14 a15 a16 a17 a18 a19 a20 : Int) (a21 a22 : List Int) : evF Try.prog G189 loopNil (0, 0) Try.f189 c189 [.s1 (.agg [ai a1, ai a2, ai a3, ai a4, ai a5, ai a6, ai a7, ak .u64 a8, ai a9, ai a10, .sl 0]), .s1 (.agg [ai a11, ai a12, ai a13, ai a14, ai a15, ai a16, ai a17, ak .u64 a18, ai a19, ai a20, .sl 1])] [] [⟨3, (.int .i64), a21, .ro⟩, ⟨3, (.int .i64), a22, .ro⟩] K189 = I.compareSeats a1 a2 a3 a4 a5 a6 a7 a8 a9 a10 a11 a12 a13 a14 a15 a16 a17 a18 a19 a20 a21 a22 := by kernel_rfl
theorem good189 : Vm.Good Try.prog 189 E189 := by
  refine evF_good (G := G189) (c := c189) (envCons_good good164 (envCons_good good163 envNil_good)) Try.func189 (by kernel_rfl) (by kernel_rfl) (0, 0) (fun args bs rs out t h h2 => ?_)
  unfold E189 at h
  split at h
  · injection h with h
    subst h
    exact ⟨rfl, loopNil, K189, (by intro x hx; simp [show loopsOf c189 = [] from by kernel_rfl] at hx), (fun r t h => by unfold K189 at h; split at h; (injection h with h; subst h; rfl); cases h), (ev189 _ _ _ _ _ _ _ _ _ _ _ _ _ _ _ _ _ _ _ _ _ _).trans h2⟩
  · cases h
/-! ### I.compareCells -/
noncomputable def G165 : Env := (envCons 189 [] E189 (envCons 164 [] E164 (envCons 163 [] E163 envNil)))
noncomputable def c165 : Code := bodyOf Try.f165
noncomputable def I.compareCells (a1 a2 a3 a4 a5 a6 a7 a8 a9 a10 a11 a12 a13 a14 a15 a16 a17 a18 a19 a20 : Int) (a21 a22 : List Int) : Option Int :=
(Option.bind (I.compareSeats a1 a2 a3 a4 a5 a6 a7 a8 a9 a10 a11 a12 a13 a14 a15 a16 a17 a18 a19 a20 a21 a22) fun r23 =>
(Option.bind (G.cmp.Compare_int a5 a15) fun r24 =>
(Option.bind (G.cmp.Or_int [r23, r24]) fun r25 =>
(some r25))))
noncomputable def R165 (x : Int) : Res := ⟨[.one (ai x)], [], []⟩
noncomputable def K165 (r : Res) : Option Int :=
  match r with
  | ⟨[.one (.val (.int .i64 v1))], [], []⟩ => some (v1)
  | _ => none
noncomputable def E165 : Fun2 := fun args bs rs =>
  match args, bs, rs with
  | [.s1 (.agg [.val (.int .i64 a1), .val (.int .i64 a2), .val (.int .i64 a3), .val (.int .i64 a4), .val (.int .i64 a5), .val (.int .i64 a6), .val (.int .i64 a7), .val (.int .u64 a8), .val (.int .i64 a9), .val (.int .i64 a10), .sl 0]), .s1 (.agg [.val (.int .i64 a11), .val (.int .i64 a12), .val (.int .i64 a13), .val (.int .i64 a14), .val (.int .i64 a15), .val (.int .i64 a16), .val (.int .i64 a17), .val (.int .u64 a18), .val (.int .i64 a19), .val (.int .i64 a20), .sl 1])], [], [⟨3, (.int .i64), a21, .ro⟩, ⟨3, (.int .i64), a22, .ro⟩] => some ⟨Int, I.compareCells a1 a2 a3 a4 a5 a6 a7 a8 a9 a10 a11 a12 a13 a14 a15 a16 a17 a18 a19 a20 a21 a22, R165⟩
  | _, _, _ => none
theorem ev165 (a1 a2 a3 a4 a5 a6 a7 a8 a9 a10 a11 a12 a13 a14 a15 a16 a17 a18 a19 a20 : Int) (a21 a22 : List Int) : evF Try.prog G165 loopNil (0, 0) Try.f165 c165 [.s1 (.agg [ai a1, ai a2, ai a3, ai a4, ai a5, ai a6, ai a7, ak .u64 a8, ai a9, ai a10, .sl 0]), .s1 (.agg [ai a11, ai a12, ai a13, ai a14, ai a15, ai a16, ai a17, ak .u64 a18, ai a19, ai a20, .sl 1])] [] [⟨3, (.int .i64), a21, .ro⟩, ⟨3, (.int .i64), a22, .ro⟩] K165 = I.compareCells a1 a2 a3 a4 a5 a6 a7 a8 a9 a10 a11 a12 a13 a14 a15 a16 a17 a18 a19 a20 a21 a22 := by kernel_rfl
theorem good165 : Vm.Good Try.prog 165 E165 := by
  refine evF_good (G := G165) (c := c165) (envCons_good good189 (envCons_good good164 (envCons_good good163 envNil_good))) Try.func165 (by kernel_rfl) (by kernel_rfl) (0, 0) (fun args bs rs out t h h2 => ?_)
  unfold E165 at h
  split at h
  · injection h with h
    subst h
    exact ⟨rfl, loopNil, K165, (by intro x hx; simp [show loopsOf c165 = [] from by kernel_rfl] at hx), (fun r t h => by unfold K165 at h; split at h; (injection h with h; subst h; rfl); cases h), (ev165 _ _ _ _ _ _ _ _ _ _ _ _ _ _ _ _ _ _ _ _ _ _).trans h2⟩
  · cases h
/-! ### I.areCells -/
noncomputable def G116 : Env := (envCons 102 [] E102 (envCons 165 [] E165 envNil))
noncomputable def c116 : Code := bodyOf Try.f116
noncomputable def c116_2 : Code := (loopsOf c116).getD 0 .skip
noncomputable def I.areCells_l0 : Nat → (Bool → (List (Int × Int × Int × Int × Int × Int × (Int × Int) × Int × Int × List Int)) → Option Bool) → ((List (Int × Int × Int × Int × Int × Int × (Int × Int) × Int × Int × List Int)) → Option Bool) → Int → Int → (List (Int × Int × Int × Int × Int × Int × (Int × Int) × Int × Int × List Int)) → Option Bool
  | 0, _, _, _, _, _ => none
  | m + 1, e2_0, e2_1, a3, a4, a5 =>
    (bif (decide (a4 < a3)) then
    (bif decide ((0 : Int) ≤ a4 ∧ a4 < (a5.length : Int)) then
    (Option.bind (I.isCell ((nthI a5 a4 ((0 : Int), ((0 : Int), ((0 : Int), ((0 : Int), ((0 : Int), ((0 : Int), (((0 : Int), (0 : Int)), ((0 : Int), ((0 : Int), [])))))))))).1) ((nthI a5 a4 ((0 : Int), ((0 : Int), ((0 : Int), ((0 : Int), ((0 : Int), ((0 : Int), (((0 : Int), (0 : Int)), ((0 : Int), ((0 : Int), [])))))))))).2.1) ((nthI a5 a4 ((0 : Int), ((0 : Int), ((0 : Int), ((0 : Int), ((0 : Int), ((0 : Int), (((0 : Int), (0 : Int)), ((0 : Int), ((0 : Int), [])))))))))).2.2.1) ((nthI a5 a4 ((0 : Int), ((0 : Int), ((0 : Int), ((0 : Int), ((0 : Int), ((0 : Int), (((0 : Int), (0 : Int)), ((0 : Int), ((0 : Int), [])))))))))).2.2.2.1) ((nthI a5 a4 ((0 : Int), ((0 : Int), ((0 : Int), ((0 : Int), ((0 : Int), ((0 : Int), (((0 : Int), (0 : Int)), ((0 : Int), ((0 : Int), [])))))))))).2.2.2.2.1) ((nthI a5 a4 ((0 : Int), ((0 : Int), ((0 : Int), ((0 : Int), ((0 : Int), ((0 : Int), (((0 : Int), (0 : Int)), ((0 : Int), ((0 : Int), [])))))))))).2.2.2.2.2.1) ((nthI a5 a4 ((0 : Int), ((0 : Int), ((0 : Int), ((0 : Int), ((0 : Int), ((0 : Int), (((0 : Int), (0 : Int)), ((0 : Int), ((0 : Int), [])))))))))).2.2.2.2.2.2.1.1) ((nthI a5 a4 ((0 : Int), ((0 : Int), ((0 : Int), ((0 : Int), ((0 : Int), ((0 : Int), (((0 : Int), (0 : Int)), ((0 : Int), ((0 : Int), [])))))))))).2.2.2.2.2.2.1.2) ((nthI a5 a4 ((0 : Int), ((0 : Int), ((0 : Int), ((0 : Int), ((0 : Int), ((0 : Int), (((0 : Int), (0 : Int)), ((0 : Int), ((0 : Int), [])))))))))).2.2.2.2.2.2.2.1) ((nthI a5 a4 ((0 : Int), ((0 : Int), ((0 : Int), ((0 : Int), ((0 : Int), ((0 : Int), (((0 : Int), (0 : Int)), ((0 : Int), ((0 : Int), [])))))))))).2.2.2.2.2.2.2.2.1) ((nthI a5 a4 ((0 : Int), ((0 : Int), ((0 : Int), ((0 : Int), ((0 : Int), ((0 : Int), (((0 : Int), (0 : Int)), ((0 : Int), ((0 : Int), [])))))))))).2.2.2.2.2.2.2.2.2)) fun r7 =>
    (bif (!r7) then
    (e2_0 false a5)
    else
    (bif (decide (0 < a4)) then
    (let v9 : Int := (IntKind.wrap .i64 (a4 - 1))
    (bif decide ((0 : Int) ≤ v9 ∧ v9 < (a5.length : Int)) then
    (Option.bind (I.compareCells ((nthI a5 v9 ((0 : Int), ((0 : Int), ((0 : Int), ((0 : Int), ((0 : Int), ((0 : Int), (((0 : Int), (0 : Int)), ((0 : Int), ((0 : Int), [])))))))))).1) ((nthI a5 v9 ((0 : Int), ((0 : Int), ((0 : Int), ((0 : Int), ((0 : Int), ((0 : Int), (((0 : Int), (0 : Int)), ((0 : Int), ((0 : Int), [])))))))))).2.1) ((nthI a5 v9 ((0 : Int), ((0 : Int), ((0 : Int), ((0 : Int), ((0 : Int), ((0 : Int), (((0 : Int), (0 : Int)), ((0 : Int), ((0 : Int), [])))))))))).2.2.1) ((nthI a5 v9 ((0 : Int), ((0 : Int), ((0 : Int), ((0 : Int), ((0 : Int), ((0 : Int), (((0 : Int), (0 : Int)), ((0 : Int), ((0 : Int), [])))))))))).2.2.2.1) ((nthI a5 v9 ((0 : Int), ((0 : Int), ((0 : Int), ((0 : Int), ((0 : Int), ((0 : Int), (((0 : Int), (0 : Int)), ((0 : Int), ((0 : Int), [])))))))))).2.2.2.2.1) ((nthI a5 v9 ((0 : Int), ((0 : Int), ((0 : Int), ((0 : Int), ((0 : Int), ((0 : Int), (((0 : Int), (0 : Int)), ((0 : Int), ((0 : Int), [])))))))))).2.2.2.2.2.1) ((nthI a5 v9 ((0 : Int), ((0 : Int), ((0 : Int), ((0 : Int), ((0 : Int), ((0 : Int), (((0 : Int), (0 : Int)), ((0 : Int), ((0 : Int), [])))))))))).2.2.2.2.2.2.1.1) ((nthI a5 v9 ((0 : Int), ((0 : Int), ((0 : Int), ((0 : Int), ((0 : Int), ((0 : Int), (((0 : Int), (0 : Int)), ((0 : Int), ((0 : Int), [])))))))))).2.2.2.2.2.2.1.2) ((nthI a5 v9 ((0 : Int), ((0 : Int), ((0 : Int), ((0 : Int), ((0 : Int), ((0 : Int), (((0 : Int), (0 : Int)), ((0 : Int), ((0 : Int), [])))))))))).2.2.2.2.2.2.2.1) ((nthI a5 v9 ((0 : Int), ((0 : Int), ((0 : Int), ((0 : Int), ((0 : Int), ((0 : Int), (((0 : Int), (0 : Int)), ((0 : Int), ((0 : Int), [])))))))))).2.2.2.2.2.2.2.2.1) ((nthI a5 a4 ((0 : Int), ((0 : Int), ((0 : Int), ((0 : Int), ((0 : Int), ((0 : Int), (((0 : Int), (0 : Int)), ((0 : Int), ((0 : Int), [])))))))))).1) ((nthI a5 a4 ((0 : Int), ((0 : Int), ((0 : Int), ((0 : Int), ((0 : Int), ((0 : Int), (((0 : Int), (0 : Int)), ((0 : Int), ((0 : Int), [])))))))))).2.1) ((nthI a5 a4 ((0 : Int), ((0 : Int), ((0 : Int), ((0 : Int), ((0 : Int), ((0 : Int), (((0 : Int), (0 : Int)), ((0 : Int), ((0 : Int), [])))))))))).2.2.1) ((nthI a5 a4 ((0 : Int), ((0 : Int), ((0 : Int), ((0 : Int), ((0 : Int), ((0 : Int), (((0 : Int), (0 : Int)), ((0 : Int), ((0 : Int), [])))))))))).2.2.2.1) ((nthI a5 a4 ((0 : Int), ((0 : Int), ((0 : Int), ((0 : Int), ((0 : Int), ((0 : Int), (((0 : Int), (0 : Int)), ((0 : Int), ((0 : Int), [])))))))))).2.2.2.2.1) ((nthI a5 a4 ((0 : Int), ((0 : Int), ((0 : Int), ((0 : Int), ((0 : Int), ((0 : Int), (((0 : Int), (0 : Int)), ((0 : Int), ((0 : Int), [])))))))))).2.2.2.2.2.1) ((nthI a5 a4 ((0 : Int), ((0 : Int), ((0 : Int), ((0 : Int), ((0 : Int), ((0 : Int), (((0 : Int), (0 : Int)), ((0 : Int), ((0 : Int), [])))))))))).2.2.2.2.2.2.1.1) ((nthI a5 a4 ((0 : Int), ((0 : Int), ((0 : Int), ((0 : Int), ((0 : Int), ((0 : Int), (((0 : Int), (0 : Int)), ((0 : Int), ((0 : Int), [])))))))))).2.2.2.2.2.2.1.2) ((nthI a5 a4 ((0 : Int), ((0 : Int), ((0 : Int), ((0 : Int), ((0 : Int), ((0 : Int), (((0 : Int), (0 : Int)), ((0 : Int), ((0 : Int), [])))))))))).2.2.2.2.2.2.2.1) ((nthI a5 a4 ((0 : Int), ((0 : Int), ((0 : Int), ((0 : Int), ((0 : Int), ((0 : Int), (((0 : Int), (0 : Int)), ((0 : Int), ((0 : Int), [])))))))))).2.2.2.2.2.2.2.2.1) ((nthI a5 v9 ((0 : Int), ((0 : Int), ((0 : Int), ((0 : Int), ((0 : Int), ((0 : Int), (((0 : Int), (0 : Int)), ((0 : Int), ((0 : Int), [])))))))))).2.2.2.2.2.2.2.2.2) ((nthI a5 a4 ((0 : Int), ((0 : Int), ((0 : Int), ((0 : Int), ((0 : Int), ((0 : Int), (((0 : Int), (0 : Int)), ((0 : Int), ((0 : Int), [])))))))))).2.2.2.2.2.2.2.2.2)) fun r10 =>
    (bif (decide (0 ≤ r10)) then
    (e2_0 false a5)
    else
    (I.areCells_l0 m e2_0 e2_1 a3 (IntKind.wrap .i64 (a4 + 1)) a5)))
    else
    none))
    else
    (I.areCells_l0 m e2_0 e2_1 a3 (IntKind.wrap .i64 (a4 + 1)) a5))))
    else
    none)
    else
    (e2_1 a5))
noncomputable def I.areCells (a1 : List (Int × Int × Int × Int × Int × Int × (Int × Int) × Int × Int × List Int)) : Option Bool :=
(I.areCells_l0 fu (fun y14 y15 =>
(some y14)) (fun y16 =>
(some (decide ((y16.length : Int) ≤ 10000)))) (a1.length : Int) 0 a1)
noncomputable def H116_2 : LoopH := ⟨⟨((.one (.sl 0)) :: (hu 4 ((.one (.sl 0)) :: hh :: hh :: (hu 25 [])))), [], [(90, (.pair (.int .i64) (.pair (.int .i64) (.pair (.int .i64) (.pair (.int .i64) (.pair (.int .i64) (.pair (.int .i64) (.pair (.pair (.int .i64) (.int .u64)) (.pair (.int .i64) (.pair (.int .i64) (.sl 3 (.int .i64))))))))))), .ro)]⟩, [1, 2, 3, 4, 8, 9, 10, 11, 12, 13, 14, 15, 16, 17, 18, 19, 20, 21, 22, 23, 24, 25, 26, 27, 28, 29, 30, 31, 32], [], [1, 3, 4, 5, 6, 7, 8, 9, 10, 11, 12, 13, 14, 15, 16, 17, 18, 19, 20, 21, 22, 23, 24, 25, 26, 27, 28, 29, 30, 31, 32]⟩
noncomputable def E116_2 (m : Nat) (ps : List Prm) (k : Kont Bool) : Option Bool :=
  match ps with
  | [.v (.int .i64 a3), .v (.int .i64 a4), .row (.pair (.int .i64) (.pair (.int .i64) (.pair (.int .i64) (.pair (.int .i64) (.pair (.int .i64) (.pair (.int .i64) (.pair (.pair (.int .i64) (.int .u64)) (.pair (.int .i64) (.pair (.int .i64) (.sl 3 (.int .i64))))))))))) a5] => I.areCells_l0 m (fun z22 z23 => k .ret (⟨((vl 0) :: (.s1 (.one (.unk))) :: (vb z22) :: (vu 30 [])), [], [⟨90, (.pair (.int .i64) (.pair (.int .i64) (.pair (.int .i64) (.pair (.int .i64) (.pair (.int .i64) (.pair (.int .i64) (.pair (.pair (.int .i64) (.int .u64)) (.pair (.int .i64) (.pair (.int .i64) (.sl 3 (.int .i64))))))))))), z23, .ro⟩]⟩ : St)) (fun z24 => k (.exit 0) (⟨((vl 0) :: (vu 32 [])), [], [⟨90, (.pair (.int .i64) (.pair (.int .i64) (.pair (.int .i64) (.pair (.int .i64) (.pair (.int .i64) (.pair (.int .i64) (.pair (.pair (.int .i64) (.int .u64)) (.pair (.int .i64) (.pair (.int .i64) (.sl 3 (.int .i64))))))))))), z24, .ro⟩]⟩ : St)) a3 a4 a5
  | _ => none
noncomputable def S116_2 (a3 a4 : Int) (a5 : List (Int × Int × Int × Int × Int × Int × (Int × Int) × Int × Int × List Int)) : St := (⟨((vl 0) :: (vu 4 ((vl 0) :: (vi a3) :: (vi a4) :: (vu 25 [])))), [], [⟨90, (.pair (.int .i64) (.pair (.int .i64) (.pair (.int .i64) (.pair (.int .i64) (.pair (.int .i64) (.pair (.int .i64) (.pair (.pair (.int .i64) (.int .u64)) (.pair (.int .i64) (.pair (.int .i64) (.sl 3 (.int .i64))))))))))), a5, .ro⟩]⟩ : St)
theorem ev116_2 (m : Nat) (k : Kont Bool) (a3 a4 : Int) (a5 : List (Int × Int × Int × Int × Int × Int × (Int × Int) × Int × Int × List Int)) : evC Try.prog G116 loopNil c116_2 (S116_2 a3 a4 a5) (turn Try.prog (0, 0) H116_2 (E116_2 m) k) = E116_2 (m + 1) [.v (.int .i64 a3), .v (.int .i64 a4), .row (.pair (.int .i64) (.pair (.int .i64) (.pair (.int .i64) (.pair (.int .i64) (.pair (.int .i64) (.pair (.int .i64) (.pair (.pair (.int .i64) (.int .u64)) (.pair (.int .i64) (.pair (.int .i64) (.sl 3 (.int .i64))))))))))) a5] k := by kernel_rfl
theorem ok116_2 (m : Nat) : LoopOk Try.prog (0, 0) c116_2 (enter Try.prog (0, 0) H116_2 (E116_2 m)) := by
  refine loop_ok (G := G116) (L := loopNil) (envCons_good good102 (envCons_good good165 envNil_good)) (by intro x hx; simp [show loopsOf c116_2 = [] from by kernel_rfl] at hx) (fun ps k => by unfold E116_2; split <;> rfl) (fun m ps k r h => ?_) m
  have h0 := h
  unfold E116_2 at h
  split at h
  · exact ⟨S116_2 _ _ _, by kernel_rfl, (ev116_2 m k _ _ _).trans h0⟩
  · cases h
noncomputable def L116 : LEnv Bool := (loopCons 2 (enter Try.prog (0, 0) H116_2 (E116_2 fu)) loopNil)
theorem lq116 : loopsOf c116 = [c116_2] := by kernel_rfl
theorem fr116_2 : firstReg c116_2 = some 2 := by kernel_rfl
theorem le116_2 : L116 2 = enter Try.prog (0, 0) H116_2 (E116_2 fu) := by kernel_rfl
theorem lm116 : ∀ x ∈ [c116_2], ∀ id, firstReg x = some id → LoopOk Try.prog (0, 0) x (L116 id) := (loops_cons fr116_2 le116_2 (ok116_2 fu) loops_nil)
theorem lp116 : ∀ x ∈ loopsOf c116, ∀ id, firstReg x = some id → LoopOk Try.prog (0, 0) x (L116 id) := loops_eq lq116 lm116
noncomputable def R116 (x : Bool) : Res := ⟨[.one (ab x)], [], []⟩
noncomputable def K116 (r : Res) : Option Bool :=
  match r with
  | ⟨[.one (.val (.bool v1))], [], []⟩ => some (v1)
  | _ => none
noncomputable def E116 : Fun2 := fun args bs rs =>
  match args, bs, rs with
  | [.s1 (.one (.sl 0))], [], [⟨90, (.pair (.int .i64) (.pair (.int .i64) (.pair (.int .i64) (.pair (.int .i64) (.pair (.int .i64) (.pair (.int .i64) (.pair (.pair (.int .i64) (.int .u64)) (.pair (.int .i64) (.pair (.int .i64) (.sl 3 (.int .i64))))))))))), a1, .ro⟩] => some ⟨Bool, I.areCells a1, R116⟩
  | _, _, _ => none
theorem ev116 (a1 : List (Int × Int × Int × Int × Int × Int × (Int × Int) × Int × Int × List Int)) : evF Try.prog G116 L116 (0, 0) Try.f116 c116 [vl 0] [] [⟨90, (.pair (.int .i64) (.pair (.int .i64) (.pair (.int .i64) (.pair (.int .i64) (.pair (.int .i64) (.pair (.int .i64) (.pair (.pair (.int .i64) (.int .u64)) (.pair (.int .i64) (.pair (.int .i64) (.sl 3 (.int .i64))))))))))), a1, .ro⟩] K116 = I.areCells a1 := by kernel_rfl
theorem good116 : Vm.Good Try.prog 116 E116 := by
  refine evF_good (G := G116) (c := c116) (envCons_good good102 (envCons_good good165 envNil_good)) Try.func116 (by kernel_rfl) (by kernel_rfl) (0, 0) (fun args bs rs out t h h2 => ?_)
  unfold E116 at h
  split at h
  · injection h with h
    subst h
    exact ⟨rfl, L116, K116, lp116, (fun r t h => by unfold K116 at h; split at h; (injection h with h; subst h; rfl); cases h), (ev116 _).trans h2⟩
  · cases h
/-! ### I.CellsOk -/
noncomputable def G58 : Env := (envCons 116 [] E116 envNil)
noncomputable def c58 : Code := bodyOf Try.f58
noncomputable def I.CellsOk (a1 : List (Int × Int × Int × Int × Int × Int × (Int × Int) × Int × Int × List Int)) : Option Bool :=
(Option.bind (I.areCells a1) fun r2 =>
(some r2))
noncomputable def R58 (x : Bool) : Res := ⟨[.one (ab x)], [], []⟩
noncomputable def K58 (r : Res) : Option Bool :=
  match r with
  | ⟨[.one (.val (.bool v1))], [], []⟩ => some (v1)
  | _ => none
noncomputable def E58 : Fun2 := fun args bs rs =>
  match args, bs, rs with
  | [.s1 (.one (.sl 0))], [], [⟨90, (.pair (.int .i64) (.pair (.int .i64) (.pair (.int .i64) (.pair (.int .i64) (.pair (.int .i64) (.pair (.int .i64) (.pair (.pair (.int .i64) (.int .u64)) (.pair (.int .i64) (.pair (.int .i64) (.sl 3 (.int .i64))))))))))), a1, .ro⟩] => some ⟨Bool, I.CellsOk a1, R58⟩
  | _, _, _ => none
theorem ev58 (a1 : List (Int × Int × Int × Int × Int × Int × (Int × Int) × Int × Int × List Int)) : evF Try.prog G58 loopNil (0, 0) Try.f58 c58 [vl 0] [] [⟨90, (.pair (.int .i64) (.pair (.int .i64) (.pair (.int .i64) (.pair (.int .i64) (.pair (.int .i64) (.pair (.int .i64) (.pair (.pair (.int .i64) (.int .u64)) (.pair (.int .i64) (.pair (.int .i64) (.sl 3 (.int .i64))))))))))), a1, .ro⟩] K58 = I.CellsOk a1 := by kernel_rfl
theorem good58 : Vm.Good Try.prog 58 E58 := by
  refine evF_good (G := G58) (c := c58) (envCons_good good116 envNil_good) Try.func58 (by kernel_rfl) (by kernel_rfl) (0, 0) (fun args bs rs out t h h2 => ?_)
  unfold E58 at h
  split at h
  · injection h with h
    subst h
    exact ⟨rfl, loopNil, K58, (by intro x hx; simp [show loopsOf c58 = [] from by kernel_rfl] at hx), (fun r t h => by unfold K58 at h; split at h; (injection h with h; subst h; rfl); cases h), (ev58 _).trans h2⟩
  · cases h
/-! ### L.eqWide -/
noncomputable def G159 : Env := envNil
noncomputable def c159 : Code := bodyOf Try.f159
noncomputable def L.eqWide (a1 a2 a3 a4 : Int) : Option Bool :=
(bif (a1 != a3) then
(some false)
else
(bif (a2 != a4) then
(some false)
else
(some true)))
noncomputable def R159 (x : Bool) : Res := ⟨[.one (ab x)], [], []⟩
noncomputable def K159 (r : Res) : Option Bool :=
  match r with
  | ⟨[.one (.val (.bool v1))], [], []⟩ => some (v1)
  | _ => none
noncomputable def E159 : Fun2 := fun args bs rs =>
  match args, bs, rs with
  | [.s1 (.agg [.val (.int .i64 a1), .val (.int .u64 a2)]), .s1 (.agg [.val (.int .i64 a3), .val (.int .u64 a4)])], [], [] => some ⟨Bool, L.eqWide a1 a2 a3 a4, R159⟩
  | _, _, _ => none
theorem ev159 (a1 a2 a3 a4 : Int) : evF Try.prog G159 loopNil (0, 0) Try.f159 c159 [.s1 (.agg [ai a1, ak .u64 a2]), .s1 (.agg [ai a3, ak .u64 a4])] [] [] K159 = L.eqWide a1 a2 a3 a4 := by kernel_rfl
theorem good159 : Vm.Good Try.prog 159 E159 := by
  refine evF_good (G := G159) (c := c159) envNil_good Try.func159 (by kernel_rfl) (by kernel_rfl) (0, 0) (fun args bs rs out t h h2 => ?_)
  unfold E159 at h
  split at h
  · injection h with h
    subst h
    exact ⟨rfl, loopNil, K159, (by intro x hx; simp [show loopsOf c159 = [] from by kernel_rfl] at hx), (fun r t h => by unfold K159 at h; split at h; (injection h with h; subst h; rfl); cases h), (ev159 _ _ _ _).trans h2⟩
  · cases h
/-! ### L.eqIntS -/
noncomputable def G160 : Env := envNil
noncomputable def c160 : Code := bodyOf Try.f160
noncomputable def c160_4 : Code := (loopsOf c160).getD 0 .skip
noncomputable def L.eqIntS_l0 : Nat → (Bool → Option Bool) → (Option Bool) → Int → List Int → List Int → Option Bool
  | 0, _, _, _, _, _ => none
  | m + 1, e4_0, e4_1, a5, a6, a7 =>
    (bif (decide (a5 < (a6.length : Int))) then
    (bif decide ((0 : Int) ≤ a5 ∧ a5 < (a6.length : Int)) then
    (bif decide ((0 : Int) ≤ a5 ∧ a5 < (a7.length : Int)) then
    (bif ((nthI a6 a5 (0 : Int)) != (nthI a7 a5 (0 : Int))) then
    (e4_0 false)
    else
    (L.eqIntS_l0 m e4_0 e4_1 (IntKind.wrap .i64 (a5 + 1)) a6 a7))
    else
    none)
    else
    none)
    else
    e4_1)
noncomputable def L.eqIntS (a1 a2 : List Int) : Option Bool :=
(bif ((a1.length : Int) != (a2.length : Int)) then
(some false)
else
(L.eqIntS_l0 fu (fun y12 =>
(some y12)) (some true) 0 a1 a2))
noncomputable def H160_4 : LoopH := ⟨⟨((.one (.sl 0)) :: (.one (.sl 1)) :: (hu 3 (hh :: (hu 20 [])))), [], [(3, (.int .i64), .ro), (3, (.int .i64), .ro)]⟩, [2, 3, 4, 6, 7, 8, 9, 10, 11, 12, 13, 14, 15, 16, 17, 18, 19, 20, 21, 22, 23, 24, 25], [], [0, 1, 2, 3, 5, 6, 7, 8, 9, 10, 11, 12, 13, 14, 15, 16, 17, 18, 19, 20, 21, 22, 23, 24, 25]⟩
noncomputable def E160_4 (m : Nat) (ps : List Prm) (k : Kont Bool) : Option Bool :=
  match ps with
  | [.v (.int .i64 a5), .row (.int .i64) a6, .row (.int .i64) a7] => L.eqIntS_l0 m (fun z14 => k .ret (⟨(vu 4 ((vb z14) :: (vu 21 []))), [], []⟩ : St)) (k (.exit 0) (⟨(vu 26 []), [], []⟩ : St)) a5 a6 a7
  | _ => none
noncomputable def S160_4 (a5 : Int) (a6 a7 : List Int) : St := (⟨((vl 0) :: (vl 1) :: (vu 3 ((vi a5) :: (vu 20 [])))), [], [⟨3, (.int .i64), a6, .ro⟩, ⟨3, (.int .i64), a7, .ro⟩]⟩ : St)
theorem ev160_4 (m : Nat) (k : Kont Bool) (a5 : Int) (a6 a7 : List Int) : evC Try.prog G160 loopNil c160_4 (S160_4 a5 a6 a7) (turn Try.prog (0, 0) H160_4 (E160_4 m) k) = E160_4 (m + 1) [.v (.int .i64 a5), .row (.int .i64) a6, .row (.int .i64) a7] k := by kernel_rfl
theorem ok160_4 (m : Nat) : LoopOk Try.prog (0, 0) c160_4 (enter Try.prog (0, 0) H160_4 (E160_4 m)) := by
  refine loop_ok (G := G160) (L := loopNil) envNil_good (by intro x hx; simp [show loopsOf c160_4 = [] from by kernel_rfl] at hx) (fun ps k => by unfold E160_4; split <;> rfl) (fun m ps k r h => ?_) m
  have h0 := h
  unfold E160_4 at h
  split at h
  · exact ⟨S160_4 _ _ _, by kernel_rfl, (ev160_4 m k _ _ _).trans h0⟩
  · cases h
noncomputable def L160 : LEnv Bool := (loopCons 4 (enter Try.prog (0, 0) H160_4 (E160_4 fu)) loopNil)
theorem lq160 : loopsOf c160 = [c160_4] := by kernel_rfl
theorem fr160_4 : firstReg c160_4 = some 4 := by kernel_rfl
theorem le160_4 : L160 4 = enter Try.prog (0, 0) H160_4 (E160_4 fu) := by kernel_rfl
theorem lm160 : ∀ x ∈ [c160_4], ∀ id, firstReg x = some id → LoopOk Try.prog (0, 0) x (L160 id) := (loops_cons fr160_4 le160_4 (ok160_4 fu) loops_nil)
theorem lp160 : ∀ x ∈ loopsOf c160, ∀ id, firstReg x = some id → LoopOk Try.prog (0, 0) x (L160 id) := loops_eq lq160 lm160
noncomputable def R160 (x : Bool) : Res := ⟨[.one (ab x)], [], []⟩
noncomputable def K160 (r : Res) : Option Bool :=
  match r with
  | ⟨[.one (.val (.bool v1))], [], []⟩ => some (v1)
  | _ => none
noncomputable def E160 : Fun2 := fun args bs rs =>
  match args, bs, rs with
  | [.s1 (.one (.sl 0)), .s1 (.one (.sl 1))], [], [⟨3, (.int .i64), a1, .ro⟩, ⟨3, (.int .i64), a2, .ro⟩] => some ⟨Bool, L.eqIntS a1 a2, R160⟩
  | _, _, _ => none
theorem ev160 (a1 a2 : List Int) : evF Try.prog G160 L160 (0, 0) Try.f160 c160 [vl 0, vl 1] [] [⟨3, (.int .i64), a1, .ro⟩, ⟨3, (.int .i64), a2, .ro⟩] K160 = L.eqIntS a1 a2 := by kernel_rfl
theorem good160 : Vm.Good Try.prog 160 E160 := by
  refine evF_good (G := G160) (c := c160) envNil_good Try.func160 (by kernel_rfl) (by kernel_rfl) (0, 0) (fun args bs rs out t h h2 => ?_)
  unfold E160 at h
  split at h
  · injection h with h
    subst h
    exact ⟨rfl, L160, K160, lp160, (fun r t h => by unfold K160 at h; split at h; (injection h with h; subst h; rfl); cases h), (ev160 _ _).trans h2⟩
  · cases h
/-! ### L.eqAgg -/
noncomputable def G103 : Env := (envCons 159 [] E159 (envCons 160 [] E160 envNil))
noncomputable def c103 : Code := bodyOf Try.f103
noncomputable def L.eqAgg (a1 a2 a3 a4 a5 a6 a7 a8 a9 a10 : Int) (a11 a12 : List Int) : Option Bool :=
(bif (a1 != a6) then
(some false)
else
(Option.bind (L.eqWide a2 a3 a7 a8) fun r13 =>
(bif (!r13) then
(some false)
else
(bif (a4 != a9) then
(some false)
else
(bif (a5 != a10) then
(some false)
else
(Option.bind (L.eqIntS a11 a12) fun r14 =>
(bif (!r14) then
(some false)
else
(some true))))))))
noncomputable def R103 (x : Bool) : Res := ⟨[.one (ab x)], [], []⟩
noncomputable def K103 (r : Res) : Option Bool :=
  match r with
  | ⟨[.one (.val (.bool v1))], [], []⟩ => some (v1)
  | _ => none
noncomputable def E103 : Fun2 := fun args bs rs =>
  match args, bs, rs with
  | [.s1 (.agg [.val (.int .i64 a1), .val (.int .i64 a2), .val (.int .u64 a3), .val (.int .i64 a4), .val (.int .i64 a5), .sl 0]), .s1 (.agg [.val (.int .i64 a6), .val (.int .i64 a7), .val (.int .u64 a8), .val (.int .i64 a9), .val (.int .i64 a10), .sl 1])], [], [⟨3, (.int .i64), a11, .ro⟩, ⟨3, (.int .i64), a12, .ro⟩] => some ⟨Bool, L.eqAgg a1 a2 a3 a4 a5 a6 a7 a8 a9 a10 a11 a12, R103⟩
  | _, _, _ => none
theorem ev103 (a1 a2 a3 a4 a5 a6 a7 a8 a9 a10 : Int) (a11 a12 : List Int) : evF Try.prog G103 loopNil (0, 0) Try.f103 c103 [.s1 (.agg [ai a1, ai a2, ak .u64 a3, ai a4, ai a5, .sl 0]), .s1 (.agg [ai a6, ai a7, ak .u64 a8, ai a9, ai a10, .sl 1])] [] [⟨3, (.int .i64), a11, .ro⟩, ⟨3, (.int .i64), a12, .ro⟩] K103 = L.eqAgg a1 a2 a3 a4 a5 a6 a7 a8 a9 a10 a11 a12 := by kernel_rfl
theorem good103 : Vm.Good Try.prog 103 E103 := by
  refine evF_good (G := G103) (c := c103) (envCons_good good159 (envCons_good good160 envNil_good)) Try.func103 (by kernel_rfl) (by kernel_rfl) (0, 0) (fun args bs rs out t h h2 => ?_)
  unfold E103 at h
  split at h
  · injection h with h
    subst h
    exact ⟨rfl, loopNil, K103, (by intro x hx; simp [show loopsOf c103 = [] from by kernel_rfl] at hx), (fun r t h => by unfold K103 at h; split at h; (injection h with h; subst h; rfl); cases h), (ev103 _ _ _ _ _ _ _ _ _ _ _ _).trans h2⟩
  · cases h
/-! ### L.eqCell -/
noncomputable def G44 : Env := (envCons 103 [] E103 envNil)
noncomputable def c44 : Code := bodyOf Try.f44
noncomputable def L.eqCell (a1 a2 a3 a4 a5 a6 a7 a8 a9 a10 a11 a12 a13 a14 a15 a16 a17 a18 a19 a20 : Int) (a21 a22 : List Int) : Option Bool :=
(bif (a1 != a11) then
(some false)
else
(bif (a2 != a12) then
(some false)
else
(bif (a3 != a13) then
(some false)
else
(bif (a4 != a14) then
(some false)
else
(bif (a5 != a15) then
(some false)
else
(Option.bind (L.eqAgg a6 a7 a8 a9 a10 a16 a17 a18 a19 a20 a21 a22) fun r23 =>
(bif (!r23) then
(some false)
else
(some true))))))))
noncomputable def R44 (x : Bool) : Res := ⟨[.one (ab x)], [], []⟩
noncomputable def K44 (r : Res) : Option Bool :=
  match r with
  | ⟨[.one (.val (.bool v1))], [], []⟩ => some (v1)
  | _ => none
noncomputable def E44 : Fun2 := fun args bs rs =>
  match args, bs, rs with
  | [.s1 (.agg [.val (.int .i64 a1), .val (.int .i64 a2), .val (.int .i64 a3), .val (.int .i64 a4), .val (.int .i64 a5), .val (.int .i64 a6), .val (.int .i64 a7), .val (.int .u64 a8), .val (.int .i64 a9), .val (.int .i64 a10), .sl 0]), .s1 (.agg [.val (.int .i64 a11), .val (.int .i64 a12), .val (.int .i64 a13), .val (.int .i64 a14), .val (.int .i64 a15), .val (.int .i64 a16), .val (.int .i64 a17), .val (.int .u64 a18), .val (.int .i64 a19), .val (.int .i64 a20), .sl 1])], [], [⟨3, (.int .i64), a21, .ro⟩, ⟨3, (.int .i64), a22, .ro⟩] => some ⟨Bool, L.eqCell a1 a2 a3 a4 a5 a6 a7 a8 a9 a10 a11 a12 a13 a14 a15 a16 a17 a18 a19 a20 a21 a22, R44⟩
  | _, _, _ => none
theorem ev44 (a1 a2 a3 a4 a5 a6 a7 a8 a9 a10 a11 a12 a13 a14 a15 a16 a17 a18 a19 a20 : Int) (a21 a22 : List Int) : evF Try.prog G44 loopNil (0, 0) Try.f44 c44 [.s1 (.agg [ai a1, ai a2, ai a3, ai a4, ai a5, ai a6, ai a7, ak .u64 a8, ai a9, ai a10, .sl 0]), .s1 (.agg [ai a11, ai a12, ai a13, ai a14, ai a15, ai a16, ai a17, ak .u64 a18, ai a19, ai a20, .sl 1])] [] [⟨3, (.int .i64), a21, .ro⟩, ⟨3, (.int .i64), a22, .ro⟩] K44 = L.eqCell a1 a2 a3 a4 a5 a6 a7 a8 a9 a10 a11 a12 a13 a14 a15 a16 a17 a18 a19 a20 a21 a22 := by kernel_rfl
theorem good44 : Vm.Good Try.prog 44 E44 := by
  refine evF_good (G := G44) (c := c44) (envCons_good good103 envNil_good) Try.func44 (by kernel_rfl) (by kernel_rfl) (0, 0) (fun args bs rs out t h h2 => ?_)
  unfold E44 at h
  split at h
  · injection h with h
    subst h
    exact ⟨rfl, loopNil, K44, (by intro x hx; simp [show loopsOf c44 = [] from by kernel_rfl] at hx), (fun r t h => by unfold K44 at h; split at h; (injection h with h; subst h; rfl); cases h), (ev44 _ _ _ _ _ _ _ _ _ _ _ _ _ _ _ _ _ _ _ _ _ _).trans h2⟩
  · cases h
/-! ### L.eqCellS -/
noncomputable def G59 : Env := (envCons 44 [] E44 envNil)
noncomputable def c59 : Code := bodyOf Try.f59
noncomputable def c59_4 : Code := (loopsOf c59).getD 0 .skip
noncomputable def L.eqCellS_l0 : Nat → (Bool → Option Bool) → (Option Bool) → Int → (List (Int × Int × Int × Int × Int × Int × (Int × Int) × Int × Int × List Int)) → (List (Int × Int × Int × Int × Int × Int × (Int × Int) × Int × Int × List Int)) → Option Bool
  | 0, _, _, _, _, _ => none
  | m + 1, e4_0, e4_1, a5, a6, a7 =>
    (bif (decide (a5 < (a6.length : Int))) then
    (bif decide ((0 : Int) ≤ a5 ∧ a5 < (a6.length : Int)) then
    (bif decide ((0 : Int) ≤ a5 ∧ a5 < (a7.length : Int)) then
    (Option.bind (L.eqCell ((nthI a6 a5 ((0 : Int), ((0 : Int), ((0 : Int), ((0 : Int), ((0 : Int), ((0 : Int), (((0 : Int), (0 : Int)), ((0 : Int), ((0 : Int), [])))))))))).1) ((nthI a6 a5 ((0 : Int), ((0 : Int), ((0 : Int), ((0 : Int), ((0 : Int), ((0 : Int), (((0 : Int), (0 : Int)), ((0 : Int), ((0 : Int), [])))))))))).2.1) ((nthI a6 a5 ((0 : Int), ((0 : Int), ((0 : Int), ((0 : Int), ((0 : Int), ((0 : Int), (((0 : Int), (0 : Int)), ((0 : Int), ((0 : Int), [])))))))))).2.2.1) ((nthI a6 a5 ((0 : Int), ((0 : Int), ((0 : Int), ((0 : Int), ((0 : Int), ((0 : Int), (((0 : Int), (0 : Int)), ((0 : Int), ((0 : Int), [])))))))))).2.2.2.1) ((nthI a6 a5 ((0 : Int), ((0 : Int), ((0 : Int), ((0 : Int), ((0 : Int), ((0 : Int), (((0 : Int), (0 : Int)), ((0 : Int), ((0 : Int), [])))))))))).2.2.2.2.1) ((nthI a6 a5 ((0 : Int), ((0 : Int), ((0 : Int), ((0 : Int), ((0 : Int), ((0 : Int), (((0 : Int), (0 : Int)), ((0 : Int), ((0 : Int), [])))))))))).2.2.2.2.2.1) ((nthI a6 a5 ((0 : Int), ((0 : Int), ((0 : Int), ((0 : Int), ((0 : Int), ((0 : Int), (((0 : Int), (0 : Int)), ((0 : Int), ((0 : Int), [])))))))))).2.2.2.2.2.2.1.1) ((nthI a6 a5 ((0 : Int), ((0 : Int), ((0 : Int), ((0 : Int), ((0 : Int), ((0 : Int), (((0 : Int), (0 : Int)), ((0 : Int), ((0 : Int), [])))))))))).2.2.2.2.2.2.1.2) ((nthI a6 a5 ((0 : Int), ((0 : Int), ((0 : Int), ((0 : Int), ((0 : Int), ((0 : Int), (((0 : Int), (0 : Int)), ((0 : Int), ((0 : Int), [])))))))))).2.2.2.2.2.2.2.1) ((nthI a6 a5 ((0 : Int), ((0 : Int), ((0 : Int), ((0 : Int), ((0 : Int), ((0 : Int), (((0 : Int), (0 : Int)), ((0 : Int), ((0 : Int), [])))))))))).2.2.2.2.2.2.2.2.1) ((nthI a7 a5 ((0 : Int), ((0 : Int), ((0 : Int), ((0 : Int), ((0 : Int), ((0 : Int), (((0 : Int), (0 : Int)), ((0 : Int), ((0 : Int), [])))))))))).1) ((nthI a7 a5 ((0 : Int), ((0 : Int), ((0 : Int), ((0 : Int), ((0 : Int), ((0 : Int), (((0 : Int), (0 : Int)), ((0 : Int), ((0 : Int), [])))))))))).2.1) ((nthI a7 a5 ((0 : Int), ((0 : Int), ((0 : Int), ((0 : Int), ((0 : Int), ((0 : Int), (((0 : Int), (0 : Int)), ((0 : Int), ((0 : Int), [])))))))))).2.2.1) ((nthI a7 a5 ((0 : Int), ((0 : Int), ((0 : Int), ((0 : Int), ((0 : Int), ((0 : Int), (((0 : Int), (0 : Int)), ((0 : Int), ((0 : Int), [])))))))))).2.2.2.1) ((nthI a7 a5 ((0 : Int), ((0 : Int), ((0 : Int), ((0 : Int), ((0 : Int), ((0 : Int), (((0 : Int), (0 : Int)), ((0 : Int), ((0 : Int), [])))))))))).2.2.2.2.1) ((nthI a7 a5 ((0 : Int), ((0 : Int), ((0 : Int), ((0 : Int), ((0 : Int), ((0 : Int), (((0 : Int), (0 : Int)), ((0 : Int), ((0 : Int), [])))))))))).2.2.2.2.2.1) ((nthI a7 a5 ((0 : Int), ((0 : Int), ((0 : Int), ((0 : Int), ((0 : Int), ((0 : Int), (((0 : Int), (0 : Int)), ((0 : Int), ((0 : Int), [])))))))))).2.2.2.2.2.2.1.1) ((nthI a7 a5 ((0 : Int), ((0 : Int), ((0 : Int), ((0 : Int), ((0 : Int), ((0 : Int), (((0 : Int), (0 : Int)), ((0 : Int), ((0 : Int), [])))))))))).2.2.2.2.2.2.1.2) ((nthI a7 a5 ((0 : Int), ((0 : Int), ((0 : Int), ((0 : Int), ((0 : Int), ((0 : Int), (((0 : Int), (0 : Int)), ((0 : Int), ((0 : Int), [])))))))))).2.2.2.2.2.2.2.1) ((nthI a7 a5 ((0 : Int), ((0 : Int), ((0 : Int), ((0 : Int), ((0 : Int), ((0 : Int), (((0 : Int), (0 : Int)), ((0 : Int), ((0 : Int), [])))))))))).2.2.2.2.2.2.2.2.1) ((nthI a6 a5 ((0 : Int), ((0 : Int), ((0 : Int), ((0 : Int), ((0 : Int), ((0 : Int), (((0 : Int), (0 : Int)), ((0 : Int), ((0 : Int), [])))))))))).2.2.2.2.2.2.2.2.2) ((nthI a7 a5 ((0 : Int), ((0 : Int), ((0 : Int), ((0 : Int), ((0 : Int), ((0 : Int), (((0 : Int), (0 : Int)), ((0 : Int), ((0 : Int), [])))))))))).2.2.2.2.2.2.2.2.2)) fun r10 =>
    (bif (!r10) then
    (e4_0 false)
    else
    (L.eqCellS_l0 m e4_0 e4_1 (IntKind.wrap .i64 (a5 + 1)) a6 a7)))
    else
    none)
    else
    none)
    else
    e4_1)
noncomputable def L.eqCellS (a1 a2 : List (Int × Int × Int × Int × Int × Int × (Int × Int) × Int × Int × List Int)) : Option Bool :=
(bif ((a1.length : Int) != (a2.length : Int)) then
(some false)
else
(L.eqCellS_l0 fu (fun y12 =>
(some y12)) (some true) 0 a1 a2))
noncomputable def H59_4 : LoopH := ⟨⟨((.one (.sl 0)) :: (.one (.sl 1)) :: (hu 3 (hh :: (hu 21 [])))), [], [(90, (.pair (.int .i64) (.pair (.int .i64) (.pair (.int .i64) (.pair (.int .i64) (.pair (.int .i64) (.pair (.int .i64) (.pair (.pair (.int .i64) (.int .u64)) (.pair (.int .i64) (.pair (.int .i64) (.sl 3 (.int .i64))))))))))), .ro), (90, (.pair (.int .i64) (.pair (.int .i64) (.pair (.int .i64) (.pair (.int .i64) (.pair (.int .i64) (.pair (.int .i64) (.pair (.pair (.int .i64) (.int .u64)) (.pair (.int .i64) (.pair (.int .i64) (.sl 3 (.int .i64))))))))))), .ro)]⟩, [2, 3, 4, 6, 7, 8, 9, 10, 11, 12, 13, 14, 15, 16, 17, 18, 19, 20, 21, 22, 23, 24, 25, 26], [], [0, 1, 2, 3, 5, 6, 7, 8, 9, 10, 11, 12, 13, 14, 15, 16, 17, 18, 19, 20, 21, 22, 23, 24, 25, 26]⟩
noncomputable def E59_4 (m : Nat) (ps : List Prm) (k : Kont Bool) : Option Bool :=
  match ps with
  | [.v (.int .i64 a5), .row (.pair (.int .i64) (.pair (.int .i64) (.pair (.int .i64) (.pair (.int .i64) (.pair (.int .i64) (.pair (.int .i64) (.pair (.pair (.int .i64) (.int .u64)) (.pair (.int .i64) (.pair (.int .i64) (.sl 3 (.int .i64))))))))))) a6, .row (.pair (.int .i64) (.pair (.int .i64) (.pair (.int .i64) (.pair (.int .i64) (.pair (.int .i64) (.pair (.int .i64) (.pair (.pair (.int .i64) (.int .u64)) (.pair (.int .i64) (.pair (.int .i64) (.sl 3 (.int .i64))))))))))) a7] => L.eqCellS_l0 m (fun z14 => k .ret (⟨(vu 4 ((vb z14) :: (vu 22 []))), [], []⟩ : St)) (k (.exit 0) (⟨(vu 27 []), [], []⟩ : St)) a5 a6 a7
  | _ => none
noncomputable def S59_4 (a5 : Int) (a6 a7 : List (Int × Int × Int × Int × Int × Int × (Int × Int) × Int × Int × List Int)) : St := (⟨((vl 0) :: (vl 1) :: (vu 3 ((vi a5) :: (vu 21 [])))), [], [⟨90, (.pair (.int .i64) (.pair (.int .i64) (.pair (.int .i64) (.pair (.int .i64) (.pair (.int .i64) (.pair (.int .i64) (.pair (.pair (.int .i64) (.int .u64)) (.pair (.int .i64) (.pair (.int .i64) (.sl 3 (.int .i64))))))))))), a6, .ro⟩, ⟨90, (.pair (.int .i64) (.pair (.int .i64) (.pair (.int .i64) (.pair (.int .i64) (.pair (.int .i64) (.pair (.int .i64) (.pair (.pair (.int .i64) (.int .u64)) (.pair (.int .i64) (.pair (.int .i64) (.sl 3 (.int .i64))))))))))), a7, .ro⟩]⟩ : St)
theorem ev59_4 (m : Nat) (k : Kont Bool) (a5 : Int) (a6 a7 : List (Int × Int × Int × Int × Int × Int × (Int × Int) × Int × Int × List Int)) : evC Try.prog G59 loopNil c59_4 (S59_4 a5 a6 a7) (turn Try.prog (0, 0) H59_4 (E59_4 m) k) = E59_4 (m + 1) [.v (.int .i64 a5), .row (.pair (.int .i64) (.pair (.int .i64) (.pair (.int .i64) (.pair (.int .i64) (.pair (.int .i64) (.pair (.int .i64) (.pair (.pair (.int .i64) (.int .u64)) (.pair (.int .i64) (.pair (.int .i64) (.sl 3 (.int .i64))))))))))) a6, .row (.pair (.int .i64) (.pair (.int .i64) (.pair (.int .i64) (.pair (.int .i64) (.pair (.int .i64) (.pair (.int .i64) (.pair (.pair (.int .i64) (.int .u64)) (.pair (.int .i64) (.pair (.int .i64) (.sl 3 (.int .i64))))))))))) a7] k := by kernel_rfl
theorem ok59_4 (m : Nat) : LoopOk Try.prog (0, 0) c59_4 (enter Try.prog (0, 0) H59_4 (E59_4 m)) := by
  refine loop_ok (G := G59) (L := loopNil) (envCons_good good44 envNil_good) (by intro x hx; simp [show loopsOf c59_4 = [] from by kernel_rfl] at hx) (fun ps k => by unfold E59_4; split <;> rfl) (fun m ps k r h => ?_) m
  have h0 := h
  unfold E59_4 at h
  split at h
  · exact ⟨S59_4 _ _ _, by kernel_rfl, (ev59_4 m k _ _ _).trans h0⟩
  · cases h
noncomputable def L59 : LEnv Bool := (loopCons 4 (enter Try.prog (0, 0) H59_4 (E59_4 fu)) loopNil)
theorem lq59 : loopsOf c59 = [c59_4] := by kernel_rfl
theorem fr59_4 : firstReg c59_4 = some 4 := by kernel_rfl
theorem le59_4 : L59 4 = enter Try.prog (0, 0) H59_4 (E59_4 fu) := by kernel_rfl
theorem lm59 : ∀ x ∈ [c59_4], ∀ id, firstReg x = some id → LoopOk Try.prog (0, 0) x (L59 id) := (loops_cons fr59_4 le59_4 (ok59_4 fu) loops_nil)
theorem lp59 : ∀ x ∈ loopsOf c59, ∀ id, firstReg x = some id → LoopOk Try.prog (0, 0) x (L59 id) := loops_eq lq59 lm59
noncomputable def R59 (x : Bool) : Res := ⟨[.one (ab x)], [], []⟩
noncomputable def K59 (r : Res) : Option Bool :=
  match r with
  | ⟨[.one (.val (.bool v1))], [], []⟩ => some (v1)
  | _ => none
noncomputable def E59 : Fun2 := fun args bs rs =>
  match args, bs, rs with
  | [.s1 (.one (.sl 0)), .s1 (.one (.sl 1))], [], [⟨90, (.pair (.int .i64) (.pair (.int .i64) (.pair (.int .i64) (.pair (.int .i64) (.pair (.int .i64) (.pair (.int .i64) (.pair (.pair (.int .i64) (.int .u64)) (.pair (.int .i64) (.pair (.int .i64) (.sl 3 (.int .i64))))))))))), a1, .ro⟩, ⟨90, (.pair (.int .i64) (.pair (.int .i64) (.pair (.int .i64) (.pair (.int .i64) (.pair (.int .i64) (.pair (.int .i64) (.pair (.pair (.int .i64) (.int .u64)) (.pair (.int .i64) (.pair (.int .i64) (.sl 3 (.int .i64))))))))))), a2, .ro⟩] => some ⟨Bool, L.eqCellS a1 a2, R59⟩
  | _, _, _ => none
theorem ev59 (a1 a2 : List (Int × Int × Int × Int × Int × Int × (Int × Int) × Int × Int × List Int)) : evF Try.prog G59 L59 (0, 0) Try.f59 c59 [vl 0, vl 1] [] [⟨90, (.pair (.int .i64) (.pair (.int .i64) (.pair (.int .i64) (.pair (.int .i64) (.pair (.int .i64) (.pair (.int .i64) (.pair (.pair (.int .i64) (.int .u64)) (.pair (.int .i64) (.pair (.int .i64) (.sl 3 (.int .i64))))))))))), a1, .ro⟩, ⟨90, (.pair (.int .i64) (.pair (.int .i64) (.pair (.int .i64) (.pair (.int .i64) (.pair (.int .i64) (.pair (.int .i64) (.pair (.pair (.int .i64) (.int .u64)) (.pair (.int .i64) (.pair (.int .i64) (.sl 3 (.int .i64))))))))))), a2, .ro⟩] K59 = L.eqCellS a1 a2 := by kernel_rfl
theorem good59 : Vm.Good Try.prog 59 E59 := by
  refine evF_good (G := G59) (c := c59) (envCons_good good44 envNil_good) Try.func59 (by kernel_rfl) (by kernel_rfl) (0, 0) (fun args bs rs out t h h2 => ?_)
  unfold E59 at h
  split at h
  · injection h with h
    subst h
    exact ⟨rfl, L59, K59, lp59, (fun r t h => by unfold K59 at h; split at h; (injection h with h; subst h; rfl); cases h), (ev59 _ _).trans h2⟩
  · cases h
/-! ### L.FnExactCellsOk -/
noncomputable def G11 : Env := (envCons 55 [] E55 (envCons 57 [] E57 (envCons 56 [] E56 (envCons 58 [] E58 (envCons 59 [] E59 envNil)))))
noncomputable def c11 : Code := bodyOf Try.f11
noncomputable def L.FnExactCellsOk (a1 : List (Int × Int × Int × Int × Int × Int × (Int × Int) × Int × Int × List Int)) : Option Bool :=
(Option.bind (L.szCellS 1048576 a1) fun r2 =>
(bif (decide (r2 < 0)) then
(some true)
else
(Option.bind (L.toCellS a1) fun r4 =>
(Option.bind (S.CellsOk r4) fun r5 =>
(Option.bind (L.toCellS a1) fun r6 =>
(Option.bind (I.CellsOk r6) fun r7 =>
(bif (!(r7 == r5)) then
(some false)
else
(Option.bind (L.toCellS a1) fun r8 =>
(Option.bind (L.eqCellS r6 r8) fun r9 =>
(bif (!r9) then
(some false)
else
(some true)))))))))))
noncomputable def R11 (x : Bool) : Res := ⟨[.one (ab x)], [], []⟩
noncomputable def K11 (r : Res) : Option Bool :=
  match r with
  | ⟨[.one (.val (.bool v1))], [], []⟩ => some (v1)
  | _ => none
noncomputable def E11 : Fun2 := fun args bs rs =>
  match args, bs, rs with
  | [.s1 (.one (.sl 0))], [], [⟨83, (.pair (.int .i64) (.pair (.int .i64) (.pair (.int .i64) (.pair (.int .i64) (.pair (.int .i64) (.pair (.int .i64) (.pair (.pair (.int .i64) (.int .u64)) (.pair (.int .i64) (.pair (.int .i64) (.sl 3 (.int .i64))))))))))), a1, .ro⟩] => some ⟨Bool, L.FnExactCellsOk a1, R11⟩
  | _, _, _ => none
theorem ev11 (a1 : List (Int × Int × Int × Int × Int × Int × (Int × Int) × Int × Int × List Int)) : evF Try.prog G11 loopNil (0, 0) Try.f11 c11 [vl 0] [] [⟨83, (.pair (.int .i64) (.pair (.int .i64) (.pair (.int .i64) (.pair (.int .i64) (.pair (.int .i64) (.pair (.int .i64) (.pair (.pair (.int .i64) (.int .u64)) (.pair (.int .i64) (.pair (.int .i64) (.sl 3 (.int .i64))))))))))), a1, .ro⟩] K11 = L.FnExactCellsOk a1 := by kernel_rfl
theorem good11 : Vm.Good Try.prog 11 E11 := by
  refine evF_good (G := G11) (c := c11) (envCons_good good55 (envCons_good good57 (envCons_good good56 (envCons_good good58 (envCons_good good59 envNil_good))))) Try.func11 (by kernel_rfl) (by kernel_rfl) (0, 0) (fun args bs rs out t h h2 => ?_)
  unfold E11 at h
  split at h
  · injection h with h
    subst h
    exact ⟨rfl, loopNil, K11, (by intro x hx; simp [show loopsOf c11 = [] from by kernel_rfl] at hx), (fun r t h => by unfold K11 at h; split at h; (injection h with h; subst h; rfl); cases h), (ev11 _).trans h2⟩
  · cases h
end Go.Proofs.Ytflagchmcnfigaa.Run
