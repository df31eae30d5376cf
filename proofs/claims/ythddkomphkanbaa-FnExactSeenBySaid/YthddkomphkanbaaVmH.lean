/- A walk by reckoning, eighth part: a function as a whole. -/
import Derived.Test.YthddkomphkanbaaVmR
namespace Go.Proofs.Ythddkomphkanbaa.Vm
open Go Go.RowKit Go.Proofs.YthddkomphkanbaaW.PrintWords
set_option linter.unusedVariables false
set_option linter.unusedSimpArgs false

section
variable (P : Program)
def resA (st : St) : ResultVar → Option A1
  | .tmp t =>
    match st.get t with
    | .s1 x => some x
    | _ => none
  | .cell a t =>
    match st.get a with
    | .s1 (.one (.ptr b off)) => (loadS P st t (.ptr b off)).map (·.1)
    | _ => none
def resAs (st : St) : List ResultVar → Option (List A1)
  | [] => some []
  | x :: xs =>
    match resA P st x, resAs st xs with
    | some y, some ys => some (y :: ys)
    | _, _ => none
def A1.un : AV → Option A1
  | .s1 x => some x
  | .tup _ => none
def A1.uns : List AV → Option (List A1)
  | [] => some []
  | x :: xs =>
    match A1.un x, A1.uns xs with
    | some y, some ys => some (y :: ys)
    | _, _ => none
/-- The results of a function whose code has ended, and what it leaves. -/
def finish (N : Nat × Nat) (fn : Func) (st : St) : Option Res :=
  match resAs P st fn.results.toList with
  | none => none
  | some ys =>
    match fixVs P fn.resultTypes.toList (ys.map .s1) st with
    | (avs, st1) =>
      match (⟨avs, st1.boxes, st1.rows⟩ : St).gc N with
      | none => none
      | some st2 =>
        match A1.uns st2.tmps with
        | some zs => some ⟨zs, st2.boxes, st2.rows⟩
        | none => none
variable {ρ : Type} (G : Env) (L : Nat → St → Kont ρ → Option ρ) (N : Nat × Nat)
def start (args : List AV) (bs : List (TypeId × List AL)) (rs : List Row) (ntmps : Nat) : St := ⟨args ++ List.replicate (ntmps - args.length) (.s1 (.one (.val undef))), bs, rs⟩
noncomputable def evF (fn : Func) (c : Code) (args : List AV) (bs : List (TypeId × List AL)) (rs : List Row) (K : Res → Option ρ) : Option ρ :=
  evC P G L c (start args bs rs fn.ntmps) fun e st =>
    match e with
    | .exit _ => none
    | _ =>
      match finish P N fn st with
      | none => none
      | some res => K res
end

section
variable {P : Program} {ρ : Type} {G : Env} {L : Nat → St → Kont ρ → Option ρ} {st : St} {g : Gh} {a : Act} {w : World}
def resVal (tmps : Array Value) : ResultVar → Sem Value
  | .tmp t => pure (tmps.getD t undef)
  | .cell p t => do loadVar t (← asAddr (tmps.getD p undef))
theorem resA_run (hR : Rel st g a w) {x : ResultVar} {y : A1} (h : resA P st x = some y) : ∃ v, y.R g v ∧ (resVal a.tmps x).run P w = .ok v w := by
  cases x with
  | tmp t =>
    simp only [resA] at h
    split at h
    · rename_i z hz
      simp only [Option.some.injEq] at h
      subst h
      have := eval_rel hR.tmps (.tmp t)
      rw [show st.eval (.tmp t) = st.get t from rfl, hz] at this
      exact ⟨_, this, rfl⟩
    · cases h
  | cell p t =>
    simp only [resA] at h
    split at h
    · rename_i b off hp
      obtain ⟨⟨y', st'⟩, hl, rfl⟩ := Option.map_eq_some_iff.1 h
      have hx := one_get (eval_rel hR.tmps (.tmp p)) (show st.eval (.tmp p) = _ from hp)
      obtain ⟨blk, hb, hv⟩ := hx
      have hx' : (AL.ptr b off).R g (.pointer (some ⟨blk, off, none⟩)) := ⟨blk, hb, rfl⟩
      have hst : st' = st := by
        unfold loadS at hl
        split at hl
        · cases hl
        · simp only at hl
          split at hl
          · cases hl
          · split at hl
            · simp only [Option.some.injEq, Prod.mk.injEq] at hl
              exact hl.2.symm
            · cases hl
      subst hst
      unfold loadS at hl
      obtain ⟨u, hy, hrun⟩ : ∃ u, y'.R g u ∧ (loadVar t ⟨blk, off, none⟩).run P w = .ok u w := by
        split at hl
        · cases hl
        · rename_i sh hsh
          simp only at hl
          split at hl
          · cases hl
          · rename_i bc hbc
            split at hl
            · rename_i hlen
              simp only [Option.some.injEq, Prod.mk.injEq] at hl
              obtain ⟨rfl, _⟩ := hl
              obtain ⟨bt, cs⟩ := bc
              obtain ⟨vs, hh, hF⟩ := hR.mem.box hbc hb
              have hF' := (hF.drop off).take (sh.getD 1)
              have hl' := hF'.length
              refine ⟨_, mkA_rel hF' (by rw [← hl']; exact hlen), ?_⟩
              refine load_run hsh (by rw [← hl']; exact hlen) fun j u hj => ?_
              rw [add_at, cell_of_row w blk _ vs bt (0, 0) hh]
              rw [List.getElem?_take] at hj
              split at hj
              · rw [List.getElem?_drop] at hj
                simpa using hj
              · cases hj
            · cases hl
      refine ⟨u, hy, ?_⟩
      have hv' : a.tmps.getD p undef = .pointer (some ⟨blk, off, none⟩) := hv
      simp [resVal, hv', asAddr, hrun]
    · cases h
theorem resAs_run (hR : Rel st g a w) : ∀ {xs : List ResultVar} {ys : List A1}, resAs P st xs = some ys → ∃ vs : List Value, F2 (A1.R g) ys vs ∧ (xs.mapM (resVal a.tmps)).run P w = .ok vs w
  | [], ys, h => by
    simp only [resAs, Option.some.injEq] at h
    subst h
    exact ⟨[], trivial, rfl⟩
  | x :: xs, ys, h => by
    simp only [resAs] at h
    split at h
    · rename_i y ys1 h1 h2
      simp only [Option.some.injEq] at h
      subst h
      obtain ⟨v, hv, hr⟩ := resA_run hR h1
      obtain ⟨vs, hF, hrs⟩ := resAs_run hR h2
      refine ⟨v :: vs, ⟨hv, hF⟩, ?_⟩
      rw [List.mapM_cons, Sem.run_bind]
      simp only [hr, Result.andThen_ok, Sem.run_bind, hrs]
      rfl
    · cases h
theorem results_run (hR : Rel st g a w) {fn : Func} {ys : List A1} (h : resAs P st fn.results.toList = some ys) : ∃ vs : List Value, F2 (A1.R g) ys vs ∧ (results fn a.tmps).run P w = .ok (retV vs) w := by
  obtain ⟨vs, hF, hr⟩ := resAs_run hR h
  refine ⟨vs, hF, ?_⟩
  have e : results fn a.tmps = (do
      let vs ← fn.results.mapM (resVal a.tmps)
      pure (if h : vs.size = 1 then vs[0] else .tuple vs)) := by
    unfold results
    congr 1
  have e2 : fn.results = fn.results.toList.toArray := by simp
  rw [e, e2, List.mapM_toArray, Sem.run_bind, map_eq_pure_bind, Sem.run_bind, hr]
  simp only [Result.andThen_ok, Sem.run_pure]
  congr 1
  match vs with
  | [] => rfl
  | [v] => rfl
  | v :: u :: vs => rfl
theorem uns_rel {g : Gh} : ∀ {xs : List AV} {ys : List A1} {vs : List Value}, A1.uns xs = some ys → F2 (AV.R g) xs vs → F2 (A1.R g) ys vs
  | [], ys, [], h, _ => by
    simp only [A1.uns, Option.some.injEq] at h
    subst h
    trivial
  | x :: xs, ys, v :: vs, h, hF => by
    simp only [A1.uns] at h
    split at h
    · rename_i y ys1 h1 h2
      injection h with h
      subst h
      refine ⟨?_, uns_rel h2 hF.2⟩
      cases x with
      | s1 z =>
        simp only [A1.un, Option.some.injEq] at h1
        subst h1
        exact hF.1
      | tup zs => cases h1
    · cases h
theorem finish_out {N : Nat × Nat} (hR : Rel st g a w) {fn : Func} {res : Res} (h : finish P N fn st = some res) : ∃ vs g', (results fn a.tmps).run P w = .ok (retV vs) w ∧ g.ext N g' ∧ Mem res.boxes res.rows g' w ∧ F2 (A1.R g') res.rets vs := by
  unfold finish at h
  split at h
  · cases h
  · rename_i ys hys
    obtain ⟨vs, hF, hr⟩ := results_run hR hys
    split at h
    rename_i avs st1 hfix
    obtain ⟨g1, hle, ht, hm1, hF1⟩ := fixVs_rel (P := P) (ts := fn.resultTypes.toList) hR.mem (F2.map1 (f := AV.s1) (R' := AV.R g) (fun _ _ h => h) hF)
    rw [hfix] at hm1 hF1
    split at h
    · cases h
    · rename_i st2 hgc
      split at h
      · rename_i zs hzs
        injection h with h
        subst h
        have hR1 : Rel (⟨avs, st1.boxes, st1.rows⟩ : St) g1 { tmps := vs.toArray, defers := [] } w := ⟨by simpa using hF1, rfl, hm1⟩
        obtain ⟨g2, hext, hR2⟩ := gc_rel hR1 hgc
        have := hR2.tmps
        simp only at this
        exact ⟨vs, g2, hr, hle.ext.trans hext, hR2.mem, uns_rel hzs (by simpa using this)⟩
      · cases h
/-- The state at a function's beginning. -/
theorem start_rel {args : List AV} {bs : List (TypeId × List AL)} {rs : List Row} {vals : List Value} {n : Nat} (hm : Mem bs rs g w) (h : F2 (AV.R g) args vals) : Rel (start args bs rs n) g { tmps := vals.toArray ++ Array.replicate (n - vals.toArray.size) undef, defers := [] } w := by
  refine ⟨?_, rfl, hm⟩
  have hlen := h.length
  simp only [start]
  rw [Array.toList_append, Array.toList_replicate]
  refine h.append ?_
  simp only [List.size_toArray, hlen]
  exact F2.rep (R := AV.R g) (x := .s1 (.one (.val undef))) (y := undef) rfl _
/-- A FUNCTION: what its reckoning comes to, a call of it comes to. -/
theorem evF_good (hG : ∀ f E, G f = some E → Good P f E.F) {f : FuncId} {fn : Func} {c : Code} (hf : P.funcs[f]? = some fn) (hn : (fn.name == "runtime.NumGoroutine") = false) (hb : fn.body = some c) (N : Nat × Nat) {F : Fun2}
    (hF : ∀ (args : List AV) (bs : List (TypeId × List AL)) (rs : List Row) (out : Out) (t : out.T), F args bs rs = some out → out.o = some t → (bs.length, ownN rs) = N ∧ ∃ (L : Nat → St → Kont out.T → Option out.T) (K : Res → Option out.T),
      (∀ x ∈ loopsOf c, ∀ id, firstReg x = some id → LoopOk P N x (L id)) ∧ (∀ res t', K res = some t' → res = out.res t') ∧ evF P G L N fn c args bs rs K = some t) : Good P f F := by
  refine ⟨⟨fn, hf, hn, by rw [hb]; rfl⟩, fun args bs rs out t h1 h2 g w vals hw hm hfull hin => ?_⟩
  obtain ⟨hN, L, K, hL, hK, hev⟩ := hF args bs rs out t h1 h2
  rw [hN]
  have hR := start_rel (n := fn.ntmps) hm hin
  refine calls_of_wp hf hb (wp_mono (evC_sound (N := N) hG c hL (start args bs rs fn.ntmps) _ g _ w hev hR) ?_)
  rintro e a' w' ⟨ex, st', g', hex, hext, hR', h'⟩
  have fin : (match finish P N fn st' with | none => none | some res => K res) = some t → a'.defers = [] ∧ ∃ v, (results fn a'.tmps).run P w' = .ok v w' ∧ Ends N (out.res t) g (.returned v) w' := by
    intro h'
    split at h'
    · cases h'
    · rename_i res hres
      obtain ⟨vs, g2, hr, hext2, hm2, hF2⟩ := finish_out hR' hres
      have := hK res t h'
      subst this
      exact ⟨hR'.defers, _, hr, g2, vs, rfl, hext.trans hext2, hm2, hF2⟩
  cases ex with
  | normal => cases e <;> first | exact hex.elim | exact fin h'
  | exit i => cases h'
  | ret => cases e <;> first | exact hex.elim | exact fin h'
end
end Go.Proofs.Ythddkomphkanbaa.Vm
