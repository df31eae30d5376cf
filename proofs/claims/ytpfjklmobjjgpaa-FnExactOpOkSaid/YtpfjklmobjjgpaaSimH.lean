/- A walk by reckoning, eighth part: a function as a whole. -/
import Derived.Test.YtpfjklmobjjgpaaSimR
namespace Go.Proofs.Ytpfjklmobjjgpaa.Sim
open Go Go.RowKit Go.Proofs.YtpfjklmobjjgpaaW.PrintWords
set_option linter.unusedVariables false
set_option linter.unusedSimpArgs false

section
variable (P : Program)
def resA (st : St) : ResultVar → Option A1
  | .tmp t =>
    match st.get t with
    | .s1 x => some x
    | _ => none
  | .cell a t =>
    match st.get a with
    | .s1 (.one (.ptr b off)) => (loadS P st t (.ptr b off)).map (·.1)
    | _ => none
def resAs (st : St) : List ResultVar → Option (List A1)
  | [] => some []
  | x :: xs =>
    match resA P st x, resAs st xs with
    | some y, some ys => some (y :: ys)
    | _, _ => none
/-- A leaf of a result. -/
def fin1 (st : St) (x : AL) (t : TypeId) : Option R1 :=
  match x with
  | .val (.slice none 0 0) =>
    match P.underlying t with
    | some (.slice e) => (shTy P 20 e).map fun s => .row e s []
    | _ => none
  | .val v => some (.sc v)
  | .sl r =>
    match st.rows[r]? with
    | none => none
    | some row =>
      match row.md with
      | .own => some (.row row.e row.s row.xs)
      | _ => none
  | _ => none
def finL (st : St) : List AL → List TypeId → Option (List R1)
  | [], _ => some []
  | x :: xs, ts =>
    match fin1 P st x (ts.headD 0), finL st xs ts.tail with
    | some y, some ys => some (y :: ys)
    | _, _ => none
def finV (st : St) (x : A1) (t : TypeId) : Option RV :=
  match x with
  | .one y => (fin1 P st y t).map .one
  | .agg ys => (finL P st ys (leafTs P 20 t)).map .agg
def finVs (st : St) : List A1 → List TypeId → Option (List RV)
  | [], _ => some []
  | x :: xs, ts =>
    match finV P st x (ts.headD 0), finVs st xs ts.tail with
    | some y, some ys => some (y :: ys)
    | _, _ => none
def idOf : AL → Option Nat
  | .sl r => some r
  | _ => none
def okIds (ids : List (Option Nat)) : Bool := ids.zipIdx.all fun x => x.1.isNone || ids.idxOf? x.1 == some x.2
/-- The results of a function whose code has ended. -/
def finish (fn : Func) (st : St) : Option (List RV) :=
  match resAs P st fn.results.toList with
  | none => none
  | some ys => if okIds ((ys.flatMap A1.all).map idOf) = true then finVs P st ys fn.resultTypes.toList else none
variable {ρ : Type} (G : Env ρ) (L : Nat → St → Kont ρ → Option ρ)
def start (args : List RV) (ntmps : Nat) : St :=
  ⟨(toA1s 0 args).map .s1 ++ List.replicate (ntmps - args.length) (.s1 (.one (.val undef))), [], (args.flatMap RV.flat).map (R1.toRow .ro)⟩
def evF (fn : Func) (c : Code) (args : List RV) (K : List RV → Option ρ) : Option ρ :=
  evC P G L c (start args fn.ntmps) fun e st =>
    match e with
    | .exit _ => none
    | _ =>
      match finish P fn st with
      | none => none
      | some rvs => K rvs
end

section
variable {P : Program} {ρ : Type} {G : Env ρ} {L : Nat → St → Kont ρ → Option ρ} {st : St} {g : Gh} {a : Act} {w : World}
def resVal (tmps : Array Value) : ResultVar → Sem Value
  | .tmp t => pure (tmps.getD t undef)
  | .cell p t => do loadVar t (← asAddr (tmps.getD p undef))
theorem resA_run (hR : Rel st g a w) {x : ResultVar} {y : A1} (h : resA P st x = some y) : ∃ v, y.R g v ∧ (resVal a.tmps x).run P w = .ok v w := by
  cases x with
  | tmp t =>
    simp only [resA] at h
    split at h
    · rename_i z hz
      simp only [Option.some.injEq] at h
      subst h
      have := eval_rel hR.tmps (.tmp t)
      rw [show st.eval (.tmp t) = st.get t from rfl, hz] at this
      exact ⟨_, this, rfl⟩
    · cases h
  | cell p t =>
    simp only [resA] at h
    split at h
    · rename_i b off hp
      obtain ⟨⟨y', st'⟩, hl, rfl⟩ := Option.map_eq_some_iff.1 h
      have hx := one_get (eval_rel hR.tmps (.tmp p)) (show st.eval (.tmp p) = _ from hp)
      obtain ⟨blk, hb, hv⟩ := hx
      have hx' : (AL.ptr b off).R g (.pointer (some ⟨blk, off, none⟩)) := ⟨blk, hb, rfl⟩
      have hst : st' = st := by
        unfold loadS at hl
        split at hl
        · cases hl
        · simp only at hl
          split at hl
          · cases hl
          · split at hl
            · simp only [Option.some.injEq, Prod.mk.injEq] at hl
              exact hl.2.symm
            · cases hl
      subst hst
      unfold loadS at hl
      obtain ⟨u, hy, hrun⟩ : ∃ u, y'.R g u ∧ (loadVar t ⟨blk, off, none⟩).run P w = .ok u w := by
        split at hl
        · cases hl
        · rename_i sh hsh
          simp only at hl
          split at hl
          · cases hl
          · rename_i bc hbc
            split at hl
            · rename_i hlen
              simp only [Option.some.injEq, Prod.mk.injEq] at hl
              obtain ⟨rfl, _⟩ := hl
              obtain ⟨bt, cs⟩ := bc
              obtain ⟨vs, hh, hF⟩ := hR.mem.box hbc hb
              have hF' := (hF.drop off).take (sh.getD 1)
              have hl' := hF'.length
              refine ⟨_, mkA_rel hF' (by rw [← hl']; exact hlen), ?_⟩
              refine load_run hsh (by rw [← hl']; exact hlen) fun j u hj => ?_
              rw [add_at, cell_of_row w blk _ vs bt (0, 0) hh]
              rw [List.getElem?_take] at hj
              split at hj
              · rw [List.getElem?_drop] at hj
                simpa using hj
              · cases hj
            · cases hl
      refine ⟨u, hy, ?_⟩
      have hv' : a.tmps.getD p undef = .pointer (some ⟨blk, off, none⟩) := hv
      simp [resVal, hv', asAddr, hrun]
    · cases h
theorem resAs_run (hR : Rel st g a w) : ∀ {xs : List ResultVar} {ys : List A1}, resAs P st xs = some ys → ∃ vs : List Value, F2 (A1.R g) ys vs ∧ (xs.mapM (resVal a.tmps)).run P w = .ok vs w
  | [], ys, h => by
    simp only [resAs, Option.some.injEq] at h
    subst h
    exact ⟨[], trivial, rfl⟩
  | x :: xs, ys, h => by
    simp only [resAs] at h
    split at h
    · rename_i y ys1 h1 h2
      simp only [Option.some.injEq] at h
      subst h
      obtain ⟨v, hv, hr⟩ := resA_run hR h1
      obtain ⟨vs, hF, hrs⟩ := resAs_run hR h2
      refine ⟨v :: vs, ⟨hv, hF⟩, ?_⟩
      rw [List.mapM_cons, Sem.run_bind]
      simp only [hr, Result.andThen_ok, Sem.run_bind, hrs]
      rfl
    · cases h
theorem results_run (hR : Rel st g a w) {fn : Func} {ys : List A1} (h : resAs P st fn.results.toList = some ys) : ∃ vs : List Value, F2 (A1.R g) ys vs ∧ (results fn a.tmps).run P w = .ok (retV vs) w := by
  obtain ⟨vs, hF, hr⟩ := resAs_run hR h
  refine ⟨vs, hF, ?_⟩
  have e : results fn a.tmps = (do
      let vs ← fn.results.mapM (resVal a.tmps)
      pure (if h : vs.size = 1 then vs[0] else .tuple vs)) := by
    unfold results
    congr 1
  have e2 : fn.results = fn.results.toList.toArray := by simp
  rw [e, e2, List.mapM_toArray, Sem.run_bind, map_eq_pure_bind, Sem.run_bind, hr]
  simp only [Result.andThen_ok, Sem.run_pure]
  congr 1
  match vs with
  | [] => rfl
  | [v] => rfl
  | v :: u :: vs => rfl
theorem fin1_out (hm : Mem st.boxes st.rows g w) {tag : Lab} {n : Nat} {x : AL} {t : TypeId} {y : R1} {v : Value} (ht : ∀ r, x = .sl r → ∀ k m, g.tag k = some (r, m) → tag k = some (n, m)) (hx : x.R g v) (h : fin1 P st x t = some y) :
    y.Out w g.w0.heap.size tag n v := by
  unfold fin1 at h
  split at h
  · split at h
    · rename_i e hu
      obtain ⟨s, hs, rfl⟩ := Option.map_eq_some_iff.1 h
      obtain rfl : v = .slice none 0 0 := hx
      exact Own.nil _ _ _ _ _ _ _
    · cases h
  · simp only [Option.some.injEq] at h
    subst h
    exact hx
  · rename_i r
    split at h
    · cases h
    · rename_i row hrow
      split at h
      · rename_i hmd
        simp only [Option.some.injEq] at h
        subst h
        have := hm.row hrow (v := v) hx
        unfold RowRel at this
        rw [hmd] at this
        exact Own.move this (fun k m _ _ hk => ⟨rfl, ht r rfl k m hk⟩) (Nat.le_refl _)
      · cases h
  · cases h
theorem finL_out (hm : Mem st.boxes st.rows g w) {tag : Lab} : ∀ {xs : List AL} {ts : List TypeId} {ys : List R1} {vs : List Value} {n : Nat}, (∀ (i : Nat) (r : Nat), xs[i]? = some (.sl r) → ∀ k m, g.tag k = some (r, m) → tag k = some (n + i, m)) → F2 (AL.R g) xs vs → finL P st xs ts = some ys → OutL w g.w0.heap.size tag n ys vs ∧ ys.length = xs.length
  | [], ts, ys, [], n, _, _, h => by
    simp only [finL, Option.some.injEq] at h
    subst h
    exact ⟨trivial, rfl⟩
  | x :: xs, ts, ys, v :: vs, n, ht, hF, h => by
    simp only [finL] at h
    split at h
    · rename_i y ys1 h1 h2
      simp only [Option.some.injEq] at h
      subst h
      obtain ⟨h3, h4⟩ := finL_out hm (tag := tag) (n := n + 1) (fun i r hi k m hk => by rw [show n + 1 + i = n + (i + 1) from by omega]; exact ht (i + 1) r (by simpa using hi) k m hk) hF.2 h2
      exact ⟨⟨fin1_out hm (fun r e k m hk => by have := ht 0 r (by rw [e]; rfl) k m hk; simpa using this) hF.1 h1, h3⟩, by simp [h4]⟩
    · cases h
theorem OutL.append {w : World} {base : Nat} {tag : Lab} : ∀ {xs ys : List R1} {us vs : List Value} {n : Nat}, OutL w base tag n xs us → OutL w base tag (n + xs.length) ys vs → OutL w base tag n (xs ++ ys) (us ++ vs)
  | [], _, [], _, n, _, h => by simpa using h
  | x :: xs, ys, u :: us, vs, n, h, h' => ⟨h.1, OutL.append h.2 (by rw [show n + 1 + xs.length = n + (x :: xs).length from by simp; omega]; exact h')⟩
theorem finVs_out (hm : Mem st.boxes st.rows g w) {tag : Lab} : ∀ {xs : List A1} {ts : List TypeId} {ys : List RV} {vs : List Value} {n : Nat}, (∀ (i : Nat) (r : Nat), (xs.flatMap A1.all)[i]? = some (.sl r) → ∀ k m, g.tag k = some (r, m) → tag k = some (n + i, m)) → F2 (A1.R g) xs vs → finVs P st xs ts = some ys →
    ∃ us, Splits ys vs us ∧ OutL w g.w0.heap.size tag n (ys.flatMap RV.flat) us
  | [], ts, ys, [], n, _, _, h => by
    simp only [finVs, Option.some.injEq] at h
    subst h
    exact ⟨[], rfl, trivial⟩
  | x :: xs, ts, ys, v :: vs, n, ht, hF, h => by
    simp only [finVs] at h
    split at h
    · rename_i y ys1 h1 h2
      simp only [Option.some.injEq] at h
      subst h
      cases x with
      | one z =>
        obtain ⟨q, hq, rfl⟩ := Option.map_eq_some_iff.1 h1
        obtain ⟨us, h3, h4⟩ := finVs_out hm (tag := tag) (n := n + 1) (fun i r hi k m hk => by rw [show n + 1 + i = n + (i + 1) from by omega]; exact ht (i + 1) r (by simpa [A1.all] using hi) k m hk) hF.2 h2
        exact ⟨v :: us, ⟨us, rfl, h3⟩, fin1_out hm (fun r e k m hk => by have := ht 0 r (by simp [A1.all, e]) k m hk; simpa using this) hF.1 hq, h4⟩
      | agg zs =>
        obtain ⟨q, hq, rfl⟩ := Option.map_eq_some_iff.1 h1
        obtain ⟨cs, rfl, hF1⟩ := hF.1
        have hlz : (A1.all (.agg zs)).length = zs.length := rfl
        obtain ⟨h5, h6⟩ := finL_out hm (tag := tag) (n := n) (fun i r hi k m hk => ht i r (by
          have hlt : i < zs.length := (List.getElem?_eq_some_iff.1 hi).1
          rw [List.flatMap_cons, List.getElem?_append_left (by rw [hlz]; exact hlt)]
          exact hi) k m hk) hF1 hq
        obtain ⟨us, h3, h4⟩ := finVs_out hm (tag := tag) (n := n + zs.length) (fun i r hi k m hk => by
          rw [show n + zs.length + i = n + (zs.length + i) from by omega]
          refine ht (zs.length + i) r ?_ k m hk
          rw [List.flatMap_cons, List.getElem?_append_right (by rw [hlz]; omega), hlz]
          simpa using hi) hF.2 h2
        refine ⟨cs.toList ++ us, ⟨cs, us, rfl, ?_, rfl, h3⟩, ?_⟩
        · have := hF1.length
          simp at this
          omega
        · have : (RV.flat (.agg q)) = q := rfl
          rw [List.flatMap_cons, this]
          exact OutL.append h5 (by rw [h6]; exact h4)
    · cases h
theorem finish_out (hR : Rel st g a w) {fn : Func} {rvs : List RV} (h : finish P fn st = some rvs) : ∃ vs tag, (results fn a.tmps).run P w = .ok (retV vs) w ∧ Outs w g.w0.heap.size tag rvs vs := by
  unfold finish at h
  split at h
  · cases h
  · rename_i ys hys
    split at h
    · rename_i hok
      obtain ⟨vs, hF, hr⟩ := results_run hR hys
      let ids := (ys.flatMap A1.all).map idOf
      refine ⟨vs, fun k => (g.tag k).bind fun x => (ids.idxOf? (some x.1)).map fun i => (i, x.2), hr, ?_⟩
      obtain ⟨us, h1, h2⟩ := finVs_out hR.mem (tag := fun k => (g.tag k).bind fun x => (ids.idxOf? (some x.1)).map fun i => (i, x.2)) (n := 0) (fun i r hi k m hk => by
        show (g.tag k).bind (fun x => (ids.idxOf? (some x.1)).map fun i => (i, x.2)) = some (0 + i, m)
        rw [hk]
        have hi2 : ids[i]? = some (some r) := by
          show ((ys.flatMap A1.all).map idOf)[i]? = _
          rw [List.getElem?_map, hi]
          rfl
        unfold okIds at hok
        rw [List.all_eq_true] at hok
        have := hok (some r, i) (by rw [List.mem_zipIdx_iff_getElem?]; exact hi2)
        simpa using this) hF h
      exact ⟨us, h1, h2⟩
    · cases h
/-- The state at a function's beginning. -/
theorem start_rel {args : List RV} {vals : List Value} {w : World} {n : Nat} (h : F2 (RV.In w) args vals) : ∃ g, g.w0 = w ∧ Rel (start args n) g { tmps := vals.toArray ++ Array.replicate (n - vals.toArray.size) undef, defers := [] } w := by
  have hs : ∀ (args : List RV) (vals : List Value), F2 (RV.In w) args vals → ∃ us, Splits args vals us ∧ F2 (R1.In w) (args.flatMap RV.flat) us := by
    intro args
    induction args with
    | nil => intro vals h; cases vals with
      | nil => exact ⟨[], rfl, trivial⟩
      | cons v vs => exact h.elim
    | cons x xs ih =>
      intro vals h
      cases vals with
      | nil => exact h.elim
      | cons v vs =>
        obtain ⟨us, h1, h2⟩ := ih vs h.2
        cases x with
        | one r => exact ⟨v :: us, ⟨us, rfl, h1⟩, h.1, h2⟩
        | agg rs =>
          obtain ⟨cs, rfl, hF⟩ := h.1
          refine ⟨cs.toList ++ us, ⟨cs, us, rfl, ?_, rfl, h1⟩, ?_⟩
          · have := hF.length
            simp at this
            omega
          · exact hF.append h2
  obtain ⟨us, h1, h2⟩ := hs args vals h
  have hm0 : Mem [] [] ⟨[], [], fun _ => none, w⟩ w := by
    refine ⟨rfl, fun {b t cs blk} hb _ => by simp at hb, fun {b blk} hb => by simp at hb, fun {b b' blk} hb _ => by simp at hb, rfl, fun {r row v} hr _ => by simp at hr, .refl _ _⟩
  obtain ⟨g, hle, _, hm, hF⟩ := Mem.addRows (md := .ro) (g := ⟨[], [], fun _ => none, w⟩) (fun n r v => r.In w v) (fun g1 n r v e1 _ hz => by
      cases r with
      | sc u => exact ⟨trivial, fun u' e => by injection e with e; rw [← e]; exact hz⟩
      | row e s xs =>
        refine ⟨?_, fun u e => by cases e⟩
        obtain ⟨A, c, h3, h4, h5⟩ := hz
        exact ⟨A, c, h3, h4, by rw [e1]; exact h5⟩) (args.flatMap RV.flat) us [] ⟨[], [], fun _ => none, w⟩ rfl rfl hm0 (fun i r hi => h2.get hi) h2.length
  refine ⟨g, hle.w0, ?_, rfl, hm⟩
  have hj := joined args vals us 0 h1 hF
  have hlen := h.length
  have hmap : F2 (AV.R g) ((toA1s 0 args).map .s1) vals := by
    generalize toA1s 0 args = l at hj
    clear hm hF hle h2 h1 hs h hlen
    induction l generalizing vals with
    | nil => cases vals with
      | nil => trivial
      | cons v vs => exact hj.elim
    | cons y l ih => cases vals with
      | nil => exact hj.elim
      | cons v vs => exact ⟨hj.1, ih hj.2⟩
  simp only [start]
  rw [Array.toList_append, Array.toList_replicate]
  refine hmap.append ?_
  simp only [List.size_toArray, hlen]
  exact F2.rep (R := AV.R g) (x := .s1 (.one (.val undef))) (y := undef) rfl _
/-- A FUNCTION: what its reckoning comes to, a call of it comes to. -/
theorem evF_good [Subsingleton ρ] (hG : ∀ f F, G f = some F → Good P f F) {f : FuncId} {fn : Func} {c : Code} (hf : P.funcs[f]? = some fn) (hn : (fn.name == "runtime.NumGoroutine") = false) (hb : fn.body = some c) (hL : ∀ x ∈ loopsOf c, ∀ id, firstReg x = some id → LoopOk P x (L id)) {F : Fun1 ρ}
    (hF : ∀ args K r, F args K = some r → evF P G L fn c args K = some r) : Good P f F := by
  refine ⟨⟨fn, hf, hn, by rw [hb]; rfl⟩, fun args K r h w vals hin => ?_⟩
  have h := hF args K r h
  obtain ⟨g, hw, hR⟩ := start_rel (n := fn.ntmps) hin
  refine calls_of_wp hf hb (wp_mono (evC_sound hG c hL (start args fn.ntmps) _ g _ w h hw hR) ?_)
  rintro e a' w' ⟨ex, st', g', hex, hw', hR', h'⟩
  have fin : (match finish P fn st' with | none => none | some rvs => K rvs) = some r → a'.defers = [] ∧ ∃ v, (results fn a'.tmps).run P w' = .ok v w' ∧ ∃ rvs vs tag, K rvs = some r ∧ Ending.returned v = .returned (retV vs) ∧ Outs w' w.heap.size tag rvs vs ∧ Below w.heap.size w w' := by
    intro h'
    split at h'
    · cases h'
    · rename_i rvs hrvs
      obtain ⟨vs, tag, hr, ho⟩ := finish_out hR' hrvs
      refine ⟨hR'.defers, _, hr, rvs, vs, tag, h', rfl, ?_, ?_⟩
      · rw [hw'] at ho; exact ho
      · have := hR'.mem.below; rw [hw'] at this; exact this
  cases ex with
  | normal => cases e <;> first | exact hex.elim | exact fin h'
  | exit i => cases h'
  | ret => cases e <;> first | exact hex.elim | exact fin h'
end
end Go.Proofs.Ytpfjklmobjjgpaa.Sim
