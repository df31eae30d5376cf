/- A walk by reckoning, eighth part: a function as a whole. -/
import Derived.Test.YtmbcnpbgcfiafaaGreatVmR
namespace Go.Proofs.YtmbcnpbgcfiafaaGreat.Vm
open Go Go.RowKit Go.Proofs.YtmbcnpbgcfiafaaGreatW.PrintWords
set_option linter.unusedVariables false
set_option linter.unusedSimpArgs false

def cutR (rows : List Row) : List AV → Option (List AV × Nat × Int)
  | [] => none
  | .s1 (.one (.vw q sz lo hi)) :: xs =>
    match rows[q]? with
    | some row =>
      match row.md.isOwn && decide (lo = 0) with
      | true => some (.s1 (.one (.sl rows.length)) :: xs, q, hi)
      | false => (cutR rows xs).map fun y => (.s1 (.one (.vw q sz lo hi)) :: y.1, y.2)
    | none => none
  | x :: xs => (cutR rows xs).map fun y => (x :: y.1, y.2)
def St.cutV (st : St) : St :=
  match cutR st.rows st.tmps with
  | some (ts, q, hi) =>
    match st.rows[q]? with
    | some row => ⟨ts, st.boxes, killed [q] 0 st.rows ++ [{ row with xs := row.xs.take hi.toNat }]⟩
    | none => st
  | none => st
theorem cutR_rel {g g' : Gh} {rows : List Row} (hl : rows.length = g.rw.length) (hle : g.le g') : ∀ {xs ys : List AV} {q : Nat} {hi : Int}, cutR rows xs = some (ys, q, hi) → ∀ {vs : List Value}, F2 (AV.R g) xs vs →
    ∃ row A n c, rows[q]? = some row ∧ row.md = .own ∧ g.rw[q]? = some (.slice A n c) ∧ 0 ≤ hi ∧ hi ≤ n ∧ n ≤ c ∧ (g'.rw = g.rw ++ [.slice A hi.toNat c] → F2 (AV.R g') ys vs)
  | [], _, _, _, h, _, _ => by cases h
  | x :: xs, ys, q, hi, h, v :: vs, hF => by
    have other : ∀ {x : AV} {xs : List AV} {v : Value} {vs : List Value}, F2 (AV.R g) (x :: xs) (v :: vs) → (cutR rows xs).map (fun y => (x :: y.1, y.2)) = some (ys, q, hi) → (∀ {ys : List AV} {q : Nat} {hi : Int}, cutR rows xs = some (ys, q, hi) → ∀ {vs : List Value}, F2 (AV.R g) xs vs →
        ∃ row A n c, rows[q]? = some row ∧ row.md = .own ∧ g.rw[q]? = some (.slice A n c) ∧ 0 ≤ hi ∧ hi ≤ n ∧ n ≤ c ∧ (g'.rw = g.rw ++ [.slice A hi.toNat c] → F2 (AV.R g') ys vs)) →
        ∃ row A n c, rows[q]? = some row ∧ row.md = .own ∧ g.rw[q]? = some (.slice A n c) ∧ 0 ≤ hi ∧ hi ≤ n ∧ n ≤ c ∧ (g'.rw = g.rw ++ [.slice A hi.toNat c] → F2 (AV.R g') ys (v :: vs)) := by
      intro x xs v vs hF h ih
      obtain ⟨⟨y1, y2, y3⟩, hy, he⟩ := Option.map_eq_some_iff.1 h
      simp only [Prod.mk.injEq] at he
      obtain ⟨rfl, rfl, rfl⟩ := he
      obtain ⟨row, A, n, c, h1, h2, h3, h4, h5, h6, h7⟩ := ih hy hF.2
      exact ⟨row, A, n, c, h1, h2, h3, h4, h5, h6, fun e => ⟨AV.R_le hle hF.1, h7 e⟩⟩
    unfold cutR at h
    split at h
    · rename_i heq; cases heq
    · rename_i q' sz lo hi' xs' heq
      injection heq with e1 e2
      subst e1; subst e2
      split at h
      · rename_i row hrow
        split at h
        · rename_i hc
          obtain ⟨hmd, hlo⟩ := Bool.and_eq_true_iff.1 hc
          have hlo := of_decide_eq_true hlo
          subst hlo
          simp only [Option.some.injEq, Prod.mk.injEq] at h
          obtain ⟨rfl, rfl, rfl⟩ := h
          obtain ⟨A, n, c, A', h1, h2, h3, h4, h5, h6, h7, rfl⟩ := hF.1
          refine ⟨row, A, n, c, hrow, ?_, h1, h3, h4, h5, fun e => ⟨?_, hF.2.imp fun _ _ => AV.R_le hle⟩⟩
          · cases hr : row.md <;> rw [hr] at hmd <;> first | rfl | cases hmd
          · show g'.rw[rows.length]? = _
            rw [e, hl, List.getElem?_append_right (Nat.le_refl _), Nat.sub_self, h7 rfl]
            simp
        · exact other hF h @fun _ _ _ h _ hF => cutR_rel hl hle h hF
      · cases h
    · rename_i x' xs' _ heq
      injection heq with e1 e2
      subst e1; subst e2
      exact other hF h @fun _ _ _ h _ hF => cutR_rel hl hle h hF
theorem cutV_rel {st : St} {g : Gh} {a : Act} {w : World} (hR : Rel st g a w) : ∃ g', g.le g' ∧ Rel st.cutV g' a w := by
  unfold St.cutV
  split
  · rename_i ts q hi hcut
    split
    · rename_i row hrow
      have hm := hR.mem
      obtain ⟨row', A, n, c, h1, hmd, hv, h0, h2, h3, _⟩ := cutR_rel hm.rl (.refl g) hcut hR.tmps
      rw [hrow] at h1
      injection h1 with h1
      subst h1
      have hlt : q < g.rw.length := (List.getElem?_eq_some_iff.1 hv).1
      have ho := hm.row hrow hv
      unfold RowRel at ho
      rw [hmd] at ho
      have hn : n = row.xs.length := by
        obtain ⟨_, inner, hown, _⟩ := ho
        rcases hown.2 with ⟨he, h6⟩ | ⟨gb, cap', cur, he, _⟩
        · injection he with _ he _
          rw [he]
          exact h6.symm
        · injection he
      have ho2 : Own row.s row.e g.rz w 0 g.tag q [] (.slice A hi.toNat c) (row.xs.take hi.toNat) := Own.take ho (by omega)
      let lab' : Lab := fun k => match g.tag k with
        | some (r, m) => if r = q then some (st.rows.length, m) else some (r, m)
        | none => none
      obtain ⟨g', hle, hrw, hm'⟩ := hm.turn (w1 := w) [q] lab' (.slice A hi.toNat c) { row with xs := row.xs.take hi.toNat } hmd hm.st
        (fun k x hk => by
          cases ht : g.tag k with
          | none => simp only [lab', ht] at hk; cases hk
          | some y => exact hm.dom ht)
        (fun k hk hids => by
          refine ⟨rfl, ?_⟩
          cases ht : g.tag k with
          | none => simp only [lab', ht]
          | some y =>
            obtain ⟨r, m⟩ := y
            have hq : r ≠ q := by
              have := hids r m ht
              simpa using this
            simp only [lab', ht, if_neg hq])
        (Own.move ho2 (fun k m hk _ hl => ⟨rfl, by
          simp only [List.nil_append] at hl ⊢
          simp only [lab', hl, if_true]⟩) (Nat.le_refl _) (fun _ _ h => h))
      obtain ⟨row', A', n', c', _, _, hv', _, _, _, hF⟩ := cutR_rel hm.rl hle hcut hR.tmps
      rw [hv] at hv'
      injection hv' with hv'
      injection hv' with e1 e2 e3
      subst e1; subst e2; subst e3
      exact ⟨g', hle, hF hrw, hR.defers, hm'⟩
    · exact ⟨g, .refl g, hR⟩
  · exact ⟨g, .refl g, hR⟩
section
variable (P : Program)
def resA (st : St) : ResultVar → Option A1
  | .tmp t =>
    match st.get t with
    | .s1 x => some x
    | _ => none
  | .cell a t =>
    match st.get a with
    | .s1 (.one (.ptr b off)) => (loadS P st t (.ptr b off)).map (·.1)
    | _ => none
def resAs (st : St) : List ResultVar → Option (List A1)
  | [] => some []
  | x :: xs =>
    match resA P st x, resAs st xs with
    | some y, some ys => some (y :: ys)
    | _, _ => none
def A1.un : AV → Option A1
  | .s1 x => some x
  | .tup _ => none
def A1.uns : List AV → Option (List A1)
  | [] => some []
  | x :: xs =>
    match A1.un x, A1.uns xs with
    | some y, some ys => some (y :: ys)
    | _, _ => none
def isSh : List Nat → Bool
  | [] => false
  | r :: rs => Nat.ble 1000000 r || isSh rs
def rnOf : List Nat → List Nat
  | [] => []
  | r :: rs => bif Nat.ble 1000000 r then rnOf rs else r :: rnOf rs
def froz (N : Nat × Nat) (rn : List Nat) (st : St) : Option St :=
  match isSh rn with
  | true => (st.freeze (List.range' N.2 (st.rows.length - N.2))).gc N
  | false => some st
theorem froz_rel {N : Nat × Nat} {rn : List Nat} {st st' : St} {g : Gh} {a : Act} {w : World} (hR : Rel st g a w) (h : froz N rn st = some st') : ∃ g', g.ext N g' ∧ Rel st' g' a w := by
  unfold froz at h
  split at h
  · obtain ⟨g1, hle, hR1⟩ := freeze_rel _ hR
    obtain ⟨g2, hext, hR2⟩ := gc_rel hR1 h
    exact ⟨g2, hle.ext.trans hext, hR2⟩
  · injection h with h
    subst h
    exact ⟨g, .refl _ g, hR⟩
def finish (N : Nat × Nat) (rn : List Nat) (fn : Func) (st : St) : Option Res :=
  match resAs P st fn.results.toList with
  | none => none
  | some ys =>
    match fixVs P fn.resultTypes.toList (ys.map .s1) st with
    | (avs, st1) =>
      match (St.renew (rnOf rn) (St.cutV ⟨avs, st1.boxes, st1.rows⟩)).gc N with
      | none => none
      | some st2 =>
        match froz N rn st2 with
        | none => none
        | some st3 =>
          match A1.uns st3.tmps with
          | some zs => some ⟨zs, st3.boxes, st3.rows⟩
          | none => none
variable {ρ : Type} (G : Env) (L : Nat → St → Kont ρ → Option ρ) (N : Nat × Nat)
def start (args : List AV) (bs : List (TypeId × List AL)) (rs : List Row) (ntmps : Nat) : St := ⟨args ++ List.replicate (ntmps - args.length) (.s1 (.one (.val undef))), bs, rs⟩
noncomputable def evF (rn : List Nat) (fn : Func) (c : Code) (args : List AV) (bs : List (TypeId × List AL)) (rs : List Row) (K : Res → Option ρ) : Option ρ :=
  evC P G L c (start args bs rs fn.ntmps) fun e st =>
    match e with
    | .exit _ => none
    | _ =>
      match finish P N rn fn st with
      | none => none
      | some res => K res
end

section
variable {P : Program} {ρ : Type} {G : Env} {L : Nat → St → Kont ρ → Option ρ} {st : St} {g : Gh} {a : Act} {w : World}
def resVal (tmps : Array Value) : ResultVar → Sem Value
  | .tmp t => pure (tmps.getD t undef)
  | .cell p t => do loadVar t (← asAddr (tmps.getD p undef))
theorem resA_run (hR : Rel st g a w) {x : ResultVar} {y : A1} (h : resA P st x = some y) : ∃ v, y.R g v ∧ (resVal a.tmps x).run P w = .ok v w := by
  cases x with
  | tmp t =>
    simp only [resA] at h
    split at h
    · rename_i z hz
      simp only [Option.some.injEq] at h
      subst h
      have := eval_rel hR.tmps (.tmp t)
      rw [show st.eval (.tmp t) = st.get t from rfl, hz] at this
      exact ⟨_, this, rfl⟩
    · cases h
  | cell p t =>
    simp only [resA] at h
    split at h
    · rename_i b off hp
      obtain ⟨⟨y', st'⟩, hl, rfl⟩ := Option.map_eq_some_iff.1 h
      have hx := one_get (eval_rel hR.tmps (.tmp p)) (show st.eval (.tmp p) = _ from hp)
      obtain ⟨blk, hb, hv⟩ := hx
      have hx' : (AL.ptr b off).R g (.pointer (some ⟨blk, off, none⟩)) := ⟨blk, hb, rfl⟩
      have hst : st' = st := by
        unfold loadS at hl
        split at hl
        · cases hl
        · simp only at hl
          split at hl
          · cases hl
          · split at hl
            · simp only [Option.some.injEq, Prod.mk.injEq] at hl
              exact hl.2.symm
            · cases hl
      subst hst
      unfold loadS at hl
      obtain ⟨u, hy, hrun⟩ : ∃ u, y'.R g u ∧ (loadVar t ⟨blk, off, none⟩).run P w = .ok u w := by
        split at hl
        · cases hl
        · rename_i sh hsh
          simp only at hl
          split at hl
          · cases hl
          · rename_i bc hbc
            split at hl
            · rename_i hlen
              simp only [Option.some.injEq, Prod.mk.injEq] at hl
              obtain ⟨rfl, _⟩ := hl
              obtain ⟨bt, cs⟩ := bc
              obtain ⟨vs, hh, hF⟩ := hR.mem.box hbc hb
              have hF' := (hF.drop off).take (sh.getD 1)
              have hl' := hF'.length
              refine ⟨_, mkA_rel hF' (by rw [← hl']; exact hlen), ?_⟩
              refine load_run hsh (by rw [← hl']; exact hlen) fun j u hj => ?_
              rw [add_at, cell_of_row w blk _ vs bt (0, 0) hh]
              rw [List.getElem?_take] at hj
              split at hj
              · rw [List.getElem?_drop] at hj
                simpa using hj
              · cases hj
            · cases hl
      refine ⟨u, hy, ?_⟩
      have hv' : a.tmps.getD p undef = .pointer (some ⟨blk, off, none⟩) := hv
      simp [resVal, hv', asAddr, hrun]
    · cases h
theorem resAs_run (hR : Rel st g a w) : ∀ {xs : List ResultVar} {ys : List A1}, resAs P st xs = some ys → ∃ vs : List Value, F2 (A1.R g) ys vs ∧ (xs.mapM (resVal a.tmps)).run P w = .ok vs w
  | [], ys, h => by
    simp only [resAs, Option.some.injEq] at h
    subst h
    exact ⟨[], trivial, rfl⟩
  | x :: xs, ys, h => by
    simp only [resAs] at h
    split at h
    · rename_i y ys1 h1 h2
      simp only [Option.some.injEq] at h
      subst h
      obtain ⟨v, hv, hr⟩ := resA_run hR h1
      obtain ⟨vs, hF, hrs⟩ := resAs_run hR h2
      refine ⟨v :: vs, ⟨hv, hF⟩, ?_⟩
      rw [List.mapM_cons, Sem.run_bind]
      simp only [hr, Result.andThen_ok, Sem.run_bind, hrs]
      rfl
    · cases h
theorem results_run (hR : Rel st g a w) {fn : Func} {ys : List A1} (h : resAs P st fn.results.toList = some ys) : ∃ vs : List Value, F2 (A1.R g) ys vs ∧ (results fn a.tmps).run P w = .ok (retV vs) w := by
  obtain ⟨vs, hF, hr⟩ := resAs_run hR h
  refine ⟨vs, hF, ?_⟩
  have e : results fn a.tmps = (do
      let vs ← fn.results.mapM (resVal a.tmps)
      pure (if h : vs.size = 1 then vs[0] else .tuple vs)) := by
    unfold results
    congr 1
  have e2 : fn.results = fn.results.toList.toArray := by simp
  rw [e, e2, List.mapM_toArray, Sem.run_bind, map_eq_pure_bind, Sem.run_bind, hr]
  simp only [Result.andThen_ok, Sem.run_pure]
  congr 1
  match vs with
  | [] => rfl
  | [v] => rfl
  | v :: u :: vs => rfl
theorem uns_rel {g : Gh} : ∀ {xs : List AV} {ys : List A1} {vs : List Value}, A1.uns xs = some ys → F2 (AV.R g) xs vs → F2 (A1.R g) ys vs
  | [], ys, [], h, _ => by
    simp only [A1.uns, Option.some.injEq] at h
    subst h
    trivial
  | x :: xs, ys, v :: vs, h, hF => by
    simp only [A1.uns] at h
    split at h
    · rename_i y ys1 h1 h2
      injection h with h
      subst h
      refine ⟨?_, uns_rel h2 hF.2⟩
      cases x with
      | s1 z =>
        simp only [A1.un, Option.some.injEq] at h1
        subst h1
        exact hF.1
      | tup zs => cases h1
    · cases h
theorem finish_out {N : Nat × Nat} {rn : List Nat} (hR : Rel st g a w) {fn : Func} {res : Res} (h : finish P N rn fn st = some res) : ∃ vs g', (results fn a.tmps).run P w = .ok (retV vs) w ∧ g.ext N g' ∧ Mem res.boxes res.rows g' w ∧ F2 (A1.R g') res.rets vs := by
  unfold finish at h
  split at h
  · cases h
  · rename_i ys hys
    obtain ⟨vs, hF, hr⟩ := results_run hR hys
    split at h
    rename_i avs st1 hfix
    obtain ⟨g1, hle, ht, hm1, hF1⟩ := fixVs_rel (P := P) (ts := fn.resultTypes.toList) hR.mem (F2.map1 (f := AV.s1) (R' := AV.R g) (fun _ _ h => h) hF)
    rw [hfix] at hm1 hF1
    split at h
    · cases h
    · rename_i st2 hgc
      split at h
      · cases h
      · rename_i st3 hfr
        split at h
        · rename_i zs hzs
          injection h with h
          subst h
          have hR1 : Rel (⟨avs, st1.boxes, st1.rows⟩ : St) g1 { tmps := vs.toArray, defers := [] } w := ⟨by simpa using hF1, rfl, hm1⟩
          obtain ⟨g4, hle4, hR4⟩ := cutV_rel hR1
          obtain ⟨g3, hle3, hR3⟩ := renew_rel (rnOf rn) hR4
          obtain ⟨g2, hext, hR2⟩ := gc_rel hR3 hgc
          obtain ⟨g5, hext5, hR5⟩ := froz_rel hR2 hfr
          have := hR5.tmps
          simp only at this
          exact ⟨vs, g5, hr, (((hle.trans hle4).trans hle3).ext.trans hext).trans hext5, hR5.mem, uns_rel hzs (by simpa using this)⟩
        · cases h
theorem start_rel {args : List AV} {bs : List (TypeId × List AL)} {rs : List Row} {vals : List Value} {n : Nat} (hm : Mem bs rs g w) (h : F2 (AV.R g) args vals) : Rel (start args bs rs n) g { tmps := vals.toArray ++ Array.replicate (n - vals.toArray.size) undef, defers := [] } w := by
  refine ⟨?_, rfl, hm⟩
  have hlen := h.length
  simp only [start]
  rw [Array.toList_append, Array.toList_replicate]
  refine h.append ?_
  simp only [List.size_toArray, hlen]
  exact F2.rep (R := AV.R g) (x := .s1 (.one (.val undef))) (y := undef) rfl _
theorem evF_good (hG : ∀ f E, G f = some E → Good P f E.F) {f : FuncId} {fn : Func} {c : Code} (hf : P.funcs[f]? = some fn) (hn : (fn.name == "runtime.NumGoroutine") = false) (hb : fn.body = some c) (N : Nat × Nat) {F : Fun2}
    (hF : ∀ (args : List AV) (bs : List (TypeId × List AL)) (rs : List Row) (out : Out) (t : out.T), F args bs rs = some out → out.o = some t → (bs.length, ownN rs) = N ∧ ∃ (rn : List Nat) (L : Nat → St → Kont out.T → Option out.T) (K : Res → Option out.T),
      (∀ x ∈ loopsOf c, ∀ id, firstReg x = some id → LoopOk P N x (L id)) ∧ (∀ res t', K res = some t' → res = out.res t') ∧ evF P G L N rn fn c args bs rs K = some t) : Good P f F := by
  refine ⟨⟨fn, hf, hn, by rw [hb]; rfl⟩, fun args bs rs out t h1 h2 g w vals hw hm hfull hin => ?_⟩
  obtain ⟨hN, rn, L, K, hL, hK, hev⟩ := hF args bs rs out t h1 h2
  rw [hN]
  have hR := start_rel (n := fn.ntmps) hm hin
  refine calls_of_wp hf hb (wp_mono (evC_sound (N := N) hG c hL (start args bs rs fn.ntmps) _ g _ w hev hR) ?_)
  rintro e a' w' ⟨ex, st', g', hex, hext, hR', h'⟩
  have fin : (match finish P N rn fn st' with | none => none | some res => K res) = some t → a'.defers = [] ∧ ∃ v, (results fn a'.tmps).run P w' = .ok v w' ∧ Ends N (out.res t) g (.returned v) w' := by
    intro h'
    split at h'
    · cases h'
    · rename_i res hres
      obtain ⟨vs, g2, hr, hext2, hm2, hF2⟩ := finish_out hR' hres
      have := hK res t h'
      subst this
      exact ⟨hR'.defers, _, hr, g2, vs, rfl, hext.trans hext2, hm2, hF2⟩
  cases ex with
  | normal => cases e <;> first | exact hex.elim | exact fin h'
  | exit i => cases h'
  | ret => cases e <;> first | exact hex.elim | exact fin h'
end
end Go.Proofs.YtmbcnpbgcfiafaaGreat.Vm
