/- A walk by reckoning: the other operations, and the choice among all. -/
import Derived.Test.YtmbcnpbgcfiafaaGreatVmL
import Derived.Laws.Cover1
import Derived.Laws.Slices
import Derived.Laws.StructEq
import Derived.Laws.Strings2
namespace Go.Proofs.YtmbcnpbgcfiafaaGreat.Vm
open Go Go.RowKit Go.Proofs.YtmbcnpbgcfiafaaGreatW.PrintWords
set_option linter.unusedVariables false
set_option linter.unusedSimpArgs false

section
variable (P : Program)
def eqFA : Nat → Array Value → Array Value → List Field → Option Bool
  | 0, _, _, _ => none
  | _ + 1, _, _, [] => some true
  | n + 1, xs, ys, f :: fs =>
    if (f.name == "_") = true then none else
    match P.underlying f.type, xs[f.offset]?, ys[f.offset]? with
    | some (.int _), some (.int k a), some (.int k' b) => if k = k' then (eqFA n xs ys fs).map fun r => (a == b) && r else none
    | some .bool, some (.bool a), some (.bool b) => (eqFA n xs ys fs).map fun r => (a == b) && r
    | some (.struct gs), _, _ =>
      match P.info? f.type, P.stoodInHeld f.type with
      | some i, false =>
        match eqFA n (xs.extract f.offset (f.offset + i.size)) (ys.extract f.offset (f.offset + i.size)) gs.toList with
        | some a => (eqFA n xs ys fs).map fun r => a && r
        | none => none
      | _, _ => none
    | _, _, _ => none
def eqSA (t : TypeId) (xs ys : List AL) : Option Bool :=
  match P.underlying t, vals1 xs, vals1 ys with
  | some (.struct fs), some us, some vs =>
    match P.stoodInHeld t, P.eqGuardType P.depth t with
    | false, false => eqFA P 200 us.toArray vs.toArray fs.toList
    | _, _ => none
  | _, _, _ => none
end
section
variable {P : Program} {g : Gh}
theorem eqFA_run : ∀ {n : Nat} {xs ys : Array Value} {fs : List Field} {b : Bool}, eqFA P n xs ys fs = some b → ∀ (d : Nat), n < d → ∀ w : World, (Op.eqFields d xs ys fs).run P w = .ok b w
  | 0, xs, ys, fs, b, h, d, hd, w => by simp [eqFA] at h
  | n + 1, xs, ys, [], b, h, d, hd, w => by
    simp only [eqFA, Option.some.injEq] at h
    subst h
    exact eqf_nil
  | n + 1, xs, ys, f :: fs, b, h, d, hd, w => by
    obtain ⟨d, rfl⟩ : ∃ d', d = d' + 1 := ⟨d - 1, by omega⟩
    unfold eqFA at h
    split at h
    · cases h
    · rename_i hn
      have hn : (f.name == "_") = false := by simpa using hn
      split at h
      · rename_i k0 k a k' c hu hx hy
        split at h
        · rename_i hk
          subst hk
          obtain ⟨r, hr, rfl⟩ := Option.map_eq_some_iff.1 h
          have hag : (isAgg f.type).run P w = .ok false w := isAgg_run (x := none) (by simp [shapeOf, hu]) w
          exact eqf_cons hn (a := .int k a) (b := .int k c) (by simp [part, hag, hx]) (by simp [part, hag, hy]) (run_equalIn_int w d f.type k k0 a c hu) (eqFA_run hr (d + 1) (by omega) w)
        · cases h
      · rename_i a c hu hx hy
        obtain ⟨r, hr, rfl⟩ := Option.map_eq_some_iff.1 h
        have hag : (isAgg f.type).run P w = .ok false w := isAgg_run (x := none) (by simp [shapeOf, hu]) w
        exact eqf_cons hn (a := .bool a) (b := .bool c) (by simp [part, hag, hx]) (by simp [part, hag, hy]) (run_equalIn_bool' w d f.type a c hu) (eqFA_run hr (d + 1) (by omega) w)
      · rename_i gs hu
        split at h
        · rename_i i hi hp
          split at h
          · rename_i a ha
            obtain ⟨r, hr, rfl⟩ := Option.map_eq_some_iff.1 h
            have hag : (isAgg f.type).run P w = .ok true w := isAgg_run (x := some i.size) (by simp [shapeOf, hu, hi]) w
            have hsz : (sizeOf f.type).run P w = .ok i.size w := by simp [sizeOf, typeInfo, hi]
            exact eqf_cons hn (a := .agg (xs.extract f.offset (f.offset + i.size))) (b := .agg (ys.extract f.offset (f.offset + i.size))) (by simp [part, hag, hsz]) (by simp [part, hag, hsz]) (eqA_of hu hp (eqFA_run ha d (by omega) w)) (eqFA_run hr (d + 1) (by omega) w)
          · cases h
        · cases h
      · cases h
theorem vals1_rel : ∀ {xs : List AL} {us vs : List Value}, vals1 xs = some us → F2 (AL.R g) xs vs → vs = us
  | [], us, [], h, _ => by
    simp only [vals1, Option.some.injEq] at h
    exact h
  | x :: xs, us, v :: vs, h, hF => by
    unfold vals1 at h
    split at h
    · rename_i he; cases he
    · rename_i u xs' he
      injection he with he1 he2
      subst he1; subst he2
      obtain ⟨r, hr, rfl⟩ := Option.map_eq_some_iff.1 h
      obtain rfl : v = u := hF.1
      rw [vals1_rel hr hF.2]
    · cases h
theorem eqSA_run {t : TypeId} {xs ys : List AL} {b : Bool} (h : eqSA P t xs ys = some b) {us vs : Array Value} (hx : F2 (AL.R g) xs us.toList) (hy : F2 (AL.R g) ys vs.toList) {op : BinOp} {ox oy : Operand} (w : World) :
    (eqGuard op t ox oy (.agg us) (.agg vs)).run P w = .ok () w ∧ (Op.equalIn 10000 t (.agg us) (.agg vs)).run P w = .ok b w := by
  unfold eqSA at h
  split at h
  · rename_i fs us' vs' hu h1 h2
    split at h
    · rename_i h3 h4
      have e1 := vals1_rel h1 hx
      have e2 := vals1_rel h2 hy
      refine ⟨run_eqGuard_agg w op t ox oy us vs h4, ?_⟩
      have e1' : us = us'.toArray := by rw [← e1]
      have e2' : vs = vs'.toArray := by rw [← e2]
      rw [e1', e2']
      exact eqA_of (d := 9999) hu h3 (eqFA_run h 9999 (by decide) w)
    · cases h
  · cases h
end

def optI (st : St) : Option Operand → Option (Option Int)
  | none => some none
  | some x =>
    match st.eval x with
    | .s1 (.one (.val (.int _ n))) => some (some n)
    | _ => none
section
variable (P : Program) {ρ : Type}
def cutA (st : St) (t : TypeId) (x : AL) (lo hi : Option Int) (k : AL → Option ρ) : Option ρ :=
  match P.underlying t with
  | some (.slice e) =>
    match x with
    | .sl r =>
      match st.rows[r]?, sizeA P e with
      | some row, some n =>
        match row.md with
        | .dead => none
        | _ => if row.s.sz = n then cond (decide (0 ≤ lo.getD 0 ∧ lo.getD 0 ≤ hi.getD (row.xs.length : Nat) ∧ hi.getD (row.xs.length : Nat) ≤ (row.xs.length : Nat))) (k (.vw r n (lo.getD 0) (hi.getD (row.xs.length : Nat)))) none else none
      | _, _ => none
    | .vw r sz l0 h0 =>
      match sizeA P e with
      | some n => if sz = n then cond (decide (0 ≤ lo.getD 0 ∧ lo.getD 0 ≤ hi.getD (h0 - l0) ∧ hi.getD (h0 - l0) ≤ h0 - l0)) (k (.vw r n (l0 + lo.getD 0) (l0 + hi.getD (h0 - l0)))) none else none
      | none => none
    | .al r =>
      match st.rows[r]?, sizeA P e, hi with
      | some row, some n, some h =>
        match row.md with
        | .own => if row.s.sz = n then cond (decide (0 ≤ lo.getD 0 ∧ lo.getD 0 ≤ h ∧ h ≤ (row.xs.length : Nat))) (k (.vw r n (lo.getD 0) h)) none else none
        | _ => none
      | _, _, _ => none
    | _ => none
  | some .string =>
    match x with
    | .val (.string s) => cond (decide (0 ≤ lo.getD 0 ∧ lo.getD 0 ≤ hi.getD (s.size : Nat) ∧ hi.getD (s.size : Nat) ≤ (s.size : Nat))) (k (.val (.string (s.extract (lo.getD 0).toNat (hi.getD (s.size : Nat)).toNat)))) none
    | _ => none
  | _ => none
end
section
variable {P : Program} {ρ : Type} {st : St} {g : Gh} {a : Act} {w : World}
def optR (lo : Option Int) (v : Option Value) : Prop :=
  match lo with
  | none => v = none
  | some n => ∃ k, v = some (.int k n)
theorem optI_rel (hR : Rel st g a w) {x : Option Operand} {lo : Option Int} (h : optI st x = some lo) : optR lo (x.map a.eval) := by
  cases x with
  | none =>
    simp only [optI, Option.some.injEq] at h
    subst h
    exact rfl
  | some x =>
    simp only [optI] at h
    split at h
    · rename_i k n hx
      simp only [Option.some.injEq] at h
      subst h
      exact ⟨k, by rw [Option.map_some, val_get (eval_rel hR.tmps x) hx]⟩
    · cases h
theorem slice_run {t e : TypeId} (hu : P.underlying t = some (.slice e)) {i : TypeInfo} (hi : P.info? e = some i) {A : Option Addr} {n c : Nat} {lo hi' : Option Int} {vl vh : Option Value} (hl : optR lo vl) (hh : optR hi' vh) (hn : n ≤ c)
    (h0 : 0 ≤ lo.getD 0) (h1 : lo.getD 0 ≤ hi'.getD (n : Nat)) (h2 : hi'.getD (n : Nat) ≤ (n : Nat)) (w : World) :
    (Instr.sliceAt t (.slice A n c) vl vh none).run P w = .ok (.slice (if c = (lo.getD 0).toNat then A else A.map (·.add ((lo.getD 0).toNat * i.size))) ((hi'.getD (n : Nat)).toNat - (lo.getD 0).toNat) (c - (lo.getD 0).toNat)) w := by
  have he : P.elem t = e := by simp [Program.elem, hu]
  have hu' : P.underlying t = some (.slice (P.elem t)) := by rw [he]; exact hu
  have hs : (sizeOf (P.elem t)).run P w = .ok i.size w := by rw [he]; simp [sizeOf, typeInfo, hi]
  rw [run_sliceAt_slice w t _ vl vh none hu']
  cases lo with
  | none =>
    obtain rfl : vl = none := hl
    cases hi' with
    | none =>
      obtain rfl : vh = none := hh
      rw [run_slice_all w t A n c hu', hs]
      simp [sliced]
    | some h =>
      obtain ⟨k, rfl⟩ := hh
      simp only [Option.getD_some, Option.getD_none] at h0 h1 h2
      rw [run_slice_h w t A n c hu' k h h1 (by omega), hs]
      simp [sliced]
  | some l =>
    obtain ⟨kl, rfl⟩ := hl
    simp only [Option.getD_some] at h0 h1 h2
    cases hi' with
    | none =>
      obtain rfl : vh = none := hh
      simp only [Option.getD_none] at h1 h2
      rw [run_slice_l w t A n c hu' kl l h0 h1, hs]
      simp [sliced]
    | some h =>
      obtain ⟨k, rfl⟩ := hh
      simp only [Option.getD_some] at h1 h2
      rw [run_slice_lh w t A n c hu' kl k l h h0 h1 (by omega), hs]
      simp [sliced]
theorem slice_str {t : TypeId} (hu : P.underlying t = some .string) {s : ByteArray} {lo hi' : Option Int} {vl vh : Option Value} (hl : optR lo vl) (hh : optR hi' vh)
    (h0 : 0 ≤ lo.getD 0) (h1 : lo.getD 0 ≤ hi'.getD (s.size : Nat)) (h2 : hi'.getD (s.size : Nat) ≤ (s.size : Nat)) (w : World) :
    (Instr.sliceAt t (.string s) vl vh none).run P w = .ok (.string (s.extract (lo.getD 0).toNat (hi'.getD (s.size : Nat)).toNat)) w := by
  rw [run_sliceAt_string w t _ vl vh none hu]
  cases lo with
  | none =>
    obtain rfl : vl = none := hl
    cases hi' with
    | none =>
      obtain rfl : vh = none := hh
      rw [run_slice_string_all w t s hu]
      simp
    | some h =>
      obtain ⟨k, rfl⟩ := hh
      simp only [Option.getD_some, Option.getD_none] at h0 h1 h2
      rw [run_slice_string_h w t s hu k h h1 (by omega)]
      simp
  | some l =>
    obtain ⟨kl, rfl⟩ := hl
    simp only [Option.getD_some] at h0 h1 h2
    cases hi' with
    | none =>
      obtain rfl : vh = none := hh
      simp only [Option.getD_none] at h1 h2
      rw [run_slice_string_l w t s hu kl l h0 h1]
      simp
    | some h =>
      obtain ⟨k, rfl⟩ := hh
      simp only [Option.getD_some] at h1 h2
      rw [run_slice_string w t s kl k l h hu h0 h1 (by omega)]
      simp
theorem cutA_run {k : AL → Option ρ} {r : ρ} (hm : Mem st.boxes st.rows g w) {t : TypeId} {x : AL} {v : Value} (hx : x.R g v) {lo hi : Option Int} {vl vh : Option Value} (hl : optR lo vl) (hh : optR hi vh) (h : cutA P st t x lo hi k = some r) :
    ∃ y u, y.R g u ∧ k y = some r ∧ ∀ w1, (Instr.sliceAt t v vl vh none).run P w1 = .ok u w1 := by
  unfold cutA at h
  split at h
  · rename_i e hu
    split at h
    · rename_i q
      split at h
      · rename_i row n hrow hn
        obtain ⟨i, hi', hin⟩ := Option.map_eq_some_iff.1 hn
        split at h
        · cases h
        · rename_i hd
          split at h
          · rename_i hsz
            rcases cond_some h with ⟨hc, h⟩ | ⟨_, h⟩
            · obtain ⟨h0, h1, h2⟩ := of_decide_eq_true hc
              have hv : g.rw[q]? = some v := hx
              obtain ⟨A, c, rfl, hlc, _, _⟩ := (hm.row hrow hv).reads hm.st hd
              have hr := slice_run hu hi' (A := A) (n := row.xs.length) (c := c) hl hh hlc h0 h1 h2
              refine ⟨.vw q n (lo.getD 0) (hi.getD (row.xs.length : Nat)), _, ⟨A, row.xs.length, c, _, hv, h0, h1, h2, hlc, fun hlt => ?_, fun hz => ?_, rfl⟩, h, hr⟩
              · rw [if_neg (by omega), hin]
              · rw [hz]
                cases A <;> simp [Addr.add]
            · cases h
          · cases h
      · cases h
    · rename_i q sz l0 h0'
      split at h
      · rename_i n hn
        obtain ⟨i, hi', hin⟩ := Option.map_eq_some_iff.1 hn
        split at h
        · rename_i hsz
          subst hsz
          rcases cond_some h with ⟨hc, h⟩ | ⟨_, h⟩
          · obtain ⟨A, n, c, A', hv, g0, g1, g2, g3, g4, g5, rfl⟩ := hx
            have hnn : ((h0'.toNat - l0.toNat : Nat) : Int) = h0' - l0 := by omega
            obtain ⟨h0, h1, h2⟩ := of_decide_eq_true hc
            rw [← hnn] at h1 h2 h
            have hr := slice_run hu hi' (A := A') (n := h0'.toNat - l0.toNat) (c := c - l0.toNat) hl hh (by omega) h0 h1 h2
            refine ⟨.vw q sz (l0 + lo.getD 0) (l0 + hi.getD ((h0'.toNat - l0.toNat : Nat) : Int)), _, ⟨A, n, c, (if c - l0.toNat = (lo.getD 0).toNat then A' else A'.map (·.add ((lo.getD 0).toNat * i.size))), hv, by omega, by omega, by omega, g3, fun hlt => ?_, fun hz => ?_, ?_⟩, h, hr⟩
            · rw [if_neg (by omega), g4 (by omega), hin]
              cases A with
              | none => rfl
              | some ad =>
                simp only [Option.map_some, add2]
                rw [← Nat.add_mul]
                congr 3
                omega
            · have e1 : l0 = 0 := by omega
              have e2 : lo.getD 0 = 0 := by omega
              rw [e2, g5 e1]
              cases A <;> simp [Addr.add]
            · congr 1 <;> omega
          · cases h
        · cases h
      · cases h
    · rename_i q
      split at h
      · rename_i row n h1' hrow hn
        obtain ⟨i, hi', hin⟩ := Option.map_eq_some_iff.1 hn
        split at h
        · rename_i hmd
          split at h
          · rename_i hsz
            rcases cond_some h with ⟨hc, h⟩ | ⟨_, h⟩
            · obtain ⟨h0, h1, h2⟩ := of_decide_eq_true hc
              obtain ⟨A, m, n', c, hv, g1, g2, rfl⟩ := hx
              obtain ⟨A2, c2, he, hlc, _, _⟩ := (hm.row hrow hv).reads hm.st (by rw [hmd]; simp)
              injection he with e1 e2 e3
              subst e1; subst e2; subst e3
              have hr := slice_run hu hi' (A := A) (n := n') (c := c) hl hh g2 h0 h1 (show h1' ≤ (n' : Int) by omega)
              refine ⟨.vw q n (lo.getD 0) h1', _, ⟨A, row.xs.length, c, _, hv, h0, h1, h2, hlc, fun hlt => ?_, fun hz => ?_, rfl⟩, h, hr⟩
              · rw [if_neg (by omega), hin]
              · rw [hz]
                cases A <;> simp [Addr.add]
            · cases h
          · cases h
        · cases h
      · cases h
    · cases h
  · rename_i hu
    split at h
    · rename_i s
      rcases cond_some h with ⟨hc, h⟩ | ⟨_, h⟩
      · obtain ⟨h0, h1, h2⟩ := of_decide_eq_true hc
        obtain rfl : v = .string s := hx
        exact ⟨.val (.string (s.extract (lo.getD 0).toNat (hi.getD (s.size : Nat)).toNat)), _, rfl, h, slice_str hu hl hh h0 h1 h2⟩
      · cases h
    · cases h
  · cases h
end

section
variable (P : Program)
def storeE (st : St) (t : TypeId) (x : AL) (v : A1) : Option St :=
  match x with
  | .ept r sz i off =>
    match st.rows[r]?, sizeA P t with
    | some row, some n =>
      match row.md with
      | .own =>
        if row.s.sz = sz ∧ v.cells.length = n ∧ v.cells.all st.firm = true then
          match row.s.put st (row.at_ i) 0 off n v.cells with
          | some y => if mvOk1 y.2 = true ∧ (y.2.map (·.1)).contains r = false then some { st with rows := (killed (r :: y.2.map (·.1)) 0 st.rows).set r { row with xs := row.xs.set i.toNat y.1 } } else none
          | none => none
        else none
      | _ => none
    | _, _ => none
  | _ => none
end
section
variable {P : Program} {st st' : St} {g : Gh} {w : World}
theorem storeE_sound {v u : Value} {t : TypeId} {x : AL} {y : A1} (hm : Mem st.boxes st.rows g w) (hx : x.R g v) (hy : y.R g u) (h : storeE P st t x y = some st') :
    ∃ g' w', g.le g' ∧ Mem st'.boxes st'.rows g' w' ∧ st'.tmps = st.tmps ∧ (Instr.storeAt t v u).run P w = .ok () w' := by
  unfold storeE at h
  split at h
  · rename_i r sz i off
    split at h
    · rename_i row n hrow hn
      split at h
      · rename_i hmd
        split at h
        · rename_i hc
          obtain ⟨hsz, hlen, hfirm⟩ := hc
          split at h
          · rename_i z hz
            obtain ⟨yv, mv⟩ := z
            split at h
            · rename_i hok
              obtain ⟨hok1, hok2⟩ := hok
              simp only [Option.some.injEq] at h
              subst h
              subst hsz
              obtain ⟨ad, m, c, hv, h0, h1, rfl⟩ := hx
              have hi : i = ((i.toNat : Nat) : Int) := by omega
              have hone : ∀ c ∈ u.cells.toList, c.oneCell' = true := by
                cases y with
                | one z =>
                  have hz : u.oneCell' = true := all_one hm (xs := [z]) (vs := [u]) ⟨hy, trivial⟩ hfirm u List.mem_cons_self
                  have hu : u.cells.toList = [u] := by cases u <;> first | rfl | cases hz
                  rw [hu]
                  intro c hc
                  rw [List.mem_singleton.1 hc]
                  exact hz
                | agg zs =>
                  obtain ⟨cs', rfl, hF'⟩ := hy
                  exact all_one hm hF' hfirm
              have hcr : F2 (AL.R g) y.cells u.cells.toList := by
                refine cells_rel hy fun z e => ?_
                subst e
                exact all_one hm (xs := [z]) (vs := [u]) ⟨hy, trivial⟩ hfirm u List.mem_cons_self
              have hul : u.cells.toList.length = n := by rw [← hcr.length]; exact hlen
              rw [hi] at hz
              obtain ⟨w', g', hle, hrun, hm'⟩ := hm.setElem (P := P) hrow hmd hv (i := i.toNat) (by omega) hz hok1 hok2 hcr hul hone
              refine ⟨g', w', hle, hm', rfl, ?_⟩
              obtain ⟨ti, hti, htn⟩ := Option.map_eq_some_iff.1 hn
              have hsz : u.cells.size = n := by simpa using hul
              simp [Instr.storeAt, Instr.sureAddr, storeVar, sizeOf, typeInfo, hti, htn, hsz, hrun]
            · cases h
          · cases h
        · cases h
      · cases h
    · cases h
  · cases h
end
end Go.Proofs.YtmbcnpbgcfiafaaGreat.Vm
