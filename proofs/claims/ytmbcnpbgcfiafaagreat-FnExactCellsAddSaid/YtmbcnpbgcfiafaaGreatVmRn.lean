/- A walk by reckoning: rows that go to a new place. -/
import Derived.Test.YtmbcnpbgcfiafaaGreatVmSc
namespace Go.Proofs.YtmbcnpbgcfiafaaGreat.Vm
open Go Go.RowKit Go.Proofs.YtmbcnpbgcfiafaaGreatW.PrintWords
set_option linter.unusedVariables false
set_option linter.unusedSimpArgs false

def AL.sub (r n : Nat) : AL → AL
  | .sl q => if q = r then .sl n else .sl q
  | .ept q sz i off => if q = r then .ept n sz i off else .ept q sz i off
  | .vw q sz lo hi => if q = r then .vw n sz lo hi else .vw q sz lo hi
  | .al q => if q = r then .al n else .al q
  | x => x
def A1.sub (r n : Nat) : A1 → A1
  | .one x => .one (x.sub r n)
  | .agg xs => .agg (xs.map (AL.sub r n))
def AV.sub (r n : Nat) : AV → AV
  | .s1 x => .s1 (x.sub r n)
  | .tup xs => .tup (xs.map (A1.sub r n))
def St.renew1 (r : Nat) (st : St) : St :=
  match st.rows[r]? with
  | some row =>
    match row.md with
    | .own => ⟨st.tmps.map (AV.sub r st.rows.length), st.boxes.map fun b => (b.1, b.2.map (AL.sub r st.rows.length)), killed [r] 0 st.rows ++ [row]⟩
    | _ => st
  | none => st
def St.renew : List Nat → St → St
  | [], st => st
  | r :: rs, st => St.renew rs (st.renew1 r)
theorem AL.sub_rel {g : Gh} {r n : Nat} (h : ∀ v, g.rw[r]? = some v → g.rw[n]? = some v) : ∀ {x : AL} {v : Value}, x.R g v → (x.sub r n).R g v
  | .sl q, v, hx => by
    show (if q = r then AL.sl n else AL.sl q).R g v
    split
    · rename_i e; subst e; exact h v hx
    · exact hx
  | .ept q sz i off, v, hx => by
    show (if q = r then AL.ept n sz i off else AL.ept q sz i off).R g v
    split
    · rename_i e; subst e
      obtain ⟨ad, m, c, h1, h2⟩ := hx
      exact ⟨ad, m, c, h _ h1, h2⟩
    · exact hx
  | .vw q sz lo hi, v, hx => by
    show (if q = r then AL.vw n sz lo hi else AL.vw q sz lo hi).R g v
    split
    · rename_i e; subst e
      obtain ⟨A, m, c, A', h1, h2⟩ := hx
      exact ⟨A, m, c, A', h _ h1, h2⟩
    · exact hx
  | .al q, v, hx => by
    show (if q = r then AL.al n else AL.al q).R g v
    split
    · rename_i e; subst e
      obtain ⟨A, m, n', c, h1, h2⟩ := hx
      exact ⟨A, m, n', c, h _ h1, h2⟩
    · exact hx
  | .unk, _, hx => hx
  | .val _, _, hx => hx
  | .ptr _ _, _, hx => hx
  | .fn _ _, _, hx => hx
  | .err _, _, hx => hx
  | .hs, _, hx => hx
theorem AL.subs_rel {g : Gh} {r n : Nat} (h : ∀ v, g.rw[r]? = some v → g.rw[n]? = some v) : ∀ {xs : List AL} {vs : List Value}, F2 (AL.R g) xs vs → F2 (AL.R g) (xs.map (AL.sub r n)) vs
  | [], [], _ => trivial
  | _ :: _, _ :: _, hF => ⟨AL.sub_rel h hF.1, AL.subs_rel h hF.2⟩
theorem A1.sub_rel {g : Gh} {r n : Nat} (h : ∀ v, g.rw[r]? = some v → g.rw[n]? = some v) : ∀ {x : A1} {v : Value}, x.R g v → (x.sub r n).R g v
  | .one _, _, hx => AL.sub_rel h hx
  | .agg _, _, ⟨cs, e, hx⟩ => ⟨cs, e, AL.subs_rel h hx⟩
theorem A1.subs_rel {g : Gh} {r n : Nat} (h : ∀ v, g.rw[r]? = some v → g.rw[n]? = some v) : ∀ {xs : List A1} {vs : List Value}, F2 (A1.R g) xs vs → F2 (A1.R g) (xs.map (A1.sub r n)) vs
  | [], [], _ => trivial
  | _ :: _, _ :: _, hF => ⟨A1.sub_rel h hF.1, A1.subs_rel h hF.2⟩
theorem AV.sub_rel {g : Gh} {r n : Nat} (h : ∀ v, g.rw[r]? = some v → g.rw[n]? = some v) : ∀ {x : AV} {v : Value}, x.R g v → (x.sub r n).R g v
  | .s1 _, _, hx => A1.sub_rel h hx
  | .tup _, _, ⟨vs, e, hx⟩ => ⟨vs, e, A1.subs_rel h hx⟩
theorem AV.subs_rel {g : Gh} {r n : Nat} (h : ∀ v, g.rw[r]? = some v → g.rw[n]? = some v) : ∀ {xs : List AV} {vs : List Value}, F2 (AV.R g) xs vs → F2 (AV.R g) (xs.map (AV.sub r n)) vs
  | [], [], _ => trivial
  | _ :: _, _ :: _, hF => ⟨AV.sub_rel h hF.1, AV.subs_rel h hF.2⟩
theorem renew1_rel {st : St} {g : Gh} {a : Act} {w : World} (hR : Rel st g a w) (r : Nat) : ∃ g', g.le g' ∧ Rel (st.renew1 r) g' a w := by
  unfold St.renew1
  split
  · rename_i row hrow
    split
    · rename_i hmd
      have hm := hR.mem
      have hlt : r < g.rw.length := by rw [← hm.rl]; exact (List.getElem?_eq_some_iff.1 hrow).1
      obtain ⟨v, hv⟩ : ∃ v, g.rw[r]? = some v := ⟨_, List.getElem?_eq_getElem hlt⟩
      have ho := hm.row hrow hv
      unfold RowRel at ho
      rw [hmd] at ho
      let lab' : Lab := fun k => match g.tag k with
        | some (q, m) => if q = r then some (st.rows.length, m) else some (q, m)
        | none => none
      obtain ⟨g', hle, hrw, hm'⟩ := hm.turn (w1 := w) [r] lab' v row hmd hm.st
        (fun k x hk => by
          cases ht : g.tag k with
          | none => simp only [lab', ht] at hk; cases hk
          | some y => exact hm.dom ht)
        (fun k hk hids => by
          refine ⟨rfl, ?_⟩
          cases ht : g.tag k with
          | none => simp only [lab', ht]
          | some y =>
            obtain ⟨q, m⟩ := y
            have hq : q ≠ r := by
              have := hids q m ht
              simpa using this
            simp only [lab', ht, if_neg hq])
        (Own.move ho (fun k m hk _ hl => ⟨rfl, by
          simp only [List.nil_append] at hl ⊢
          simp only [lab', hl, if_true]⟩) (Nat.le_refl _) (fun _ _ h => h))
      have hsub : ∀ u, g'.rw[r]? = some u → g'.rw[st.rows.length]? = some u := by
        intro u hu
        rw [hrw, List.getElem?_append_left hlt, hv] at hu
        injection hu with hu
        subst hu
        rw [hrw, hm.rl]
        simp
      refine ⟨g', hle, AV.subs_rel hsub (hR.tmps.imp fun _ _ => AV.R_le hle), hR.defers, by simp [hm'.bl], fun {b t cs blk} hb hx => ?_, hm'.free, hm'.inj, hm'.rl, hm'.row, hm'.st, hm'.dom⟩
      rw [List.getElem?_map] at hb
      cases hbb : st.boxes[b]? with
      | none => rw [hbb] at hb; cases hb
      | some bc =>
        rw [hbb] at hb
        injection hb with hb
        injection hb with hb1 hb2
        subst hb1; subst hb2
        obtain ⟨vs, hh, hF⟩ := hm'.box (t := bc.1) (cs := bc.2) hbb hx
        exact ⟨vs, hh, AL.subs_rel hsub hF⟩
    · exact ⟨g, .refl g, hR⟩
  · exact ⟨g, .refl g, hR⟩
theorem renew_rel {a : Act} {w : World} : ∀ (rs : List Nat) {st : St} {g : Gh}, Rel st g a w → ∃ g', g.le g' ∧ Rel (st.renew rs) g' a w
  | [], _, g, hR => ⟨g, .refl g, hR⟩
  | r :: rs, _, _, hR => by
    obtain ⟨g1, h1, hR1⟩ := renew1_rel hR r
    obtain ⟨g2, h2, hR2⟩ := renew_rel rs hR1
    exact ⟨g2, h1.trans h2, hR2⟩
end Go.Proofs.YtmbcnpbgcfiafaaGreat.Vm
