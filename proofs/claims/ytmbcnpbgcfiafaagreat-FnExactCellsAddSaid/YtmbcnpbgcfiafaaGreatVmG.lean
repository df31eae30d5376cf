/- A walk by reckoning, seventh part: regions in the text's order. -/
import Derived.Test.YtmbcnpbgcfiafaaGreatVmN
namespace Go.Proofs.YtmbcnpbgcfiafaaGreat.Vm
open Go Go.RowKit Go.Proofs.YtmbcnpbgcfiafaaGreatW.PrintWords
set_option linter.unusedVariables false
set_option linter.unusedSimpArgs false

def yieldA (ops : Array Oper) (st : St) (j : Nat) : Option (Option Bool) :=
  match (ops[j]?).bind (·.dst) with
  | none => some none
  | some d =>
    match st.tmps[d]? with
    | none => some none
    | some (.s1 (.one (.val (.bool b)))) => some (some b)
    | some (.s1 (.one (.val _))) => some none
    | some (.tup _) => some none
    | some (.s1 (.agg _)) => some none
    | _ => none
def St.know (st : St) (ops : Array Oper) (j : Nat) (b : Bool) : St :=
  match (ops[j]?).bind (·.dst) with
  | none => st
  | some d => st.put (some d) (.s1 (.one (.val (.bool b))))
section
variable (P : Program) {ρ : Type} (G : Env)
noncomputable def evOps (ops : Array Oper) : List Oper → St → (St → Option ρ) → Option ρ
  | [], st, k => k st
  | o :: rest, st, k =>
    match o.guard with
    | none => stepX P G o st fun st' => evOps ops rest st' k
    | some (j, want) =>
      match yieldA ops st j with
      | none => none
      | some none => evOps ops rest (st.put o.dst (.s1 (.one (.val undef)))) k
      | some (some b) =>
        cond b
          (if want = true then stepX P G o (st.know ops j true) fun st' => evOps ops rest st' k else evOps ops rest ((st.know ops j true).put o.dst (.s1 (.one (.val undef)))) k)
          (if want = true then evOps ops rest ((st.know ops j false).put o.dst (.s1 (.one (.val undef)))) k else stepX P G o (st.know ops j false) fun st' => evOps ops rest st' k)
end
section
variable {P : Program} {ρ : Type} {G : Env} {N : Nat × Nat} {st : St} {k : St → Option ρ} {r : ρ} {g : Gh} {a : Act} {w : World}
theorem yield_rel {ops : Array Oper} {j : Nat} {y : Option Bool} (hR : Rel st g a w) (h : yieldA ops st j = some y) : yielded ops a.tmps j = y := by
  unfold yieldA at h
  unfold yielded
  cases hd : (ops[j]?).bind (·.dst) with
  | none =>
    rw [hd] at h
    simp only [Option.some.injEq] at h
    subst h
    rfl
  | some d =>
    rw [hd] at h
    simp only at h
    simp only [Option.bind_some]
    have hl := hR.tmps.length
    cases hx : st.tmps[d]? with
    | none =>
      rw [hx] at h
      simp only [Option.some.injEq] at h
      subst h
      have : a.tmps[d]? = none := by
        rw [List.getElem?_eq_none_iff] at hx
        simp at hl ⊢
        omega
      rw [this]
    | some x =>
      rw [hx] at h
      obtain ⟨v, hv, hr⟩ := hR.tmps.get hx
      have hv' : a.tmps[d]? = some v := by simpa using hv
      rw [hv']
      split at h
      · rename_i he; cases he
      · rename_i b he
        simp only [Option.some.injEq] at he h
        subst he
        subst h
        obtain rfl : v = .bool b := hr
        rfl
      · rename_i u hne he
        simp only [Option.some.injEq] at he h
        subst he
        subst h
        obtain rfl : v = u := hr
        cases v <;> first
          | rfl
          | exact absurd rfl (hne _)
      · rename_i xs he
        simp only [Option.some.injEq] at he h
        subst he
        subst h
        obtain ⟨vs, rfl, _⟩ := hr
        rfl
      · rename_i xs he
        simp only [Option.some.injEq] at he h
        subst he
        subst h
        obtain ⟨vs, rfl, _⟩ := hr
        rfl
      · cases h
theorem know_rel {ops : Array Oper} {j : Nat} {b : Bool} (hR : Rel st g a w) (h : yieldA ops st j = some (some b)) : Rel (st.know ops j b) g a w := by
  have hy := yield_rel hR h
  unfold St.know
  unfold yielded at hy
  cases hd : (ops[j]?).bind (·.dst) with
  | none => exact hR
  | some d =>
    rw [hd] at hy
    simp only [Option.bind_some] at hy
    have hv : a.tmps[d]? = some (.bool b) := by
      split at hy
      · rename_i b' hb
        rw [hb]
        injection hy with hy
        rw [hy]
      · cases hy
    refine ⟨?_, hR.defers, by rw [(put_mem _ _).1, (put_mem _ _).2]; exact hR.mem⟩
    have := hR.tmps.set d (x := .s1 (.one (.val (.bool b)))) (y := .bool b) rfl
    have e : a.tmps.toList.set d (.bool b) = a.tmps.toList := by
      apply List.ext_getElem?
      intro i
      rw [List.getElem?_set]
      split
      · rename_i hi
        subst hi
        have : a.tmps.toList[d]? = some (.bool b) := by simpa using hv
        rw [this]
        rw [if_pos (List.getElem?_eq_some_iff.1 this).1]
      · rfl
    rw [e] at this
    exact this
theorem skip_rel (hR : Rel st g a w) (dst : Option Tmp) : Rel (st.put dst (.s1 (.one (.val undef)))) g (a.put dst undef) w :=
  hR.value (.refl g) rfl hR.mem dst (x := .s1 (.one (.val undef))) (v := undef) rfl
theorem evOps_sound (hG : ∀ f E, G f = some E → Good P f E.F) {ops : Array Oper} {Q : Exit → Act → World → Prop} : ∀ (l : List Oper) (st : St) (g : Gh) (a : Act) (w : World), evOps P G ops l st k = some r → Rel st g a w →
    (∀ st' g' a' w', g.ext N g' → Rel st' g' a' w' → k st' = some r → Q .normal a' w') → wpList P ops Q l a w
  | [], st, g, a, w, h, hR, hQ => wpList_nil (hQ st g a w (.refl _ _) hR h)
  | o :: rest, st, g, a, w, h, hR, hQ => by
    have run : ∀ (st1 : St), Rel st1 g a w → (stepX P G o st1 fun st' => evOps P G ops rest st' k) = some r → o.wp P a w (wpList P ops Q rest) Q := fun st1 hR1 h1 =>
      stepX_sound hG h1 hR1 fun st' g' a' w' hw hR' h' => evOps_sound hG rest st' g' a' w' h' hR' fun st2 g2 a2 w2 hw2 => hQ st2 g2 a2 w2 (hw.trans hw2)
    have skip : ∀ (st1 : St), Rel st1 g a w → evOps P G ops rest (st1.put o.dst (.s1 (.one (.val undef)))) k = some r → wpList P ops Q rest (a.put o.dst undef) w := fun st1 hR1 h1 =>
      evOps_sound hG rest _ g _ w h1 (skip_rel hR1 o.dst) hQ
    unfold wpList
    unfold evOps at h
    cases hgd : o.guard with
    | none =>
      rw [hgd] at h
      rw [if_pos (by simp [Region.wanted, hgd])]
      exact .inl (run st hR h)
    | some jw =>
      obtain ⟨j, want⟩ := jw
      rw [hgd] at h
      simp only at h
      have hwant : Region.wanted o (yielded ops a.tmps) = (yielded ops a.tmps j == some want) := by simp [Region.wanted, hgd]
      split at h
      · cases h
      · rename_i hy
        have := yield_rel hR hy
        rw [if_neg (by rw [hwant, this]; simp)]
        exact skip st hR h
      · rename_i b hy
        have hyy := yield_rel hR hy
        have hR1 := know_rel hR hy
        rcases cond_some h with ⟨rfl, h⟩ | ⟨rfl, h⟩
        · split at h
          · rename_i hw
            rw [if_pos (by rw [hwant, hyy, hw]; rfl)]
            exact .inl (run _ hR1 h)
          · rename_i hw
            rw [if_neg (by rw [hwant, hyy]; simpa using hw)]
            exact skip _ hR1 h
        · split at h
          · rename_i hw
            rw [if_neg (by rw [hwant, hyy, hw]; decide)]
            exact skip _ hR1 h
          · rename_i hw
            have : want = false := by simpa using hw
            rw [if_pos (by rw [hwant, hyy, this]; rfl)]
            exact .inl (run _ hR1 h)
end

end Go.Proofs.YtmbcnpbgcfiafaaGreat.Vm
