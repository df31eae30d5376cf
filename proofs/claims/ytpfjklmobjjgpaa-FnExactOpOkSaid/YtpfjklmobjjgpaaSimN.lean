/- A walk by reckoning: the choice among all operations. -/
import Derived.Test.YtpfjklmobjjgpaaSimM
namespace Go.Proofs.Ytpfjklmobjjgpaa.Sim
open Go Go.RowKit Go.Proofs.YtpfjklmobjjgpaaW.PrintWords
set_option linter.unusedVariables false
set_option linter.unusedSimpArgs false

/-! ### An argument that is nil, as a row without elements -/
section
variable (P : Program)
def leafTs : Nat → TypeId → List TypeId
  | 0, t => [t]
  | n + 1, t =>
    match P.underlying t with
    | some (.struct fs) => fs.toList.flatMap fun f => leafTs n f.type
    | _ => [t]
def fixR1 (t : TypeId) : R1 → R1
  | .sc v =>
    match v with
    | .slice none 0 0 =>
      match P.underlying t with
      | some (.slice e) =>
        match shTy P 20 e with
        | some s => .row e s []
        | none => .sc v
      | _ => .sc v
    | _ => .sc v
  | r => r
def fixL : List TypeId → List R1 → List R1
  | _, [] => []
  | ts, r :: rs => fixR1 P (ts.headD 0) r :: fixL ts.tail rs
def fixRV (t : TypeId) : RV → RV
  | .one r => .one (fixR1 P t r)
  | .agg rs => .agg (fixL P (leafTs P 20 t) rs)
def fixRVs : List TypeId → List RV → List RV
  | _, [] => []
  | ts, r :: rs => fixRV P (ts.headD 0) r :: fixRVs ts.tail rs
end
section
variable {P : Program} {w : World}
theorem fixR1_in {t : TypeId} {r : R1} {v : Value} (h : r.In w v) : (fixR1 P t r).In w v := by
  unfold fixR1
  split
  · rename_i u
    obtain rfl : v = u := h
    split
    · split
      · split
        · rename_i s hs
          exact ⟨none, 0, rfl, Nat.le_refl _, rfl, by simp, fun h => absurd h (Nat.lt_irrefl 0)⟩
        · exact rfl
      · exact rfl
    · exact rfl
  · exact h
theorem fixL_in : ∀ {ts : List TypeId} {rs : List R1} {vs : List Value}, F2 (R1.In w) rs vs → F2 (R1.In w) (fixL P ts rs) vs
  | _, [], [], _ => trivial
  | ts, r :: rs, v :: vs, h => ⟨fixR1_in h.1, fixL_in h.2⟩
theorem fixRV_in {t : TypeId} {r : RV} {v : Value} (h : r.In w v) : (fixRV P t r).In w v := by
  cases r with
  | one r => exact fixR1_in h
  | agg rs =>
    obtain ⟨cs, e, hF⟩ := h
    exact ⟨cs, e, fixL_in hF⟩
theorem fixRVs_in : ∀ {ts : List TypeId} {rs : List RV} {vs : List Value}, F2 (RV.In w) rs vs → F2 (RV.In w) (fixRVs P ts rs) vs
  | _, [], [], _ => trivial
  | ts, r :: rs, v :: vs, h => ⟨fixRV_in h.1, fixRVs_in h.2⟩
end

/-! ### The step -/
section
variable (P : Program) {ρ : Type} (G : Env ρ)
def callX (o : Oper) (st : St) (c : Call) (k : St → Option ρ) : Option ρ :=
  match c.callee with
  | .builtin .append =>
    match c.args.toList, c.argTypes.toList with
    | [x, y], [t, t'] =>
      if t = t' then
        match st.eval x, st.eval y with
        | .s1 (.one x), .s1 (.one y) =>
          match appendA P st t x y with
          | some z => cond (decide (z.1 ≤ 140737488355328)) (k (z.2.2.put o.dst (.s1 (.one z.2.1)))) none
          | none => none
        | _, _ => none
      else none
    | _, _ => none
  | .builtin .min =>
    match c.args.toList with
    | [x, y] =>
      match st.eval x, st.eval y with
      | .s1 (.one (.val (.int k1 a))), .s1 (.one (.val (.int _ b))) => k (st.put o.dst (.s1 (.one (.val (.int k1 (if b < a then b else a))))))
      | _, _ => none
    | _ => none
  | .builtin .max =>
    match c.args.toList with
    | [x, y] =>
      match st.eval x, st.eval y with
      | .s1 (.one (.val (.int k1 a))), .s1 (.one (.val (.int _ b))) => k (st.put o.dst (.s1 (.one (.val (.int k1 (if b > a then b else a))))))
      | _, _ => none
    | _ => none
  | .value (.func f) =>
    match G f, st.toRVs (c.args.toList.map st.eval) with
    | some F, some rvs => F (fixRVs P c.argTypes.toList rvs) fun res => k ((st.back .own res).put o.dst (retA (toA1s st.rows.length res)))
    | _, _ => none
  | _ => stepOp P G o st k
def makeX (o : Oper) (st : St) (t : TypeId) (l c : Int) (k : St → Option ρ) : Option ρ :=
  match P.underlying t with
  | some (.slice e) =>
    match P.info? e, shTy P 20 e with
    | some i, some s =>
      match i.zero with
      | some z =>
        if i.size = s.sz ∧ z.cells.size = s.sz then
          match makeRow st e s z l.toNat with
          | some y => cond (decide (0 ≤ l ∧ l ≤ c ∧ (i.bytes : Int) * c ≤ 281474976710656 ∧ c ≤ 9223372036854775807)) (k (y.2.put o.dst (.s1 (.one y.1)))) none
          | none => none
        else none
      | none => none
    | _, _ => none
  | _ => none
def binX (o : Oper) (st : St) (op : BinOp) (xT : TypeId) (x y : AV) (k : St → Option ρ) : Option ρ :=
  match x, y with
  | .s1 (.agg xs), .s1 (.agg ys) =>
    match op with
    | .eql =>
      match eqSA P xT xs ys with
      | some b => k (st.put o.dst (.s1 (.one (.val (.bool b)))))
      | none => none
    | .neq =>
      match eqSA P xT xs ys with
      | some b => k (st.put o.dst (.s1 (.one (.val (.bool (!b))))))
      | none => none
    | _ => none
  | .s1 (.one (.val (.bool a))), .s1 (.one (.val (.bool b))) =>
    match P.underlying xT with
    | some .bool =>
      match op with
      | .eql => k (st.put o.dst (.s1 (.one (.val (.bool (a == b))))))
      | .neq => k (st.put o.dst (.s1 (.one (.val (.bool (!(a == b)))))))
      | _ => none
    | _ => none
  | _, _ => stepOp P G o st k
def convX (o : Oper) (st : St) (src dst : TypeId) (x : AV) (k : St → Option ρ) : Option ρ :=
  match P.underlying src, P.underlying dst with
  | some (.slice e), some .string =>
    match P.underlying e, x with
    | some (.int .u8), .s1 (.one y) =>
      match srcA st e (.int .u8) y with
      | some ys => k (st.put o.dst (.s1 (.one (.val (.string (strOfNums ys.1))))))
      | none => none
    | _, _ => none
  | _, _ => stepOp P G o st k
def stepX (o : Oper) (st : St) (k : St → Option ρ) : Option ρ :=
  match o.op with
  | .build t parts =>
    match buildA P st t parts.toList with
    | some cs => k (st.put o.dst (.s1 (.agg cs)))
    | none => none
  | .buildSlice t n parts =>
    match litA P st t n parts.toList with
    | some y => k (y.2.put o.dst (.s1 (.one y.1)))
    | none => none
  | .makeSlice t l c =>
    match st.eval l, st.eval c with
    | .s1 (.one (.val (.int _ ln))), .s1 (.one (.val (.int _ cn))) => makeX P o st t ln cn k
    | _, _ => none
  | .slice t x lo hi none =>
    match st.eval x, optI st lo, optI st hi with
    | .s1 (.one y), some l, some h => cutA P st t y l h fun z => k (st.put o.dst (.s1 (.one z)))
    | _, _, _ => none
  | .store t x y =>
    match st.eval x, st.eval y with
    | .s1 (.one (.ept r sz i off)), .s1 v =>
      match storeE P st t (.ept r sz i off) v with
      | some st' => k (st'.put o.dst (.s1 (.one (.val undef))))
      | none => none
    | _, _ => stepOp P G o st k
  | .binOp op xT x y _ => binX P G o st op xT (st.eval x) (st.eval y) k
  | .convert src dst x => convX P G o st src dst (st.eval x) k
  | .call c => callX P G o st c k
  | _ => stepOp P G o st k
end
section
variable {P : Program} {ρ : Type} {G : Env ρ} {o : Oper} {st : St} {k : St → Option ρ} {r : ρ} {g : Gh} {a : Act} {w : World} {K : Act → World → Prop} {Q : Exit → Act → World → Prop}
theorem run_args2 {c : Call} {x y : Operand} (h : c.args.toList = [x, y]) : c.args = #[x, y] := by rw [← Array.toArray_toList (xs := c.args), h]
theorem callX_sound (hG : ∀ f F, G f = some F → Good P f F) {c : Call} (ho : o.op = .call c) (h : callX P G o st c k = some r) (hR : Rel st g a w)
    (hK : ∀ st' g' a' w', g'.w0 = g.w0 → Rel st' g' a' w' → k st' = some r → K a' w') : o.wp P a w K Q := by
  have ev := fun x => eval_rel hR.tmps x
  unfold callX at h
  split at h
  · rename_i hc
    split at h
    · rename_i x y t t' hxs hts
      split at h
      · rename_i htt
        subst htt
        split at h
        · rename_i x' y' hx hy
          split at h
          · rename_i z hz
            obtain ⟨b, y1, st'⟩ := z
            rcases cond_some h with ⟨hb, h⟩ | ⟨_, h⟩
            · have hts' : c.argTypes = #[t, t] := by rw [← Array.toArray_toList (xs := c.argTypes), hts]
              obtain ⟨g', w', v', hle, hm, ht, hy1, hrun⟩ := appendA_run (ty := o.type) hR.mem (one_get (ev x) hx) (one_get (ev y) hy) hz (of_decide_eq_true hb)
              refine wp_val (v := v') (w' := w') ?_ (hK _ _ _ _ hle.w0 (hR.value hle ht hm o.dst (x := .s1 (.one y1)) hy1) h)
              simp [execOp, ho, hc, resolve, invoke, builtin, run_args2 hxs, hts', hrun]
            · cases h
          · cases h
        · cases h
      · cases h
    · cases h
  · rename_i hc
    split at h
    · rename_i x y hxs
      split at h
      · rename_i k1 a1 k2 b1 hx hy
        have e1 := val_get (ev x) hx
        have e2 := val_get (ev y) hy
        refine wp_val (v := .int k1 (if b1 < a1 then b1 else a1)) (w' := w) ?_ (hK _ _ _ _ rfl (hR.value (.refl g) rfl hR.mem o.dst (x := .s1 (.one (.val (.int k1 (if b1 < a1 then b1 else a1))))) rfl) h)
        simp [execOp, ho, hc, resolve, invoke, builtin, run_args2 hxs, e1, e2, run_min_int2]
      · cases h
    · cases h
  · rename_i hc
    split at h
    · rename_i x y hxs
      split at h
      · rename_i k1 a1 k2 b1 hx hy
        have e1 := val_get (ev x) hx
        have e2 := val_get (ev y) hy
        refine wp_val (v := .int k1 (if b1 > a1 then b1 else a1)) (w' := w) ?_ (hK _ _ _ _ rfl (hR.value (.refl g) rfl hR.mem o.dst (x := .s1 (.one (.val (.int k1 (if b1 > a1 then b1 else a1))))) rfl) h)
        simp [execOp, ho, hc, resolve, invoke, builtin, run_args2 hxs, e1, e2, run_max_int2]
      · cases h
    · cases h
  · rename_i f hc
    split at h
    · rename_i F rvs hF hrvs
      have hargs : F2 (AV.R g) (c.args.toList.map st.eval) (c.args.map a.eval).toList := by
        rw [Array.toList_map]
        generalize c.args.toList = l
        induction l with
        | nil => trivial
        | cons y l ih => exact ⟨ev y, ih⟩
      obtain ⟨hf, hgood⟩ := hG f F hF
      have hcall := hgood _ _ r h w _ (fixRVs_in (toRVs_in hR.mem hargs hrvs))
      rw [Array.toArray_toList] at hcall
      refine wp_callF (args := c.args) (ats := c.argTypes) (by rw [ho]; cases c; simp_all) hf hcall fun res vs tag w' hz hout hb => ?_
      obtain ⟨g', hle, hm, hF2⟩ := hR.mem.back hb hout
      exact hK _ _ _ _ hle.w0 (hR.value (st' := st.back .own res) hle rfl hm o.dst (retA_rel hF2)) hz
    · cases h
  · exact stepOp_sound hG h hR hK
theorem makeX_sound {t : TypeId} {l c : Operand} (ho : o.op = .makeSlice t l c) {kl kc : IntKind} {ln cn : Int} (hl : a.eval l = .int kl ln) (hc : a.eval c = .int kc cn) (h : makeX P o st t ln cn k = some r) (hR : Rel st g a w)
    (hK : ∀ st' g' a' w', g'.w0 = g.w0 → Rel st' g' a' w' → k st' = some r → K a' w') : o.wp P a w K Q := by
  unfold makeX at h
  split at h
  · rename_i e hu
    split at h
    · rename_i i s hi hs
      split at h
      · rename_i z hz
        split at h
        · rename_i hsz
          split at h
          · rename_i y hy
            obtain ⟨y1, st'⟩ := y
            rcases cond_some h with ⟨hb, h⟩ | ⟨_, h⟩
            · obtain ⟨h0, h1, h2, h3⟩ := of_decide_eq_true hb
              have hrun := run_make (P := P) w t e i z hu hi hz kl kc ln cn h0 h1 h2 h3
              rw [hsz.1] at hrun
              obtain ⟨g', hle, hm, ht, hy1⟩ := makeRow_rel hR.mem hy hsz.2 (l := ln.toNat) (c := cn.toNat) (by omega) (by omega)
              refine wp_val ?_ (hK _ _ _ _ hle.w0 (hR.value hle ht hm o.dst (x := .s1 (.one y1)) hy1) h)
              simp [execOp, ho, hl, hc, hrun]
            · cases h
          · cases h
        · cases h
      · cases h
    · cases h
  · cases h
theorem stepX_sound (hG : ∀ f F, G f = some F → Good P f F) (h : stepX P G o st k = some r) (hR : Rel st g a w)
    (hK : ∀ st' g' a' w', g'.w0 = g.w0 → Rel st' g' a' w' → k st' = some r → K a' w') : o.wp P a w K Q := by
  have ev := fun x => eval_rel hR.tmps x
  unfold stepX at h
  split at h
  · rename_i t parts ho
    split at h
    · rename_i cs hcs
      obtain ⟨vs, hF, hrun⟩ := buildA_run hR hcs
      refine wp_val (v := .agg vs) (w' := w) ?_ (hK _ _ _ _ rfl (hR.value (.refl g) rfl hR.mem o.dst (x := .s1 (.agg cs)) ⟨vs, rfl, hF⟩) h)
      simp [execOp, ho, hrun w]
    · cases h
  · rename_i t n parts ho
    split at h
    · rename_i y hy
      obtain ⟨y1, st'⟩ := y
      obtain ⟨g', w', v, hle, hm, ht, hy1, hrun⟩ := litA_run hR hy
      refine wp_val (v := v) (w' := w') ?_ (hK _ _ _ _ hle.w0 (hR.value hle ht hm o.dst (x := .s1 (.one y1)) hy1) h)
      simp [execOp, ho, hrun]
    · cases h
  · rename_i t l c ho
    split at h
    · rename_i kl ln kc cn hl hc
      exact makeX_sound ho (val_get (ev l) hl) (val_get (ev c) hc) h hR hK
    · cases h
  · rename_i t x lo hi ho
    split at h
    · rename_i y l hh hx hl hh'
      obtain ⟨z, u, hz, hk, hrun⟩ := cutA_run hR.mem (one_get (ev x) hx) (optI_rel hR hl) (optI_rel hR hh') h
      refine wp_val (v := u) (w' := w) ?_ (hK _ _ _ _ rfl (hR.value (.refl g) rfl hR.mem o.dst (x := .s1 (.one z)) hz) hk)
      simp [execOp, ho, hrun]
    · cases h
  · rename_i t x y ho
    split at h
    · rename_i q sz i off v hx hv
      split at h
      · rename_i st' hs
        have hy : v.R g (a.eval y) := by have := ev y; rw [hv] at this; exact this
        obtain ⟨g', w', hle, hm, ht, hrun⟩ := storeE_sound hR.mem (one_get (ev x) hx) hy hs
        exact wp_skp (w' := w') (by simp [execOp, ho, hrun]) (hK _ _ _ _ hle.w0 (hR.value hle ht hm o.dst (x := .s1 (.one (.val undef))) (v := undef) rfl) h)
      · cases h
    · exact stepOp_sound hG h hR hK
  · rename_i op xT x y yT ho
    unfold binX at h
    split at h
    · rename_i xs ys hx hy
      have e1 := ev x
      rw [hx] at e1
      obtain ⟨us, e1, hF1⟩ := e1
      have e2 := ev y
      rw [hy] at e2
      obtain ⟨vs, e2, hF2⟩ := e2
      split at h
      · split at h
        · rename_i b hb
          obtain ⟨h1, h2⟩ := eqSA_run (op := .eql) (ox := x) (oy := y) hb hF1 hF2 w
          refine wp_val (v := .bool b) (w' := w) ?_ (hK _ _ _ _ rfl (hR.value (.refl g) rfl hR.mem o.dst (x := .s1 (.one (.val (.bool b)))) rfl) h)
          simp only [execOp, ho, e1, e2]
          simp [Sem.run_bind, h1, run_eql_struct, h2]
        · cases h
      · split at h
        · rename_i b hb
          obtain ⟨h1, h2⟩ := eqSA_run (op := .neq) (ox := x) (oy := y) hb hF1 hF2 w
          refine wp_val (v := .bool (!b)) (w' := w) ?_ (hK _ _ _ _ rfl (hR.value (.refl g) rfl hR.mem o.dst (x := .s1 (.one (.val (.bool (!b))))) rfl) h)
          simp only [execOp, ho, e1, e2]
          simp [Sem.run_bind, h1, run_neq_struct, h2]
        · cases h
      · cases h
    · rename_i b1 b2 hx hy
      have e1 := val_get (ev x) hx
      have e2 := val_get (ev y) hy
      split at h
      · rename_i hu
        split at h
        · refine wp_val (v := .bool (b1 == b2)) (w' := w) ?_ (hK _ _ _ _ rfl (hR.value (.refl g) rfl hR.mem o.dst (x := .s1 (.one (.val (.bool (b1 == b2))))) rfl) h)
          simp only [execOp, ho, e1, e2]
          simp [eqGuard, binOp, Op.equal, Op.maxDepth, run_equalIn_bool' _ _ _ _ _ hu]
        · refine wp_val (v := .bool (!(b1 == b2))) (w' := w) ?_ (hK _ _ _ _ rfl (hR.value (.refl g) rfl hR.mem o.dst (x := .s1 (.one (.val (.bool (!(b1 == b2)))))) rfl) h)
          simp only [execOp, ho, e1, e2]
          simp [eqGuard, binOp, Op.equal, Op.maxDepth, run_equalIn_bool' _ _ _ _ _ hu]
        · cases h
      · cases h
    · exact stepOp_sound hG h hR hK
  · rename_i src dst x ho
    unfold convX at h
    split at h
    · rename_i e hs hd
      split at h
      · rename_i y he hx
        split at h
        · rename_i ys hys
          obtain ⟨xs, own, q⟩ := ys
          obtain ⟨⟨B, d, hB, hC⟩, _⟩ := srcA_rel hR.mem (one_get (ev x) hx) hys
          have hrun := Kd.C_string (P := P) (c := d) hs he hd hC
          refine wp_val (v := .string (strOfNums xs)) (w' := w) ?_ (hK _ _ _ _ rfl (hR.value (.refl g) rfl hR.mem o.dst (x := .s1 (.one (.val (.string (strOfNums xs))))) rfl) h)
          simp only [execOp, ho, hB]
          simp [hrun]
        · cases h
      · cases h
    · exact stepOp_sound hG h hR hK
  · rename_i c ho
    exact callX_sound hG ho h hR hK
  · exact stepOp_sound hG h hR hK
end
end Go.Proofs.Ytpfjklmobjjgpaa.Sim
