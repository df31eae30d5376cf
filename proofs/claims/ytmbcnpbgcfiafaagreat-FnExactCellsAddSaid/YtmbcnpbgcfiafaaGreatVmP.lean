/- A walk by reckoning: regions whose order is drawn. -/
import Derived.Test.YtmbcnpbgcfiafaaGreatVmG
import Derived.Orders
namespace Go.Proofs.YtmbcnpbgcfiafaaGreat.Vm
open Go Go.RowKit Go.Proofs.YtmbcnpbgcfiafaaGreatW.PrintWords
set_option linter.unusedVariables false
set_option linter.unusedSimpArgs false

section
variable {P : Program} {ops : Array Oper} {Q : Exit → Act → World → Prop} {md : Region.Mode}
theorem wpOp_put_any {j : Nat} {oj : Oper} {dst : Option Tmp} {v : Value} (hj : ops[j]? = some oj) (h1 : ∀ d, dst = some d → d ∉ oj.looksAt ops) (h2 : ∀ d, dst = some d → oj.dst ≠ some d) (hsj : ∀ cs b, oj.op ≠ .select cs b)
    (hQ : ∀ c a w, ¬ Q (.panic c) a w) {K : Act → World → Prop} {a : Act} {w : World} (h : wpOp P ops Q j K (a.put dst v) w) :
    wpOp P ops Q j (fun a' w' => (∃ u ds, a' = ({ a with defers := ds } : Act).put oj.dst u) ∧ K (a'.put dst v) w') a w := by
  unfold wpOp at *
  simp only [hj] at *
  rw [wanted_put oj a dst v h1] at h
  split
  · rename_i hw
    simp only [hw, if_true] at h
    rcases h with h | ⟨hasks, hlets⟩
    · refine .inl ?_
      unfold Oper.wp at *
      rw [execOp_put oj hsj a dst v h1] at h
      generalize (execOp a.eval oj).run P w = r at *
      cases r with
      | ok n w' =>
        cases n with
        | value u => exact ⟨⟨u, a.defers, rfl⟩, by have h : K ((a.put dst v).put oj.dst u) w' := h; rwa [Act.put_comm a v u h2] at h⟩
        | skip => exact ⟨⟨undef, a.defers, rfl⟩, by have h : K ((a.put dst v).put oj.dst undef) w' := h; rwa [Act.put_comm a v undef h2] at h⟩
        | defer d =>
          simp only [Oper.upon] at h ⊢
          refine ⟨⟨undef, d :: a.defers, rfl⟩, ?_⟩
          rw [← Act.put_comm _ v undef h2, ← Act.put_defers]
          exact h
        | enter f args =>
          refine Calls.mono h fun e w'' he => ?_
          cases e with
          | returned u => exact ⟨⟨u, a.defers, rfl⟩, by have he : K ((a.put dst v).put oj.dst u) w'' := he; rwa [Act.put_comm a v u h2] at he⟩
          | panicked c => exact absurd he (hQ _ _ _)
          | outgrown => exact he
        | row row args => exact Rows.mono h fun u w'' he => ⟨⟨u, a.defers, rfl⟩, by rw [← Act.put_comm a v u h2]; exact he⟩
        | _ => exact h.elim
      | halt x w' =>
        cases x with
        | panic u => exact absurd h (hQ _ _ _)
        | _ => exact h.elim
    · exact .inr ⟨by unfold Oper.asks at *; rw [execOp_put oj hsj a dst v h1] at hasks; exact hasks, hlets⟩
  · rename_i hw
    simp only [hw] at h
    exact ⟨⟨undef, a.defers, rfl⟩, by rw [← Act.put_comm a v undef h2]; exact h⟩
def YT (P : Program) (ops : Array Oper) (o : Oper) (v : Value) (D : World → Prop) (a : Act) : Prop :=
  (Region.wanted o (yielded ops a.tmps) = true ∧ ∀ w, D w → (execOp a.eval o).run P w = .ok (.value v) w) ∨ (Region.wanted o (yielded ops a.tmps) = false ∧ v = undef)
theorem YT.keep {o : Oper} {v : Value} {D : World → Prop} {a a' : Act} (hy : YT P ops o v D a) (hs : ∀ cs b, o.op ≠ .select cs b) {dst : Option Tmp} (h : ∀ d, dst = some d → d ∉ o.looksAt ops) (ha : ∃ u ds, a' = ({ a with defers := ds } : Act).put dst u) : YT P ops o v D a' := by
  obtain ⟨u, ds, rfl⟩ := ha
  unfold YT at *
  rw [execOp_put o hs _ dst u h, wanted_put o _ dst u h]
  exact hy
theorem YT.wpOp {i : Nat} {o : Oper} {v : Value} {D : World → Prop} {a : Act} (hi : ops[i]? = some o) (hy : YT P ops o v D a) {K : Act → World → Prop} {w : World} (hD : D w) (h : K (a.put o.dst v) w) : wpOp P ops Q i K a w := by
  unfold Go.wpOp
  simp only [hi]
  rcases hy with ⟨hw, hv⟩ | ⟨hw, rfl⟩
  · simp only [hw, if_true, Oper.wp, hv w hD, Oper.upon]; exact .inl h
  · simp only [hw, Bool.false_eq_true, if_false]; exact h
def wpAnyT (P : Program) (md : Region.Mode) (ops : Array Oper) (Q : Exit → Act → World → Prop) (T : Array Bool → World → Prop) : Nat → Array Bool → Act → World → Prop
  | 0, listed, a, w => Region.ready md ops listed = [] ∧ Q .normal a w
  | n + 1, listed, a, w => (Region.ready md ops listed = [] → Q .normal a w) ∧
    ∀ i ∈ Region.ready md ops listed, wpOp P ops Q i (fun a' w' => T (listed.setIfInBounds i true) w' ∧ wpAnyT P md ops Q T n (listed.setIfInBounds i true) a' w') a w
theorem wpAnyT.any {T : Array Bool → World → Prop} : ∀ {n : Nat} {listed : Array Bool} {a : Act} {w : World}, wpAnyT P md ops Q T n listed a w → wpAny P md ops Q n listed a w
  | 0, _, _, _, h => h
  | n + 1, _, _, _, h => ⟨h.1, fun i hi => wpOp_mono (fun a' w' h' => wpAnyT.any h'.2) (h.2 i hi)⟩
theorem wpAnyT.mono {T T' : Array Bool → World → Prop} {I : Array Bool → Prop} (hI : ∀ L i, I L → I (L.setIfInBounds i true)) (hT : ∀ L w, I L → T L w → T' L w) : ∀ {n : Nat} {listed : Array Bool} {a : Act} {w : World}, I listed → wpAnyT P md ops Q T n listed a w → wpAnyT P md ops Q T' n listed a w
  | 0, _, _, _, _, h => h
  | n + 1, _, _, _, hl, h => ⟨h.1, fun i hi => wpOp_mono (fun a' w' h' => ⟨hT _ _ (hI _ i hl) h'.1, wpAnyT.mono hI hT (hI _ i hl) h'.2⟩) (h.2 i hi)⟩
theorem getD_self {L : Array Bool} (i : Nat) : (L.setIfInBounds i true).getD i true = true := by
  rw [Array.getD_eq_getD_getElem?, Array.getElem?_setIfInBounds]
  split
  · split <;> rfl
  · rename_i he; exact absurd rfl he
theorem wpAnyT_take {i : Nat} {oi : Oper} {v : Value} {S : List Nat} {T : Array Bool → World → Prop} {D' : World → Prop} (hi : ops[i]? = some oi) (hiS : i ∉ S) (hTi : ∀ L w, T (L.setIfInBounds i true) w ↔ T L w) (hsel : ∀ (j : Nat) (o : Oper) cs b, ops[j]? = some o → o.op ≠ .select cs b) (hQ : ∀ c a w, ¬ Q (.panic c) a w)
    (hw : ∀ s ∈ S, ∀ o, ops[s]? = some o → ∃ e ∈ o.after, Region.binds md e = true ∧ e.on = i) :
    ∀ (n : Nat) (listed : Array Bool) (a : Act) (w : World),
      (∀ j oj, ops[j]? = some oj → j ≠ i → listed.getD j true = false → (∀ e ∈ oj.after, Region.binds md e = true → e.on ≠ i) → oi.apart ops oj = true) →
      ((∀ s ∈ S, listed.getD s true = false) ∨ ∀ w, D' w) →
      i ∈ Region.ready md ops listed → YT P ops oi v D' a → D' w → T listed w →
      wpAnyT P md ops Q (fun L w => T L w ∧ ((∀ s ∈ S, L.getD s true = false) → D' w)) n (listed.setIfInBounds i true) (a.put oi.dst v) w → wpAnyT P md ops Q T (n + 1) listed a w := by
  intro n
  induction n with
  | zero =>
    intro listed a w _ _ hr hy hD hT H
    refine ⟨fun h => (by rw [h] at hr; cases hr), fun j hj => ?_⟩
    by_cases hji : j = i
    · subst hji; exact hy.wpOp hi hD ⟨(hTi _ _).2 hT, H⟩
    · have := ready_mono hj hji
      rw [H.1] at this
      cases this
  | succ n ih =>
    intro listed a w hfree hS hr hy hD hT H
    refine ⟨fun h => (by rw [h] at hr; cases hr), fun j hj => ?_⟩
    by_cases hji : j = i
    · subst hji; exact hy.wpOp hi hD ⟨(hTi _ _).2 hT, wpAnyT.mono (I := fun _ => True) (fun _ _ _ => trivial) (fun L w _ h => h.1) trivial H⟩
    · have h1 := H.2 j (ready_mono hj hji)
      obtain ⟨hjun, oj, hoj, hall⟩ := mem_ready.1 hj
      have hnot : ∀ e ∈ oj.after, Region.binds md e = true → e.on ≠ i := fun e he hb heq => by
        have h1 := hall e he hb
        have h0 := (mem_ready.1 hr).1
        rw [heq] at h1
        rcases Nat.lt_or_ge i listed.size with h' | h'
        · simp [h'] at h0 h1; rw [h0] at h1; cases h1
        · simp [Array.getElem?_eq_none h'] at h1
      obtain ⟨hap1, hap2, hap3⟩ := Oper.apart_spec (hfree j oj hoj hji hjun hnot)
      have h2 := wpOp_put_any hoj hap1 hap2 (fun cs b => hsel j oj cs b hoj) hQ h1
      have hfree' : ∀ k ok, ops[k]? = some ok → k ≠ i → (listed.setIfInBounds j true).getD k true = false →
          (∀ e ∈ ok.after, Region.binds md e = true → e.on ≠ i) → oi.apart ops ok = true := fun k ok hk hki hun hno => by
        refine hfree k ok hk hki ?_ hno
        by_cases hjk : j = k
        · subst hjk; exact hjun
        · rw [getD_set_ne true hjk] at hun; exact hun
      have hS' : (∀ s ∈ S, (listed.setIfInBounds j true).getD s true = false) ∨ ∀ w, D' w := by
        rcases hS with hS | hS
        · refine .inl fun s hs => ?_
          by_cases hjs : j = s
          · subst hjs
            obtain ⟨e, he, hb, heq⟩ := hw j hs oj hoj
            exact absurd heq (hnot e he hb)
          · rw [getD_set_ne true hjs]; exact hS s hs
        · exact .inr hS
      refine wpOp_mono (fun a' w' h3 => ?_) h2
      obtain ⟨hform, hT2, h4⟩ := h3
      rw [Array.setIfInBounds_comm _ _ (Ne.symm hji)] at h4
      rw [Array.setIfInBounds_comm _ _ (Ne.symm hji)] at hT2
      have hT3 := (hTi _ _).1 hT2.1
      have hD2 : D' w' := by
        rcases hS' with hS' | hS'
        · refine hT2.2 fun s hs => ?_
          rw [getD_set_ne true (show i ≠ s from fun e => hiS (e ▸ hs))]
          exact hS' s hs
        · exact hS' w'
      exact ⟨hT3, ih (listed.setIfInBounds j true) a' w' hfree' hS' (ready_mono hr (Ne.symm hji)) (hy.keep (fun cs b => hsel i oi cs b hi) hap3 hform) hD2 hT3 h4⟩
end

section
variable (P : Program) {ρ : Type}
noncomputable def pureC (o : Oper) (st : St) (k : AV → Option ρ) : Option ρ :=
  match o.op with
  | .move x => k (st.eval x)
  | .assign x => k (st.eval x)
  | .pick c a b =>
    match st.eval c with
    | .s1 (.one (.val (.bool t))) => cond t (k (st.eval a)) (k (st.eval b))
    | _ => none
  | .binOp op xT x y _ =>
    match st.eval x, st.eval y with
    | .s1 (.one (.val a)), .s1 (.one (.val b)) => binA op a b fun v => k (.s1 (.one (.val v)))
    | .s1 (.one (.sl r)), .s1 (.one (.val (.slice none 0 0))) => nilA P st r op xT fun v => k (.s1 (.one (.val v)))
    | .s1 (.agg xs), .s1 (.agg ys) =>
      match op with
      | .eql =>
        match eqSA P xT xs ys with
        | some b => k (.s1 (.one (.val (.bool b))))
        | none => none
      | .neq =>
        match eqSA P xT xs ys with
        | some b => k (.s1 (.one (.val (.bool (!b)))))
        | none => none
      | _ => none
    | _, _ => none
  | .nilCheck x =>
    match st.eval x with
    | .s1 (.one (.ptr b off)) => k (.s1 (.one (.ptr b off)))
    | .s1 (.one (.ept r sz i off)) => k (.s1 (.one (.ept r sz i off)))
    | _ => none
  | .unOp op _ x =>
    match st.eval x with
    | .s1 (.one (.val a)) => unA op a fun v => k (.s1 (.one (.val v)))
    | _ => none
  | .convert src dst x =>
    match P.underlying src, P.underlying dst, st.eval x with
    | some _, some (.int kd), .s1 (.one (.val (.int _ n))) => k (.s1 (.one (.val (.int kd (kd.wrap n)))))
    | _, _, _ => none
  | .fieldAddr s x f =>
    match fieldOff P s f, st.eval x with
    | some d, .s1 (.one (.ptr b off)) => k (.s1 (.one (.ptr b (off + d))))
    | some d, .s1 (.one (.ept r sz i off)) => k (.s1 (.one (.ept r sz i (off + d))))
    | _, _ => none
  | .indexAddr t x ix =>
    match P.underlying t, st.eval x, st.eval ix with
    | some (.slice e), .s1 (.one (.sl r)), .s1 (.one (.val (.int _ i))) =>
      match st.rows[r]?, sizeA P e with
      | some row, some n =>
        match row.md with
        | .dead => none
        | _ => if row.s.sz = n then cond (decide (0 ≤ i ∧ i < (row.xs.length : Int))) (k (.s1 (.one (.ept r n i 0)))) none else none
      | _, _ => none
    | some (.slice e), .s1 (.one (.vw r sz lo hi)), .s1 (.one (.val (.int _ i))) =>
      match st.rows[r]?, sizeA P e with
      | some row, some n =>
        match row.md with
        | .dead => none
        | _ => if sz = n then cond (decide (0 ≤ i ∧ i < hi - lo)) (k (.s1 (.one (.ept r n (lo + i) 0)))) none else none
      | _, _ => none
    | _, _, _ => none
  | .extract t i =>
    match st.eval t with
    | .tup xs =>
      match xs[i]? with
      | some y => k (.s1 y)
      | none => none
    | _ => none
  | .build t parts =>
    match buildA P st t parts.toList with
    | some cs => k (.s1 (.agg cs))
    | none => none
  | .call c =>
    match c.callee with
    | .builtin .len =>
      match c.args.toList, c.argTypes.toList with
      | [x], [t] =>
        if isLen P t (st.eval x) = true then
          match lenA st (st.eval x) with
          | some n => k (.s1 (.one (.val (.int .i64 n))))
          | none => none
        else none
      | _, _ => none
    | .builtin .min =>
      match c.args.toList with
      | [x, y] =>
        match st.eval x, st.eval y with
        | .s1 (.one (.val (.int k1 a))), .s1 (.one (.val (.int _ b))) => k (.s1 (.one (.val (.int k1 (if b < a then b else a)))))
        | _, _ => none
      | _ => none
    | .builtin .max =>
      match c.args.toList with
      | [x, y] =>
        match st.eval x, st.eval y with
        | .s1 (.one (.val (.int k1 a))), .s1 (.one (.val (.int _ b))) => k (.s1 (.one (.val (.int k1 (if b > a then b else a)))))
        | _, _ => none
      | _ => none
    | .value x =>
      match calleeA st x with
      | some fc => natA P fc.1 (c.args.toList.map st.eval ++ fc.2) k
      | none => none
    | _ => none
  | .slice t x lo hi none =>
    match st.eval x, optI st lo, optI st hi with
    | .s1 (.one y), some l, some h => cutA P st t y l h fun z => k (.s1 (.one z))
    | _, _, _ => none
  | _ => none
end
section
variable {P : Program} {ρ : Type} {o : Oper} {st : St} {k : AV → Option ρ} {r : ρ} {g : Gh} {a : Act} {w : World}
theorem pureC_run (h : pureC P o st k = some r) (hR : Rel st g a w) : ∃ x v, k x = some r ∧ x.R g v ∧ ∀ w1, (execOp a.eval o).run P w1 = .ok (.value v) w1 := by
  have ev := fun x => eval_rel hR.tmps x
  unfold pureC at h
  split at h
  · rename_i x ho
    exact ⟨_, _, h, ev x, fun w1 => by simp [execOp, ho]⟩
  · rename_i x ho
    exact ⟨_, _, h, ev x, fun w1 => by simp [execOp, ho]⟩
  · rename_i c x y ho
    split at h
    · rename_i t ht
      have hc : a.eval c = .bool t := val_get (ev c) ht
      rcases cond_some h with ⟨rfl, h⟩ | ⟨rfl, h⟩
      · exact ⟨_, _, h, ev x, fun w1 => by simp [execOp, ho, hc, asBool]⟩
      · exact ⟨_, _, h, ev y, fun w1 => by simp [execOp, ho, hc, asBool]⟩
    · cases h
  · rename_i op xT x y yT ho
    split at h
    · rename_i u v hu hv
      obtain ⟨z, hz, hrun⟩ := binA_run (P := P) (xT := xT) (ox := x) (oy := y) h
      have e1 := val_get (ev x) hu
      have e2 := val_get (ev y) hv
      refine ⟨.s1 (.one (.val z)), z, hz, rfl, fun w1 => ?_⟩
      have := hrun w1
      simp only [execOp, ho, e1, e2]
      rw [Sem.run_bind, this]
      rfl
    · rename_i r' hu hv
      have hx : g.rw[r']? = some (a.eval x) := one_get (ev x) hu
      have e2 := val_get (ev y) hv
      obtain ⟨z, hz, hrun⟩ := nilA_run hR.mem (ox := x) (oy := y) hx h
      refine ⟨.s1 (.one (.val z)), z, hz, rfl, fun w1 => ?_⟩
      simp only [execOp, ho, e2]
      rw [Sem.run_bind, hrun w1]
      rfl
    · rename_i xs ys hx hy
      have e1 := ev x
      rw [hx] at e1
      obtain ⟨us, e1, hF1⟩ := e1
      have e2 := ev y
      rw [hy] at e2
      obtain ⟨vs, e2, hF2⟩ := e2
      split at h
      · split at h
        · rename_i b hb
          refine ⟨.s1 (.one (.val (.bool b))), .bool b, h, rfl, fun w1 => ?_⟩
          obtain ⟨h1, h2⟩ := eqSA_run (op := .eql) (ox := x) (oy := y) hb hF1 hF2 w1
          simp only [execOp, ho, e1, e2]
          simp [Sem.run_bind, h1, run_eql_struct, h2]
        · cases h
      · split at h
        · rename_i b hb
          refine ⟨.s1 (.one (.val (.bool (!b)))), .bool (!b), h, rfl, fun w1 => ?_⟩
          obtain ⟨h1, h2⟩ := eqSA_run (op := .neq) (ox := x) (oy := y) hb hF1 hF2 w1
          simp only [execOp, ho, e1, e2]
          simp [Sem.run_bind, h1, run_neq_struct, h2]
        · cases h
      · cases h
    · cases h
  · rename_i x ho
    split at h
    · rename_i b off hp
      have hx := one_get (ev x) hp
      have hx2 := hx
      obtain ⟨blk, _, hv⟩ := hx2
      exact ⟨.s1 (.one (.ptr b off)), a.eval x, h, hx, fun w1 => by simp [execOp, ho, hv]⟩
    · rename_i r' sz i off hp
      have hx := one_get (ev x) hp
      have hx2 := hx
      obtain ⟨ad, n, c, _, _, _, hv⟩ := hx2
      exact ⟨.s1 (.one (.ept r' sz i off)), a.eval x, h, hx, fun w1 => by simp [execOp, ho, hv]⟩
    · cases h
  · rename_i op xT x ho
    split at h
    · rename_i u hu
      obtain ⟨z, hz, hrun⟩ := unA_run (P := P) h
      have e1 := val_get (ev x) hu
      refine ⟨.s1 (.one (.val z)), z, hz, rfl, fun w1 => ?_⟩
      have := hrun w1
      simp only [execOp, ho, e1]
      rw [Sem.run_bind, this]
      rfl
    · cases h
  · rename_i src dst x ho
    split at h
    · rename_i d kd k' n hs hd hx
      have e1 := val_get (ev x) hx
      refine ⟨.s1 (.one (.val (.int kd (kd.wrap n)))), .int kd (kd.wrap n), h, rfl, fun w1 => ?_⟩
      simp [execOp, ho, e1, convert, run_underlying hs, run_underlying hd, Conv.intToInt]
    · cases h
  · rename_i s x f ho
    split at h
    · rename_i d b off hd hp
      obtain ⟨blk, hb, hv⟩ := one_get (ev x) hp
      refine ⟨.s1 (.one (.ptr b (off + d))), .pointer (some ⟨blk, off + d, none⟩), h, ⟨blk, hb, rfl⟩, fun w1 => ?_⟩
      have := fieldOff_run hd ⟨blk, off, none⟩ w1
      rw [add_at] at this
      simp [execOp, ho, hv, this]
    · rename_i d r' sz i off hd hp
      obtain ⟨ad, n, c, hb, h0, h1, hv⟩ := one_get (ev x) hp
      refine ⟨.s1 (.one (.ept r' sz i (off + d))), .pointer (some (ad.add (i.toNat * sz + (off + d)))), h, ⟨ad, n, c, hb, h0, h1, rfl⟩, fun w1 => ?_⟩
      have := fieldOff_run hd (ad.add (i.toNat * sz + off)) w1
      rw [add2, Nat.add_assoc] at this
      simp [execOp, ho, hv, this]
    · cases h
  · rename_i t x ix ho
    split at h
    · rename_i e r' k' i hu hp hi
      split at h
      · rename_i row n hrow hn
        split at h
        · cases h
        · rename_i hd
          split at h
          · rename_i hsz
            rcases cond_some h with ⟨hc, h⟩ | ⟨_, h⟩
            · obtain ⟨h0, h1⟩ := of_decide_eq_true hc
              have hv : g.rw[r']? = some (a.eval x) := one_get (ev x) hp
              have e2 := val_get (ev ix) hi
              obtain ⟨A, c, hA, hl, hC, _⟩ := (hR.mem.row hrow hv).reads hR.mem.st hd
              obtain ⟨ad, cs, rfl, _⟩ := Kd.C_get hC row.s.dflt i h0 h1
              obtain ⟨ti, hti, htn⟩ := Option.map_eq_some_iff.1 hn
              refine ⟨.s1 (.one (.ept r' n i 0)), .pointer (some (ad.add (i.toNat * n + 0))), h, ⟨ad, _, c, hA ▸ hv, h0, h1, rfl⟩, fun w1 => ?_⟩
              simp [execOp, ho, hA, e2, Instr.indexAt, asIntOf, run_underlying hu, h0, h1, sizeOf, typeInfo, hti, htn]
            · cases h
          · cases h
      · cases h
    · rename_i e r' sz lo hi k' i hu hp hi'
      split at h
      · rename_i row n hrow hn
        split at h
        · cases h
        rename_i hd
        split at h
        · rename_i hsz
          rcases cond_some h with ⟨hc, h⟩ | ⟨_, h⟩
          · obtain ⟨h0, h1⟩ := of_decide_eq_true hc
            obtain ⟨A, m, c, A', hv, h2, h3, h4, h5, h6, _, hx⟩ := one_get (ev x) hp
            have e2 := val_get (ev ix) hi'
            obtain ⟨ti, hti, htn⟩ := Option.map_eq_some_iff.1 hn
            subst hsz
            have hAn : ∃ ad, A = some ad := by
              obtain ⟨B, d, he, _, h7, _⟩ := (hR.mem.row hrow hv).reads hR.mem.st hd
              injection he with he1 he2 he3
              subst he1
              obtain ⟨ad, _, hA, _⟩ := Kd.C_get h7 row.s.dflt (lo + i) (by omega) (by omega)
              exact ⟨ad, hA⟩
            obtain ⟨ad, rfl⟩ := hAn
            have hA' := h6 (by omega)
            simp only [Option.map_some] at hA'
            subst hA'
            have hnn : ((hi.toNat - lo.toNat : Nat) : Int) = hi - lo := by omega
            refine ⟨.s1 (.one (.ept r' sz (lo + i) 0)), .pointer (some (ad.add ((lo + i).toNat * sz + 0))), h, ⟨ad, m, c, hv, by omega, by omega, rfl⟩, fun w1 => ?_⟩
            have e3 : (lo + i).toNat * sz = lo.toNat * sz + i.toNat * sz := by rw [← Nat.add_mul]; congr 1; omega
            simp [execOp, ho, hx, e2, Instr.indexAt, asIntOf, run_underlying hu, h0, h1, hnn, sizeOf, typeInfo, hti, htn, add2, e3]
          · cases h
        · cases h
      · cases h
    · cases h
  · rename_i t i ho
    split at h
    · rename_i xs hx
      split at h
      · rename_i y hy
        have := ev t
        rw [hx] at this
        obtain ⟨vs, hv, hF⟩ := this
        obtain ⟨u, hu, hr⟩ := hF.get hy
        have hu' : vs[i]? = some u := by simpa using hu
        exact ⟨.s1 y, u, h, hr, fun w1 => by simp [execOp, ho, hv, Instr.extract, hu']⟩
      · cases h
    · cases h
  · rename_i t parts ho
    split at h
    · rename_i cs hcs
      obtain ⟨vs, hF, hrun⟩ := buildA_run hR hcs
      exact ⟨.s1 (.agg cs), .agg vs, h, ⟨vs, rfl, hF⟩, fun w1 => by simp [execOp, ho, hrun w1]⟩
    · cases h
  · rename_i c ho
    split at h
    · rename_i hc
      split at h
      · rename_i x t hxs hts
        split at h
        · rename_i hl
          split at h
          · rename_i n hn
            have hxs' : c.args = #[x] := by rw [← Array.toArray_toList (xs := c.args), hxs]
            have hts' : c.argTypes = #[t] := by rw [← Array.toArray_toList (xs := c.argTypes), hts]
            have := fun w1 => lenA_any (P := P) (w1 := w1) (ty := o.type) hR.mem (ev x) hl hn
            exact ⟨.s1 (.one (.val (.int .i64 n))), .int .i64 n, h, rfl, fun w1 => by simp [execOp, ho, hc, resolve, invoke, builtin, hxs', hts', this w1]⟩
          · cases h
        · cases h
      · cases h
    · rename_i hc
      split at h
      · rename_i x y hxs
        split at h
        · rename_i k1 a1 k2 b1 hx hy
          have e1 := val_get (ev x) hx
          have e2 := val_get (ev y) hy
          exact ⟨.s1 (.one (.val (.int k1 (if b1 < a1 then b1 else a1)))), .int k1 (if b1 < a1 then b1 else a1), h, rfl, fun w1 => by simp [execOp, ho, hc, resolve, invoke, builtin, run_args2 hxs, e1, e2, run_min_int2]⟩
        · cases h
      · cases h
    · rename_i hc
      split at h
      · rename_i x y hxs
        split at h
        · rename_i k1 a1 k2 b1 hx hy
          have e1 := val_get (ev x) hx
          have e2 := val_get (ev y) hy
          exact ⟨.s1 (.one (.val (.int k1 (if b1 > a1 then b1 else a1)))), .int k1 (if b1 > a1 then b1 else a1), h, rfl, fun w1 => by simp [execOp, ho, hc, resolve, invoke, builtin, run_args2 hxs, e1, e2, run_max_int2]⟩
        · cases h
      · cases h
    · rename_i y hc
      split at h
      · rename_i fc hfc
        obtain ⟨us, hus, hF2⟩ := calleeA_rel (ev y) hfc
        have hargs : F2 (AV.R g) (c.args.toList.map st.eval) (c.args.map a.eval).toList := by
          rw [Array.toList_map]
          generalize c.args.toList = l
          induction l with
          | nil => trivial
          | cons y l ih => exact ⟨ev y, ih⟩
        exact natA_op h ho hc hus (hargs.append hF2)
      · cases h
    · cases h
  · rename_i t x lo hi ho
    split at h
    · rename_i y l hh hx hl hh'
      obtain ⟨z, u, hz, hk, hrun⟩ := cutA_run hR.mem (one_get (ev x) hx) (optI_rel hR hl) (optI_rel hR hh') h
      exact ⟨.s1 (.one z), u, hk, hz, fun w1 => by simp [execOp, ho, hrun w1]⟩
    · cases h
  · cases h
end
end Go.Proofs.YtmbcnpbgcfiafaaGreat.Vm
