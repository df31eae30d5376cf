/- A walk by reckoning, sixth part: an operation, with what comes behind it. -/
import Derived.Test.YtmbcnpbgcfiafaaGreatVmD
namespace Go.Proofs.YtmbcnpbgcfiafaaGreat.Vm
open Go Go.RowKit Go.Proofs.YtmbcnpbgcfiafaaGreatW.PrintWords
set_option linter.unusedVariables false
set_option linter.unusedSimpArgs false

def eqL : List Value → List Value → Option Bool
  | [], [] => some true
  | .int k a :: xs, .int k' b :: ys => if k = k' then (eqL xs ys).map fun r => (a == b) && r else none
  | .bool a :: xs, .bool b :: ys => (eqL xs ys).map fun r => (a == b) && r
  | _, _ => none
def vals1 : List AL → Option (List Value)
  | [] => some []
  | .val v :: xs => (vals1 xs).map (v :: ·)
  | _ => none
def byteAt (s : ByteArray) (i : Int) : Int := (((s[i.toNat]?).getD 0).toNat : Int)
section
variable (P : Program) {ρ : Type}
def lenA (st : St) (x : AV) : Option Int :=
  match x with
  | .s1 (.one (.sl r)) =>
    match st.rows[r]? with
    | none => none
    | some row =>
      match row.md with
      | .dead => none
      | _ => some (row.xs.length : Nat)
  | .s1 (.one (.vw _ _ lo hi)) => some (hi - lo)
  | .s1 (.one (.val (.slice none 0 0))) => some 0
  | .s1 (.one (.val (.string s))) => some (s.size : Nat)
  | _ => none
def isLen (t : TypeId) (x : AV) : Bool :=
  match P.underlying t, x with
  | some (.slice _), .s1 (.one (.sl _)) => true
  | some (.slice _), .s1 (.one (.vw _ _ _ _)) => true
  | some (.slice _), .s1 (.one (.val (.slice none 0 0))) => true
  | some .string, .s1 (.one (.val (.string _))) => true
  | _, _ => false
def boxA (st : St) (dst : Option Tmp) (e : TypeId) (cs : List AL) : St :=
  ({ st with boxes := st.boxes ++ [(e, cs)] } : St).put dst (.s1 (.one (.ptr st.boxes.length 0)))
noncomputable def stepOp (o : Oper) (st : St) (k : St → Option ρ) : Option ρ :=
  match o.op with
  | .move x => k (st.put o.dst (st.eval x))
  | .assign x => k (st.put o.dst (st.eval x))
  | .pick c a b =>
    match st.eval c with
    | .s1 (.one (.val (.bool t))) => cond t (k (st.put o.dst (st.eval a))) (k (st.put o.dst (st.eval b)))
    | _ => none
  | .alloc e =>
    match (P.info? e).bind (·.zero) with
    | none => none
    | some z => k (boxA st o.dst e (z.cells.toList.map .val))
  | .box e x =>
    match st.eval x with
    | .s1 v => if v.cells.all st.firm = true then k (boxA st o.dst e v.cells) else none
    | _ => none
  | .load t x =>
    match st.eval x with
    | .s1 (.one p) =>
      match loadS P st t p with
      | none => none
      | some (y, st') => k (st'.put o.dst (.s1 y))
    | _ => none
  | .store t x y =>
    match st.eval x, st.eval y with
    | .s1 (.one p), .s1 v =>
      match storeS P st t p v with
      | none => none
      | some st' => k (st'.put o.dst (.s1 (.one (.val undef))))
    | _, _ => none
  | .nilCheck x =>
    match st.eval x with
    | .s1 (.one (.ptr b off)) => k (st.put o.dst (.s1 (.one (.ptr b off))))
    | .s1 (.one (.ept r sz i off)) => k (st.put o.dst (.s1 (.one (.ept r sz i off))))
    | _ => none
  | .binOp op xT x y _ =>
    match st.eval x, st.eval y with
    | .s1 (.one (.val a)), .s1 (.one (.val b)) => binA op a b fun v => k (st.put o.dst (.s1 (.one (.val v))))
    | .s1 (.one (.sl r)), .s1 (.one (.val (.slice none 0 0))) => nilA P st r op xT fun v => k (st.put o.dst (.s1 (.one (.val v))))
    | _, _ => none
  | .unOp op _ x =>
    match st.eval x with
    | .s1 (.one (.val a)) => unA op a fun v => k (st.put o.dst (.s1 (.one (.val v))))
    | _ => none
  | .convert src dst x =>
    match P.underlying src, P.underlying dst, st.eval x with
    | some _, some (.int kd), .s1 (.one (.val (.int _ n))) => k (st.put o.dst (.s1 (.one (.val (.int kd (kd.wrap n))))))
    | _, _, _ => none
  | .fieldAddr s x f =>
    match fieldOff P s f, st.eval x with
    | some d, .s1 (.one (.ptr b off)) => k (st.put o.dst (.s1 (.one (.ptr b (off + d)))))
    | some d, .s1 (.one (.ept r sz i off)) => k (st.put o.dst (.s1 (.one (.ept r sz i (off + d)))))
    | _, _ => none
  | .indexAddr t x ix =>
    match P.underlying t, st.eval x, st.eval ix with
    | some (.slice e), .s1 (.one (.sl r)), .s1 (.one (.val (.int _ i))) =>
      match st.rows[r]?, sizeA P e with
      | some row, some n =>
        match row.md with
        | .dead => none
        | _ => if row.s.sz = n then cond (decide (0 ≤ i ∧ i < (row.xs.length : Int))) (k (st.put o.dst (.s1 (.one (.ept r n i 0))))) none else none
      | _, _ => none
    | some (.slice e), .s1 (.one (.vw r sz lo hi)), .s1 (.one (.val (.int _ i))) =>
      match st.rows[r]?, sizeA P e with
      | some row, some n =>
        match row.md with
        | .dead => none
        | _ => if sz = n then cond (decide (0 ≤ i ∧ i < hi - lo)) (k (st.put o.dst (.s1 (.one (.ept r n (lo + i) 0))))) none else none
      | _, _ => none
    | _, _, _ => none
  | .index t x ix =>
    match P.underlying t, st.eval x, st.eval ix with
    | some .string, .s1 (.one (.val (.string s))), .s1 (.one (.val (.int _ i))) =>
      cond (decide (0 ≤ i ∧ i < (s.size : Int))) (k (st.put o.dst (.s1 (.one (.val (.int .u8 (byteAt s i))))))) none
    | _, _, _ => none
  | .extract t i =>
    match st.eval t with
    | .tup xs =>
      match xs[i]? with
      | some y => k (st.put o.dst (.s1 y))
      | none => none
    | _ => none
  | .call c =>
    match c.callee with
    | .builtin .len =>
      match c.args.toList, c.argTypes.toList with
      | [x], [t] =>
        if isLen P t (st.eval x) = true then
          match lenA st (st.eval x) with
          | some n => k (st.put o.dst (.s1 (.one (.val (.int .i64 n)))))
          | none => none
        else none
      | _, _ => none
    | _ => none
  | _ => none
end

section
variable {P : Program} {ρ : Type} {N : Nat × Nat} {o : Oper} {st : St} {k : St → Option ρ} {r : ρ} {g : Gh} {a : Act} {w : World} {K : Act → World → Prop} {Q : Exit → Act → World → Prop}
theorem eval_rel (h : F2 (AV.R g) st.tmps a.tmps.toList) (x : Operand) : (st.eval x).R g (a.eval x) := by
  cases x with
  | tmp t =>
    have := AL.get_of h t
    simpa [St.eval, St.get, Act.eval] using this
  | const v =>
    cases v
    case agg cs => exact ⟨cs, rfl, F2.of_map (R := AL.R g) (f := AL.val) (fun y => rfl) cs.toList⟩
    all_goals exact rfl
  | global b => exact trivial
  | func f => exact ⟨#[], rfl, trivial⟩
theorem put_tmps (h : F2 (AV.R g) st.tmps a.tmps.toList) (dst : Option Tmp) {x : AV} {v : Value} (hx : x.R g v) : F2 (AV.R g) (st.put dst x).tmps (a.put dst v).tmps.toList := by
  cases dst with
  | none => exact h
  | some d => simpa [St.put, Act.put] using h.set d hx
theorem put_mem (dst : Option Tmp) (x : AV) : (st.put dst x).boxes = st.boxes ∧ (st.put dst x).rows = st.rows := by cases dst <;> exact ⟨rfl, rfl⟩
theorem put_defers (dst : Option Tmp) (v : Value) : (a.put dst v).defers = a.defers := by cases dst <;> rfl
theorem Rel.value {st' : St} {g' : Gh} {w' : World} (hR : Rel st g a w) (hle : g.le g') (ht : st'.tmps = st.tmps) (hm : Mem st'.boxes st'.rows g' w') (dst : Option Tmp) {x : AV} {v : Value} (hx : x.R g' v) : Rel (st'.put dst x) g' (a.put dst v) w' :=
  ⟨put_tmps (by rw [ht]; exact hR.tmps.imp fun _ _ => AV.R_le hle) dst hx, by rw [put_defers]; exact hR.defers, by rw [(put_mem dst x).1, (put_mem dst x).2]; exact hm⟩
theorem wp_val {w' : World} {v : Value} (hrun : (execOp a.eval o).run P w = .ok (.value v) w') (h : K (a.put o.dst v) w') : o.wp P a w K Q := by
  unfold Oper.wp
  rw [hrun]
  exact h
theorem wp_skp {w' : World} (hrun : (execOp a.eval o).run P w = .ok .skip w') (h : K (a.put o.dst undef) w') : o.wp P a w K Q := by
  unfold Oper.wp
  rw [hrun]
  exact h
theorem cond_some {c : Bool} {x y : Option ρ} (h : cond c x y = some r) : (c = true ∧ x = some r) ∨ (c = false ∧ y = some r) := by
  cases c
  · exact .inr ⟨rfl, h⟩
  · exact .inl ⟨rfl, h⟩
theorem boxA_rel (hR : Rel st g a w) (dst : Option Tmp) (e : TypeId) {cs : List AL} {vs : Array Value} (hF : F2 (AL.R g) cs vs.toList) :
    ∃ g', g.le g' ∧ Rel (boxA st dst e cs) g' (a.put dst (.pointer (some ⟨w.heap.size, 0, none⟩))) (w.alloc (.cells vs e)) := by
  obtain ⟨g', hle, hbx, hm⟩ := hR.mem.addBox e cs vs hF
  refine ⟨g', hle, Rel.value (st' := { st with boxes := st.boxes ++ [(e, cs)] }) hR hle rfl hm dst (x := .s1 (.one (.ptr st.boxes.length 0))) ⟨w.heap.size, ?_, rfl⟩⟩
  rw [hbx, hR.mem.bl]
  simp
theorem all_one (hm : Mem st.boxes st.rows g w) : ∀ {xs : List AL} {vs : List Value}, F2 (AL.R g) xs vs → xs.all st.firm = true → ∀ v ∈ vs, v.oneCell' = true
  | [], [], _, _ => by simp
  | x :: xs, v :: vs, h, hs => by
    simp only [List.all_cons, Bool.and_eq_true] at hs
    intro u hu
    rcases List.mem_cons.1 hu with rfl | hu
    · cases x with
      | unk => cases hs.1
      | val y => obtain rfl : u = y := h.1; exact hs.1
      | err b => cases hs.1
      | hs => obtain ⟨A, n, c, rfl⟩ := h.1; rfl
      | fn f caps => obtain ⟨us, rfl, _⟩ := h.1; rfl
      | ptr b off => obtain ⟨blk, _, rfl⟩ := h.1; rfl
      | sl r =>
        have hv : g.rw[r]? = some u := h.1
        have hf := hs.1
        unfold St.firm at hf
        simp only at hf
        split at hf
        · cases hf
        · rename_i row hrow
          split at hf
          · cases hf
          · rename_i hd
            obtain ⟨A, c, rfl, _⟩ := (hm.row hrow hv).reads hm.st hd
            rfl
      | ept r sz i off => obtain ⟨ad, n, c, _, _, _, rfl⟩ := h.1; rfl
      | vw r sz lo hi => obtain ⟨A, n, c, A', _, _, _, _, _, _, _, rfl⟩ := h.1; rfl
      | al r => cases hs.1
    · exact all_one hm h.2 hs.2 u hu
theorem one_get {x : AV} {y : AL} {v : Value} (h : x.R g v) (e : x = .s1 (.one y)) : y.R g v := by subst e; exact h
theorem val_get {x : AV} {u v : Value} (h : x.R g v) (e : x = .s1 (.one (.val u))) : v = u := by subst e; exact h
theorem cells_rel {x : A1} {v : Value} (h : x.R g v) (h1 : ∀ y, x = .one y → v.oneCell' = true) : F2 (AL.R g) x.cells v.cells.toList := by
  cases x with
  | one y =>
    have := h1 y rfl
    cases v <;> first
      | exact ⟨h, trivial⟩
      | cases this
  | agg xs =>
    obtain ⟨cs, rfl, hF⟩ := h
    exact hF
theorem storeS_sound {v u : Value} {t : TypeId} {x : AL} {y : A1} {st' : St} (hm : Mem st.boxes st.rows g w) (hx : x.R g v) (hy : y.R g u) (h : storeS P st t x y = some st') :
    ∃ w', Mem st'.boxes st'.rows g w' ∧ st'.tmps = st.tmps ∧ (Instr.storeAt t v u).run P w = .ok () w' := by
  unfold storeS at h
  split at h
  · cases h
  · rename_i n hn
    split at h
    · rename_i b off
      split at h
      · cases h
      · rename_i bc hbc
        split at h
        · rename_i hc
          obtain ⟨hlen, hoff, hfirm⟩ := hc
          simp only [Option.some.injEq] at h
          subst h
          obtain ⟨blk, hblk, rfl⟩ := hx
          obtain ⟨bt, cs⟩ := bc
          obtain ⟨vs, hh, hF⟩ := hm.box hbc hblk
          have hone : ∀ c ∈ u.cells.toList, c.oneCell' = true := by
            cases y with
            | one z =>
              have hz : u.oneCell' = true := all_one hm (xs := [z]) (vs := [u]) ⟨hy, trivial⟩ hfirm u List.mem_cons_self
              have hu : u.cells.toList = [u] := by cases u <;> first | rfl | cases hz
              rw [hu]
              intro c hc
              rw [List.mem_singleton.1 hc]
              exact hz
            | agg zs =>
              obtain ⟨cs', rfl, hF'⟩ := hy
              exact all_one hm hF' hfirm
          have hcr : F2 (AL.R g) y.cells u.cells.toList := by
            refine cells_rel hy fun z e => ?_
            subst e
            exact all_one hm (xs := [z]) (vs := [u]) ⟨hy, trivial⟩ hfirm u List.mem_cons_self
          have hl1 := hcr.length
          have hl2 := hF.length
          have hrun := run_storeCells_at (P := P) blk off bt u.cells.toList 0 vs w hh (by have hoff' : off + n ≤ cs.length := hoff; simp at hl2 hl1 ⊢; omega) hone
          refine ⟨_, hm.setBox hbc hblk hh _ (vs.toList.take off ++ u.cells.toList ++ vs.toList.drop (off + n)).toArray (hF.set3 hcr off n), rfl, ?_⟩
          obtain ⟨i, hi, hin⟩ := Option.map_eq_some_iff.1 hn
          have hsz : u.cells.size = n := by simp at hl1; omega
          simp only [Nat.add_zero] at hrun
          have e2 : u.cells.toList.length = n := by simpa using hsz
          rw [e2] at hrun
          simp [Instr.storeAt, Instr.sureAddr, storeVar, sizeOf, typeInfo, hi, hin, hsz, hrun]
        · cases h
    · cases h
theorem lenA_any {w1 : World} (hm : Mem st.boxes st.rows g w) {x : AV} {v : Value} {n : Int} {t ty : TypeId} (hx : x.R g v) (hl : isLen P t x = true) (h : lenA st x = some n) : (Builtin.len_ #[t] ty #[v]).run P w1 = .ok (.int .i64 n) w1 := by
  unfold isLen at hl
  split at hl
  · rename_i e r hu
    simp only [lenA] at h
    split at h
    · cases h
    · rename_i row hrow
      split at h
      · cases h
      · rename_i hd
        simp only [Option.some.injEq] at h
        subst h
        have hv : g.rw[r]? = some v := hx
        obtain ⟨A, c, rfl, _⟩ := (hm.row hrow hv).reads hm.st hd
        simp [Builtin.len_, run_underlying hu, goInt]
  · rename_i e r sz lo hi hu
    simp only [lenA, Option.some.injEq] at h
    subst h
    obtain ⟨A, n, c, A', _, h0, h1, _, _, _, _, rfl⟩ := hx
    have : ((hi.toNat - lo.toNat : Nat) : Int) = hi - lo := by omega
    simp [Builtin.len_, run_underlying hu, goInt, this]
  · rename_i e hu
    simp only [lenA, Option.some.injEq] at h
    subst h
    obtain rfl : v = .slice none 0 0 := hx
    simp [Builtin.len_, run_underlying hu, goInt]
  · rename_i s hu
    simp only [lenA, Option.some.injEq] at h
    subst h
    obtain rfl : v = .string s := hx
    simp [Builtin.len_, run_underlying hu, goInt]
  · cases hl
theorem lenA_sound (hm : Mem st.boxes st.rows g w) {x : AV} {v : Value} {n : Int} {t ty : TypeId} (hx : x.R g v) (hl : isLen P t x = true) (h : lenA st x = some n) : (Builtin.len_ #[t] ty #[v]).run P w = .ok (.int .i64 n) w := lenA_any hm hx hl h
theorem nilA_run {ρ : Type} {k : Value → Option ρ} {rr : ρ} {r : Nat} {op : BinOp} {xT : TypeId} {ox oy : Operand} {v : Value} (hm : Mem st.boxes st.rows g w) (hv : g.rw[r]? = some v) (h : nilA P st r op xT k = some rr) :
    ∃ z, k z = some rr ∧ ∀ w, (do eqGuard op xT ox oy v (.slice none 0 0); binOp op xT v (.slice none 0 0) : Sem Value).run P w = .ok z w := by
  unfold nilA at h
  split at h
  · rename_i e row hu hrow
    split at h
    · cases h
    · rename_i hd
      obtain ⟨A, c, rfl, _, hC, _⟩ := (hm.row hrow hv).reads hm.st (by intro h'; exact hd h')
      have hg : ∀ (op : BinOp) (w : World), (eqGuard op xT ox oy (.slice A row.xs.length c) (.slice none 0 0)).run P w = .ok () w := by
        intro op w; unfold eqGuard; cases op <;> rfl
      have hA : row.xs.length ≠ 0 → A.isSome = true := by
        intro h0
        obtain ⟨ad, e, _⟩ := hC.2.2 (by omega)
        rw [e]; rfl
      have hk : ∀ b : Bool, (b = A.isNone) → ∀ w, (Op.equal xT (.slice A row.xs.length c) (.slice none 0 0)).run P w = .ok b w := by
        intro b hb w
        subst hb
        show (Op.equalIn (9999 + 1) xT _ _).run P w = _
        rw [Op.equalIn]
        cases A <;> simp [run_underlying hu]
      split at h
      · by_cases h0 : row.xs.length = 0
        · rw [decide_eq_true h0, cond_true] at h
          obtain ⟨h1, h2⟩ := same_some h
          refine ⟨.bool A.isNone, by cases A; exact h1; exact h2, fun w => ?_⟩
          rw [Sem.run_bind, hg]
          simp [binOp, hk _ rfl]
        · rw [decide_eq_false h0, cond_false] at h
          refine ⟨.bool false, h, fun w => ?_⟩
          have := hA h0
          rw [Sem.run_bind, hg]
          simp [binOp, hk false (by cases A; cases this; rfl)]
      · by_cases h0 : row.xs.length = 0
        · rw [decide_eq_true h0, cond_true] at h
          obtain ⟨h1, h2⟩ := same_some h
          refine ⟨.bool (!A.isNone), by cases A; exact h2; exact h1, fun w => ?_⟩
          rw [Sem.run_bind, hg]
          simp [binOp, hk _ rfl]
        · rw [decide_eq_false h0, cond_false] at h
          refine ⟨.bool true, h, fun w => ?_⟩
          have := hA h0
          rw [Sem.run_bind, hg]
          simp [binOp, hk false (by cases A; cases this; rfl)]
      · cases h
  · cases h
theorem stepOp_sound (h : stepOp P o st k = some r) (hR : Rel st g a w)
    (hK : ∀ st' g' a' w', g.ext N g' → Rel st' g' a' w' → k st' = some r → K a' w') : o.wp P a w K Q := by
  have ev := fun x => eval_rel hR.tmps x
  unfold stepOp at h
  split at h
  · -- move
    rename_i x ho
    exact wp_val (by simp [execOp, ho]) (hK _ _ _ _ (.refl _ _) (hR.value (.refl g) rfl hR.mem o.dst (ev x)) h)
  · -- assign
    rename_i x ho
    exact wp_val (by simp [execOp, ho]) (hK _ _ _ _ (.refl _ _) (hR.value (.refl g) rfl hR.mem o.dst (ev x)) h)
  · -- pick
    rename_i c x y ho
    split at h
    · rename_i t ht
      have hc : a.eval c = .bool t := val_get (ev c) ht
      have hrun : (execOp a.eval o).run P w = .ok (.value (if t then a.eval x else a.eval y)) w := by simp [execOp, ho, hc, asBool]
      refine wp_val hrun ?_
      rcases cond_some h with ⟨rfl, h⟩ | ⟨rfl, h⟩
      · exact hK _ _ _ _ (.refl _ _) (hR.value (.refl g) rfl hR.mem o.dst (ev x)) h
      · exact hK _ _ _ _ (.refl _ _) (hR.value (.refl g) rfl hR.mem o.dst (ev y)) h
    · cases h
  · -- alloc
    rename_i e ho
    split at h
    · cases h
    · rename_i z hz
      obtain ⟨i, hi, hiz⟩ := Option.bind_eq_some_iff.1 hz
      obtain ⟨g', hle, hR'⟩ := boxA_rel hR o.dst e (cs := z.cells.toList.map .val) (vs := z.cells) (F2.of_map (R := AL.R g) (f := AL.val) (fun y => rfl) z.cells.toList)
      refine wp_val (w' := w.alloc (.cells z.cells e)) (v := .pointer (some ⟨w.heap.size, 0, none⟩)) ?_ (hK _ _ _ _ hle.ext hR' h)
      simp [execOp, ho, Instr.alloc, zeroValue, typeInfo, hi, hiz, newVar, newRow]
  · -- box
    rename_i e x ho
    split at h
    · rename_i v hv
      split at h
      · rename_i hf
        have hx : v.R g (a.eval x) := by have := ev x; rw [hv] at this; exact this
        obtain ⟨g', hle, hR'⟩ := boxA_rel hR o.dst e (cells_rel hx fun y e => by
          subst e
          exact all_one hR.mem (xs := [y]) (vs := [a.eval x]) ⟨hx, trivial⟩ hf _ List.mem_cons_self)
        refine wp_val (w' := w.alloc (.cells (a.eval x).cells e)) (v := .pointer (some ⟨w.heap.size, 0, none⟩)) ?_ (hK _ _ _ _ hle.ext hR' h)
        simp [execOp, ho, Instr.box, newVar, newRow]
      · cases h
    · cases h
  · -- load
    rename_i t x ho
    split at h
    · rename_i p hp
      split at h
      · cases h
      · rename_i y st' hl
        obtain ⟨g', u, hle, hm, ht, hy, hrun⟩ := loadS_sound hR.mem (one_get (ev x) hp) hl
        exact wp_val (by simp [execOp, ho, hrun]) (hK _ _ _ _ hle.ext (hR.value hle ht hm o.dst (x := .s1 y) hy) h)
    · cases h
  · -- store
    rename_i t x y ho
    split at h
    · rename_i p v hp hv
      split at h
      · cases h
      · rename_i st' hs
        have hy : v.R g (a.eval y) := by have := ev y; rw [hv] at this; exact this
        obtain ⟨w', hm, ht, hrun⟩ := storeS_sound hR.mem (one_get (ev x) hp) hy hs
        exact wp_skp (w' := w') (by simp [execOp, ho, hrun]) (hK _ _ _ _ (.refl _ _) (hR.value (.refl g) ht hm o.dst (x := .s1 (.one (.val undef))) (v := undef) rfl) h)
    · cases h
  · -- nilCheck
    rename_i x ho
    split at h
    · rename_i b off hp
      have hx := one_get (ev x) hp
      have hx2 := hx
      obtain ⟨blk, _, hv⟩ := hx2
      exact wp_val (v := a.eval x) (by simp [execOp, ho, hv]) (hK _ _ _ _ (.refl _ _) (hR.value (.refl g) rfl hR.mem o.dst (x := .s1 (.one (.ptr b off))) hx) h)
    · rename_i r' sz i off hp
      have hx := one_get (ev x) hp
      have hx2 := hx
      obtain ⟨ad, n, c, _, _, _, hv⟩ := hx2
      exact wp_val (v := a.eval x) (by simp [execOp, ho, hv]) (hK _ _ _ _ (.refl _ _) (hR.value (.refl g) rfl hR.mem o.dst (x := .s1 (.one (.ept r' sz i off))) hx) h)
    · cases h
  · -- binOp
    rename_i op xT x y yT ho
    split at h
    · rename_i u v hu hv
      obtain ⟨z, hz, hrun⟩ := binA_run (P := P) (xT := xT) (ox := x) (oy := y) h
      have e1 := val_get (ev x) hu
      have e2 := val_get (ev y) hv
      refine wp_val (v := z) (w' := w) ?_ (hK _ _ _ _ (.refl _ _) (hR.value (.refl g) rfl hR.mem o.dst (x := .s1 (.one (.val z))) rfl) hz)
      have := hrun w
      simp only [execOp, ho, e1, e2]
      rw [Sem.run_bind, this]
      rfl
    · rename_i r' hu hv
      have hx : g.rw[r']? = some (a.eval x) := one_get (ev x) hu
      have e2 := val_get (ev y) hv
      obtain ⟨z, hz, hrun⟩ := nilA_run hR.mem (ox := x) (oy := y) hx h
      refine wp_val (v := z) (w' := w) ?_ (hK _ _ _ _ (.refl _ _) (hR.value (.refl g) rfl hR.mem o.dst (x := .s1 (.one (.val z))) rfl) hz)
      simp only [execOp, ho, e2]
      rw [Sem.run_bind, hrun w]
      rfl
    · cases h
  · -- unOp
    rename_i op xT x ho
    split at h
    · rename_i u hu
      obtain ⟨z, hz, hrun⟩ := unA_run (P := P) h
      have e1 := val_get (ev x) hu
      refine wp_val (v := z) (w' := w) ?_ (hK _ _ _ _ (.refl _ _) (hR.value (.refl g) rfl hR.mem o.dst (x := .s1 (.one (.val z))) rfl) hz)
      have := hrun w
      simp only [execOp, ho, e1]
      rw [Sem.run_bind, this]
      rfl
    · cases h
  · -- convert
    rename_i src dst x ho
    split at h
    · rename_i d kd k' n hs hd hx
      have e1 := val_get (ev x) hx
      refine wp_val (v := .int kd (kd.wrap n)) (w' := w) ?_ (hK _ _ _ _ (.refl _ _) (hR.value (.refl g) rfl hR.mem o.dst (x := .s1 (.one (.val (.int kd (kd.wrap n))))) rfl) h)
      simp [execOp, ho, e1, convert, run_underlying hs, run_underlying hd, Conv.intToInt]
    · cases h
  · -- fieldAddr
    rename_i s x f ho
    split at h
    · rename_i d b off hd hp
      obtain ⟨blk, hb, hv⟩ := one_get (ev x) hp
      refine wp_val (v := .pointer (some ⟨blk, off + d, none⟩)) (w' := w) ?_ (hK _ _ _ _ (.refl _ _) (hR.value (.refl g) rfl hR.mem o.dst (x := .s1 (.one (.ptr b (off + d)))) ⟨blk, hb, rfl⟩) h)
      have := fieldOff_run hd ⟨blk, off, none⟩ w
      rw [add_at] at this
      simp [execOp, ho, hv, this]
    · rename_i d r' sz i off hd hp
      obtain ⟨ad, n, c, hb, h0, h1, hv⟩ := one_get (ev x) hp
      refine wp_val (v := .pointer (some (ad.add (i.toNat * sz + (off + d))))) (w' := w) ?_ (hK _ _ _ _ (.refl _ _) (hR.value (.refl g) rfl hR.mem o.dst (x := .s1 (.one (.ept r' sz i (off + d)))) ⟨ad, n, c, hb, h0, h1, rfl⟩) h)
      have := fieldOff_run hd (ad.add (i.toNat * sz + off)) w
      rw [add2, Nat.add_assoc] at this
      simp [execOp, ho, hv, this]
    · cases h
  · -- indexAddr
    rename_i t x ix ho
    split at h
    · rename_i e r' k' i hu hp hi
      split at h
      · rename_i row n hrow hn
        split at h
        · cases h
        · rename_i hd
          split at h
          · rename_i hsz
            rcases cond_some h with ⟨hc, h⟩ | ⟨_, h⟩
            · obtain ⟨h0, h1⟩ := of_decide_eq_true hc
              have hv : g.rw[r']? = some (a.eval x) := one_get (ev x) hp
              have e2 := val_get (ev ix) hi
              obtain ⟨A, c, hA, hl, hC, _⟩ := (hR.mem.row hrow hv).reads hR.mem.st hd
              obtain ⟨ad, cs, rfl, _⟩ := Kd.C_get hC row.s.dflt i h0 h1
              obtain ⟨ti, hti, htn⟩ := Option.map_eq_some_iff.1 hn
              refine wp_val (v := .pointer (some (ad.add (i.toNat * n + 0)))) (w' := w) ?_ (hK _ _ _ _ (.refl _ _) (hR.value (.refl g) rfl hR.mem o.dst (x := .s1 (.one (.ept r' n i 0))) ⟨ad, _, c, hA ▸ hv, h0, h1, rfl⟩) h)
              simp [execOp, ho, hA, e2, Instr.indexAt, asIntOf, run_underlying hu, h0, h1, sizeOf, typeInfo, hti, htn]
            · cases h
          · cases h
      · cases h
    · rename_i e r' sz lo hi k' i hu hp hi'
      split at h
      · rename_i row n hrow hn
        split at h
        · cases h
        rename_i hd
        split at h
        · rename_i hsz
          rcases cond_some h with ⟨hc, h⟩ | ⟨_, h⟩
          · obtain ⟨h0, h1⟩ := of_decide_eq_true hc
            obtain ⟨A, m, c, A', hv, h2, h3, h4, h5, h6, _, hx⟩ := one_get (ev x) hp
            have e2 := val_get (ev ix) hi'
            obtain ⟨ti, hti, htn⟩ := Option.map_eq_some_iff.1 hn
            subst hsz
            have hAn : ∃ ad, A = some ad := by
              obtain ⟨B, d, he, _, h7, _⟩ := (hR.mem.row hrow hv).reads hR.mem.st hd
              injection he with he1 he2 he3
              subst he1
              obtain ⟨ad, _, hA, _⟩ := Kd.C_get h7 row.s.dflt (lo + i) (by omega) (by omega)
              exact ⟨ad, hA⟩
            obtain ⟨ad, rfl⟩ := hAn
            have hA' := h6 (by omega)
            simp only [Option.map_some] at hA'
            subst hA'
            have hnn : ((hi.toNat - lo.toNat : Nat) : Int) = hi - lo := by omega
            refine wp_val (v := .pointer (some (ad.add ((lo + i).toNat * sz + 0)))) (w' := w) ?_ (hK _ _ _ _ (.refl _ _) (hR.value (.refl g) rfl hR.mem o.dst (x := .s1 (.one (.ept r' sz (lo + i) 0))) ⟨ad, m, c, hv, by omega, by omega, rfl⟩) h)
            have e3 : (lo + i).toNat * sz = lo.toNat * sz + i.toNat * sz := by rw [← Nat.add_mul]; congr 1; omega
            simp [execOp, ho, hx, e2, Instr.indexAt, asIntOf, run_underlying hu, h0, h1, hnn, sizeOf, typeInfo, hti, htn, add2, e3]
          · cases h
        · cases h
      · cases h
    · cases h
  · -- index
    rename_i t x ix ho
    split at h
    · rename_i s k' i hu hx hi
      have e1 := val_get (ev x) hx
      have e2 := val_get (ev ix) hi
      rcases cond_some h with ⟨hc, h⟩ | ⟨_, h⟩
      · obtain ⟨h0, h1⟩ := of_decide_eq_true hc
        have hlt : i.toNat < s.size := by omega
        refine wp_val (v := .int .u8 (byteAt s i)) (w' := w) ?_ (hK _ _ _ _ (.refl _ _) (hR.value (.refl g) rfl hR.mem o.dst (x := .s1 (.one (.val (.int .u8 (byteAt s i))))) rfl) h)
        simp [execOp, ho, e1, e2, Instr.index, asIntOf, run_underlying hu, h0, byteAt, getElem?_pos s i.toNat hlt]
      · cases h
    · cases h
  · -- extract
    rename_i t i ho
    split at h
    · rename_i xs hx
      split at h
      · rename_i y hy
        have := ev t
        rw [hx] at this
        obtain ⟨vs, hv, hF⟩ := this
        obtain ⟨u, hu, hr⟩ := hF.get hy
        refine wp_val (v := u) (w' := w) ?_ (hK _ _ _ _ (.refl _ _) (hR.value (.refl g) rfl hR.mem o.dst (x := .s1 y) hr) h)
        have hu' : vs[i]? = some u := by simpa using hu
        simp [execOp, ho, hv, Instr.extract, hu']
      · cases h
    · cases h
  · -- call
    rename_i c ho
    split at h
    · rename_i hc
      split at h
      · rename_i x t hxs hts
        split at h
        · rename_i hl
          split at h
          · rename_i n hn
            have hxs' : c.args = #[x] := by rw [← Array.toArray_toList (xs := c.args), hxs]
            have hts' : c.argTypes = #[t] := by rw [← Array.toArray_toList (xs := c.argTypes), hts]
            have := lenA_sound (P := P) (w := w) (ty := o.type) hR.mem (ev x) hl hn
            refine wp_val (v := .int .i64 n) (w' := w) ?_ (hK _ _ _ _ (.refl _ _) (hR.value (.refl g) rfl hR.mem o.dst (x := .s1 (.one (.val (.int .i64 n)))) rfl) h)
            simp [execOp, ho, hc, resolve, invoke, builtin, hxs', hts', this]
          · cases h
        · cases h
      · cases h
    · cases h
  · cases h
end
end Go.Proofs.YtmbcnpbgcfiafaaGreat.Vm
