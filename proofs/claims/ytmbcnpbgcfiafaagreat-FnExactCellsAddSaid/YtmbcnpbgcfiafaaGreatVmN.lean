/- A walk by reckoning: the choice among all operations. -/
import Derived.Test.YtmbcnpbgcfiafaaGreatVmMv
import Derived.Test.YtmbcnpbgcfiafaaGreatVmSa
import Derived.Laws.Externs
namespace Go.Proofs.YtmbcnpbgcfiafaaGreat.Vm
open Go Go.RowKit Go.Proofs.YtmbcnpbgcfiafaaGreatW.PrintWords
set_option linter.unusedVariables false
set_option linter.unusedSimpArgs false

section
variable (P : Program)
def leafTs : Nat → TypeId → List TypeId
  | 0, t => [t]
  | n + 1, t =>
    match P.underlying t with
    | some (.struct fs) => fs.toList.flatMap fun f => leafTs n f.type
    | _ => [t]
def fix1 (t : TypeId) (x : AL) (st : St) : AL × St :=
  match x with
  | .val (.slice none 0 0) =>
    match P.underlying t with
    | some (.slice e) =>
      match shTy P 20 e with
      | some s => (.sl st.rows.length, { st with rows := st.rows ++ [⟨e, s, [], .own⟩] })
      | none => (x, st)
    | _ => (x, st)
  | x => (x, st)
def fixL : List TypeId → List AL → St → List AL × St
  | _, [], st => ([], st)
  | ts, x :: xs, st =>
    match fix1 P (ts.headD 0) x st with
    | (y, st1) =>
      match fixL ts.tail xs st1 with
      | (ys, st2) => (y :: ys, st2)
def fixV (t : TypeId) : AV → St → AV × St
  | .s1 (.one x), st =>
    match fix1 P t x st with
    | (y, st1) => (.s1 (.one y), st1)
  | .s1 (.agg xs), st =>
    match fixL P (leafTs P 20 t) xs st with
    | (ys, st1) => (.s1 (.agg ys), st1)
  | x, st => (x, st)
def fixVs : List TypeId → List AV → St → List AV × St
  | _, [], st => ([], st)
  | ts, x :: xs, st =>
    match fixV P (ts.headD 0) x st with
    | (y, st1) =>
      match fixVs ts.tail xs st1 with
      | (ys, st2) => (y :: ys, st2)
end
section
variable {P : Program} {w : World}
theorem fix1_rel {t : TypeId} {x : AL} {v : Value} {st : St} {g : Gh} (hm : Mem st.boxes st.rows g w) (hx : x.R g v) : ∃ g', g.le g' ∧ (fix1 P t x st).2.tmps = st.tmps ∧ Mem (fix1 P t x st).2.boxes (fix1 P t x st).2.rows g' w ∧ (fix1 P t x st).1.R g' v := by
  unfold fix1
  split
  · split
    · split
      · rename_i e he _ s hs
        obtain rfl : v = .slice none 0 0 := hx
        obtain ⟨g1, hle, hrw, _, _, hm1⟩ := hm.addRow ⟨e, s, [], .own⟩ (.slice none 0 0) (Own.nil s e g.rz w 0 g.tag st.rows.length [])
        refine ⟨g1, hle, rfl, hm1, ?_⟩
        show g1.rw[st.rows.length]? = _
        rw [hrw, hm.rl]
        simp
      · exact ⟨g, .refl g, rfl, hm, hx⟩
    · exact ⟨g, .refl g, rfl, hm, hx⟩
  · exact ⟨g, .refl g, rfl, hm, hx⟩
theorem fixL_rel : ∀ {ts : List TypeId} {xs : List AL} {vs : List Value} {st : St} {g : Gh}, Mem st.boxes st.rows g w → F2 (AL.R g) xs vs → ∃ g', g.le g' ∧ (fixL P ts xs st).2.tmps = st.tmps ∧ Mem (fixL P ts xs st).2.boxes (fixL P ts xs st).2.rows g' w ∧ F2 (AL.R g') (fixL P ts xs st).1 vs
  | _, [], [], st, g, hm, _ => ⟨g, .refl g, rfl, hm, trivial⟩
  | ts, x :: xs, v :: vs, st, g, hm, h => by
    obtain ⟨g1, hle1, ht1, hm1, hx1⟩ := fix1_rel (P := P) (t := ts.headD 0) hm h.1
    obtain ⟨g2, hle2, ht2, hm2, hx2⟩ := fixL_rel (ts := ts.tail) hm1 (h.2.imp fun _ _ => AL.R_le hle1)
    exact ⟨g2, hle1.trans hle2, ht2.trans ht1, hm2, AL.R_le hle2 hx1, hx2⟩
theorem fixV_rel {t : TypeId} {x : AV} {v : Value} {st : St} {g : Gh} (hm : Mem st.boxes st.rows g w) (hx : x.R g v) : ∃ g', g.le g' ∧ (fixV P t x st).2.tmps = st.tmps ∧ Mem (fixV P t x st).2.boxes (fixV P t x st).2.rows g' w ∧ (fixV P t x st).1.R g' v := by
  cases x with
  | s1 y =>
    cases y with
    | one z => exact fix1_rel hm hx
    | agg zs =>
      obtain ⟨cs, e, hF⟩ := hx
      obtain ⟨g1, hle, ht, hm1, hF1⟩ := fixL_rel (P := P) (ts := leafTs P 20 t) hm hF
      exact ⟨g1, hle, ht, hm1, cs, e, hF1⟩
  | tup xs => exact ⟨g, .refl g, rfl, hm, hx⟩
theorem fixVs_rel : ∀ {ts : List TypeId} {xs : List AV} {vs : List Value} {st : St} {g : Gh}, Mem st.boxes st.rows g w → F2 (AV.R g) xs vs → ∃ g', g.le g' ∧ (fixVs P ts xs st).2.tmps = st.tmps ∧ Mem (fixVs P ts xs st).2.boxes (fixVs P ts xs st).2.rows g' w ∧ F2 (AV.R g') (fixVs P ts xs st).1 vs
  | _, [], [], st, g, hm, _ => ⟨g, .refl g, rfl, hm, trivial⟩
  | ts, x :: xs, v :: vs, st, g, hm, h => by
    obtain ⟨g1, hle1, ht1, hm1, hx1⟩ := fixV_rel (P := P) (t := ts.headD 0) hm h.1
    obtain ⟨g2, hle2, ht2, hm2, hx2⟩ := fixVs_rel (ts := ts.tail) hm1 (h.2.imp fun _ _ => AV.R_le hle1)
    exact ⟨g2, hle1.trans hle2, ht2.trans ht1, hm2, AV.R_le hle2 hx1, hx2⟩
end

section
variable (P : Program) {ρ : Type} (G : Env)
def calleeA (st : St) (x : Operand) : Option (FuncId × List AV) :=
  match st.eval x with
  | .s1 (.one (.val (.func (.func f) ⟨[]⟩ ⟨[]⟩))) => some (f, [])
  | .s1 (.one (.fn f caps)) => some (f, caps.map fun c => .s1 (.one (.ptr c.1 c.2)))
  | _ => none
def capsA (st : St) : List Operand → Option (List (Nat × Nat))
  | [] => some []
  | x :: xs =>
    match st.eval x, capsA st xs with
    | .s1 (.one (.ptr b off)), some cs => some ((b, off) :: cs)
    | _, _ => none
def callF (o : Oper) (st : St) (E : Ent) (avs : List AV) (k : St → Option ρ) : Option ρ :=
  match st.mini E.muts avs with
  | some m =>
    match E.F m.args m.boxes m.rows with
    | some out => out.o.bind fun t =>
      match st.backAt m (out.res t) with
      | some y => k (y.1.put o.dst (retA y.2))
      | none => none
    | none => none
  | none => none
def callG (o : Oper) (st : St) (E : Ent) (avs : List AV) (k : St → Option ρ) : Option ρ :=
  match st.subOf E.muts avs with
  | none => callF o st E avs k
  | some r =>
    match st.detach r with
    | none => none
    | some z =>
      match z.1.mini E.muts avs with
      | some m =>
        match E.F m.args m.boxes m.rows with
        | some out => out.o.bind fun t =>
          match z.1.backAt m (out.res t) with
          | some y =>
            match y.1.attach z.2 with
            | some s3 => k (s3.put o.dst (retA y.2))
            | none => none
          | none => none
        | none => none
      | none => none
noncomputable def callH (o : Oper) (st : St) (E : Ent) (avs : List AV) (k : St → Option ρ) : Option ρ :=
  match lentL E.muts 0 (avs.flatMap AV.all) with
  | r :: _ =>
    match st.rows[r]? with
    | some row =>
      match row.md with
      | .own =>
        match row.s.pl, Nat.beq row.s.wh 1 with
        | true, true =>
          anyH row.s row.xs fun zs =>
            match (st.byHeads r row zs).mini E.muts avs with
            | some m =>
              match m.R.idxOf? r with
              | some i =>
                match E.F m.args m.boxes (m.rows.set i ⟨row.e, row.s.hsh, zs, .own⟩) with
                | some out => out.o.bind fun t =>
                  match hFind row.s 0 (out.res t).rows with
                  | some (j, e', ys) =>
                    match (st.byHeads r row zs).backAt m { out.res t with rows := (out.res t).rows.set j ⟨e', row.s.hvs, ys.map row.s.hdv, .own⟩ }, backR m.R (st.byHeads r row zs).rows.length j with
                    | some y, some q => thaw row.s zs ys (k ((⟨y.1.tmps, y.1.boxes, y.1.rows.set q ⟨e', row.s, ys.map row.s.bare, .own⟩⟩ : St).put o.dst (retA y.2)))
                    | _, _ => none
                  | none => none
                | none => none
              | none => none
            | none => none
        | _, _ => none
      | _ => none
    | none => none
  | [] => none
noncomputable def callK (o : Oper) (st : St) (E : Ent) (avs : List AV) (k : St → Option ρ) : Option ρ :=
  match lentL E.muts 0 (avs.flatMap AV.all) with
  | r :: _ =>
    match st.rows[r]? with
    | some row =>
      match row.md with
      | .own =>
        match row.s.kp with
        | true =>
          match (st.byKv r row).mini E.muts avs with
          | some m =>
            match m.R.idxOf? r with
            | some i =>
              match E.F m.args m.boxes (m.rows.set i ⟨row.e, row.s, row.xs, .own⟩) with
              | some out => out.o.bind fun t =>
                match kFind row.s 0 (out.res t).rows with
                | some (j, e', ys) =>
                  match (st.byKv r row).backAt m { out.res t with rows := (out.res t).rows.set j ⟨e', row.s.kvs, ys.map row.s.kdv, .own⟩ }, qOf m.R (st.byKv r row).rows.length j with
                  | some y, some q => keep row.s row.xs ys (k ((⟨y.1.tmps, y.1.boxes, y.1.rows.set q ⟨e', row.s, ys, .own⟩⟩ : St).put o.dst (retA y.2)))
                  | _, _ => none
                | none => none
              | none => none
            | none => none
          | none => none
        | false => callH o st E avs k
      | _ => none
    | none => none
  | [] => none
def callS (o : Oper) (st : St) (E : Ent) (avs : List AV) (k : St → Option ρ) : Option ρ :=
  match St.overSV (st.freeze (st.ownIds (avs.flatMap AV.all))) 0 avs with
  | some x =>
    match E.F x.1 [] x.2 with
    | some out => out.o.bind fun t =>
      match St.backS (st.freeze (st.ownIds (avs.flatMap AV.all))) (out.res t) with
      | some y => k (y.1.put o.dst (retA y.2))
      | none => none
    | none => none
  | none => none
def natIs (f : FuncId) : Bool :=
  match P.funcs[f]? with
  | none => false
  | some fn => fn.name == "math/bits.Add64" && (fn.origin == "" && fn.body.isNone)
def natA (f : FuncId) (vs : List AV) (k : AV → Option ρ) : Option ρ :=
  if natIs P f = true then
    match vs with
    | [.s1 (.one (.val (.int .u64 x))), .s1 (.one (.val (.int .u64 y))), .s1 (.one (.val (.int .u64 z)))] =>
      cond (decide (0 ≤ x ∧ 0 ≤ y ∧ 0 ≤ z ∧ z ≤ 1)) (k (.tup [.one (.val (.int .u64 ((x + y + z) % 18446744073709551616))), .one (.val (.int .u64 ((x + y + z) / 18446744073709551616)))])) none
    | _ => none
  else none
noncomputable def callX (o : Oper) (st : St) (c : Call) (k : St → Option ρ) : Option ρ :=
  match c.callee with
  | .builtin .append =>
    match c.args.toList, c.argTypes.toList with
    | [x, y], [t, t'] =>
      if t = t' then
        match st.eval x, st.eval y with
        | .s1 (.one x), .s1 (.one y) =>
          match appendZ P st t x y with
          | some z => cond (decide (z.1 ≤ 140737488355328)) (k (z.2.2.put o.dst (.s1 (.one z.2.1)))) none
          | none =>
            match appendM P st t x y with
            | some z => cond (decide (z.1 ≤ 140737488355328)) (k (z.2.2.put o.dst (.s1 (.one z.2.1)))) none
            | none => none
        | _, _ => none
      else none
    | _, _ => none
  | .builtin .min =>
    match c.args.toList with
    | [x, y] =>
      match st.eval x, st.eval y with
      | .s1 (.one (.val (.int k1 a))), .s1 (.one (.val (.int _ b))) => k (st.put o.dst (.s1 (.one (.val (.int k1 (if b < a then b else a))))))
      | _, _ => none
    | _ => none
  | .builtin .max =>
    match c.args.toList with
    | [x, y] =>
      match st.eval x, st.eval y with
      | .s1 (.one (.val (.int k1 a))), .s1 (.one (.val (.int _ b))) => k (st.put o.dst (.s1 (.one (.val (.int k1 (if b > a then b else a))))))
      | _, _ => none
    | _ => none
  | .builtin .clear =>
    match c.args.toList, c.argTypes.toList with
    | [x], [t] =>
      match st.eval x with
      | .s1 (.one x) =>
        match clearA P st t x with
        | some st' => k (st'.put o.dst (.s1 (.one (.val undef))))
        | none => none
      | _ => none
    | _, _ => none
  | .value x =>
    match calleeA st x with
    | some fc =>
      match G fc.1, fixVs P c.argTypes.toList (c.args.toList.map st.eval) st with
      | some E, (avs, st1) =>
        match E.sh with
        | true => callS o st1 E (avs ++ fc.2) k
        | false =>
          match E.hd with
          | true => callK o st1 E (avs ++ fc.2) k
          | false => callG o st1 E (avs ++ fc.2) k
      | none, _ => natA P fc.1 (c.args.toList.map st.eval ++ fc.2) fun x => k (st.put o.dst x)
    | none => none
  | _ => stepOp P o st k
def makeX (o : Oper) (st : St) (t : TypeId) (l c : Int) (k : St → Option ρ) : Option ρ :=
  match P.underlying t with
  | some (.slice e) =>
    match P.info? e, shTy P 20 e with
    | some i, some s =>
      match i.zero with
      | some z =>
        if i.size = s.sz ∧ z.cells.size = s.sz then
          match makeRow st e s z l.toNat with
          | some y => cond (decide (0 ≤ l ∧ l ≤ c ∧ (i.bytes : Int) * c ≤ 281474976710656 ∧ c ≤ 9223372036854775807)) (k (y.2.put o.dst (.s1 (.one y.1)))) none
          | none => none
        else none
      | none => none
    | _, _ => none
  | _ => none
def errQ (op : BinOp) (t : TypeId) (x : AV) (y : Operand) : Option Bool :=
  match x, y with
  | .s1 (.one (.err b)), .const .nilIface =>
    match P.underlying t, op with
    | some (.interface _), .neq => some b
    | some (.interface _), .eql => some (!b)
    | _, _ => none
  | _, _ => none
noncomputable def binX (o : Oper) (st : St) (op : BinOp) (xT : TypeId) (x y : AV) (k : St → Option ρ) : Option ρ :=
  match x, y with
  | .s1 (.agg xs), .s1 (.agg ys) =>
    match op with
    | .eql =>
      match eqSA P xT xs ys with
      | some b => k (st.put o.dst (.s1 (.one (.val (.bool b)))))
      | none => none
    | .neq =>
      match eqSA P xT xs ys with
      | some b => k (st.put o.dst (.s1 (.one (.val (.bool (!b))))))
      | none => none
    | _ => none
  | .s1 (.one (.val (.bool a))), .s1 (.one (.val (.bool b))) =>
    match P.underlying xT with
    | some .bool =>
      match op with
      | .eql => k (st.put o.dst (.s1 (.one (.val (.bool (a == b))))))
      | .neq => k (st.put o.dst (.s1 (.one (.val (.bool (!(a == b)))))))
      | _ => none
    | _ => none
  | _, _ => stepOp P o st k
noncomputable def convX (o : Oper) (st : St) (src dst : TypeId) (x : AV) (k : St → Option ρ) : Option ρ :=
  match P.underlying src, P.underlying dst with
  | some (.slice e), some .string =>
    match P.underlying e, x with
    | some (.int .u8), .s1 (.one y) =>
      match srcA st e (.int .u8) y with
      | some ys => k (st.put o.dst (.s1 (.one (.val (.string (strOfNums ys.1))))))
      | none => none
    | _, _ => none
  | _, _ => stepOp P o st k
noncomputable def stepX (o : Oper) (st : St) (k : St → Option ρ) : Option ρ :=
  match o.op with
  | .build t parts =>
    match buildA P st t parts.toList with
    | some cs => k (st.put o.dst (.s1 (.agg cs)))
    | none => none
  | .buildSlice t n parts =>
    match litD P st t n parts.toList with
    | some y => k (y.2.put o.dst (.s1 (.one y.1)))
    | none => none
  | .makeSlice t l c =>
    match st.eval l, st.eval c with
    | .s1 (.one (.val (.int _ ln))), .s1 (.one (.val (.int _ cn))) => makeX P o st t ln cn k
    | _, _ => none
  | .slice t x lo hi none =>
    match st.eval x, optI st lo, optI st hi with
    | .s1 (.one y), some l, some h => cutA P st t y l h fun z => k (st.put o.dst (.s1 (.one z)))
    | _, _, _ => none
  | .store t x y =>
    match st.eval x, st.eval y with
    | .s1 (.one (.ept r sz i off)), .s1 v =>
      match storeE P st t (.ept r sz i off) v with
      | some st' => k (st'.put o.dst (.s1 (.one (.val undef))))
      | none => none
    | _, _ => stepOp P o st k
  | .binOp op xT x y _ =>
    match errQ P op xT (st.eval x) y with
    | some b => k (st.put o.dst (.s1 (.one (.val (.bool b)))))
    | none => binX P o st op xT (st.eval x) (st.eval y) k
  | .convert src dst x => convX P o st src dst (st.eval x) k
  | .call c => callX P G o st c k
  | .makeFunc (.func f) first captured =>
    match first.toList, capsA st captured.toList with
    | [], some cs => k (st.put o.dst (.s1 (.one (.fn f cs))))
    | _, _ => none
  | _ => stepOp P o st k
end
section
variable {P : Program} {ρ : Type} {G : Env} {N : Nat × Nat} {o : Oper} {st : St} {k : St → Option ρ} {r : ρ} {g : Gh} {a : Act} {w : World} {K : Act → World → Prop} {Q : Exit → Act → World → Prop}
theorem run_args2 {c : Call} {x y : Operand} (h : c.args.toList = [x, y]) : c.args = #[x, y] := by rw [← Array.toArray_toList (xs := c.args), h]
theorem F2.map1 {α β γ : Type} {R : α → β → Prop} {R' : γ → β → Prop} {f : α → γ} (hf : ∀ x y, R x y → R' (f x) y) : ∀ {xs : List α} {ys : List β}, F2 R xs ys → F2 R' (xs.map f) ys
  | [], [], _ => trivial
  | _ :: _, _ :: _, h => ⟨hf _ _ h.1, F2.map1 hf h.2⟩
theorem calleeA_rel {x : Operand} {v : Value} {fc : FuncId × List AV} (hx : (st.eval x).R g v) (h : calleeA st x = some fc) : ∃ us : Array Value, v = .func (.func fc.1) #[] us ∧ F2 (AV.R g) fc.2 us.toList := by
  unfold calleeA at h
  split at h
  · rename_i f he
    injection h with h
    subst h
    rw [he] at hx
    obtain rfl : v = .func (.func f) ⟨[]⟩ ⟨[]⟩ := hx
    exact ⟨#[], rfl, trivial⟩
  · rename_i f caps he
    injection h with h
    subst h
    rw [he] at hx
    obtain ⟨us, hv, hF⟩ := hx
    exact ⟨us, hv, F2.map1 (f := fun c : Nat × Nat => AV.s1 (.one (.ptr c.1 c.2))) (fun _ _ h => h) hF⟩
  · cases h
theorem capsA_rel (hR : Rel st g a w) : ∀ {l : List Operand} {cs : List (Nat × Nat)}, capsA st l = some cs → F2 (fun (x : Nat × Nat) u => ∃ blk, g.bx[x.1]? = some blk ∧ u = Value.pointer (some ⟨blk, x.2, none⟩)) cs (l.map a.eval)
  | [], cs, h => by
    simp only [capsA, Option.some.injEq] at h
    subst h
    trivial
  | x :: l, cs, h => by
    simp only [capsA] at h
    split at h
    · rename_i b off cs' h1 h2
      injection h with h
      subst h
      have := eval_rel hR.tmps x
      rw [h1] at this
      exact ⟨this, capsA_rel hR h2⟩
    · cases h
theorem errQ_run {op : BinOp} {t : TypeId} {x : AV} {v : Value} {ox y : Operand} {b : Bool} (hx : x.R g v) (h : errQ P op t x y = some b) (w : World) :
    (do eqGuard op t ox y v (a.eval y); binOp op t v (a.eval y) : Sem Value).run P w = .ok (.bool b) w := by
  unfold errQ at h
  split at h
  · rename_i c
    have ey : a.eval (.const .nilIface) = .nilIface := rfl
    rw [ey]
    have hi : ∀ ms, P.underlying t = some (.interface ms) → P.underlying t = some (.interface (P.methodsAt t)) := fun ms hu => by simp [Program.methodsAt, hu]
    have hv : (c = false → v = .nilIface) ∧ (c = true → ∃ t p, v = .iface t p) := hx
    split at h
    · rename_i ms hu
      injection h with h
      subst h
      cases c with
      | false => rw [hv.1 rfl]; simp [Sem.run_bind, eqGuard_nil_constR, eqGuard_at_iface, binOp, run_equal_nil_nil w t (hi ms hu)]
      | true => obtain ⟨tt, p, rfl⟩ := hv.2 rfl; simp [Sem.run_bind, eqGuard_nil_constR, eqGuard_at_iface, binOp, run_equal_held_nil w t tt p (hi ms hu)]
    · rename_i ms hu
      injection h with h
      subst h
      cases c with
      | false => rw [hv.1 rfl]; simp [Sem.run_bind, eqGuard_nil_constR, eqGuard_at_iface, binOp, run_equal_nil_nil w t (hi ms hu)]
      | true => obtain ⟨tt, p, rfl⟩ := hv.2 rfl; simp [Sem.run_bind, eqGuard_nil_constR, eqGuard_at_iface, binOp, run_equal_held_nil w t tt p (hi ms hu)]
    · cases h
  · cases h
theorem find_add64 {fn : Func} (h : fn.name = "math/bits.Add64") (h2 : fn.origin = "") : Extern.findNext fn = none ∧ Extern.find fn = some add64Entry := by
  have e1 : Extern.allNextRows.lookup "math/bits.Add64" = none := by kernel_rfl
  have e2 : Extern.allNextRows.lookup "" = none := by kernel_rfl
  have e3 : Extern.allGenericRows.lookup "math/bits.Add64" = none := by kernel_rfl
  have e4 : Extern.allTypedRows.lookup "math/bits.Add64" = none := by kernel_rfl
  have e5 : Extern.allRows.lookup "math/bits.Add64" = some add64Entry := by kernel_rfl
  constructor
  · unfold Extern.findNext
    rw [h, h2]
    simp only [e1, e2]
    rfl
  · unfold Extern.find
    rw [h, h2]
    simp only [e3, e4, e5]
    rfl
theorem natA_run {f : FuncId} {vs : List AV} {us : List Value} {k : AV → Option ρ} (h : natA P f vs k = some r) (hF : F2 (AV.R g) vs us) :
    ∃ x v, k x = some r ∧ x.R g v ∧ ∀ w1, (callFunc f us.toArray).run P w1 = .ok (.value v) w1 := by
  unfold natA at h
  split at h
  · rename_i hn
    unfold natIs at hn
    split at hn
    · cases hn
    · rename_i fn hfn
      simp only [Bool.and_eq_true, beq_iff_eq] at hn
      obtain ⟨hn1, hn2, hn3⟩ := hn
      split at h
      · rename_i x y z
        rcases cond_some h with ⟨hc, h⟩ | ⟨_, h⟩
        · obtain ⟨h0, h1, h2, h3⟩ := of_decide_eq_true hc
          match us, hF with
          | [u1, u2, u3], hF =>
            obtain ⟨rfl, rfl, rfl, _⟩ : u1 = _ ∧ u2 = _ ∧ u3 = _ ∧ True := ⟨hF.1, hF.2.1, hF.2.2.1, trivial⟩
            refine ⟨_, .tuple #[.int .u64 ((x + y + z) % 18446744073709551616), .int .u64 ((x + y + z) / 18446744073709551616)], h, ⟨_, rfl, rfl, rfl, trivial⟩, fun w1 => ?_⟩
            rw [run_callFunc_extern hfn (by rw [hn1]; rfl) hn3 (find_add64 hn1 hn2).1 (find_add64 hn1 hn2).2]
            rw [run_add64 x y z h0 h1 h2 h3 w1]
            rfl
        · cases h
      · cases h
  · cases h
theorem natA_op {f : FuncId} {vs : List AV} {us : Array Value} {k : AV → Option ρ} {x : Operand} {c : Call} (h : natA P f vs k = some r) (ho : o.op = .call c) (hc : c.callee = .value x) (hx : a.eval x = .func (.func f) #[] us) (hF : F2 (AV.R g) vs ((c.args.map a.eval).toList ++ us.toList)) :
    ∃ x v, k x = some r ∧ x.R g v ∧ ∀ w1, (execOp a.eval o).run P w1 = .ok (.value v) w1 := by
  obtain ⟨y, v, hk, hy, hrun⟩ := natA_run h hF
  refine ⟨y, v, hk, hy, fun w1 => ?_⟩
  have e : ((c.args.map a.eval).toList ++ us.toList).toArray = c.args.map a.eval ++ us := by simp
  rw [e] at hrun
  have := hrun w1
  simpa [execOp, ho, hc, resolve, hx, Deferred.ofValue, invoke] using this
theorem callF_sound {E : Ent} {f : FuncId} (hE : Good P f E.F) {x : Operand} {args : Array Operand} {ats : Array TypeId} {us : Array Value} (ho : o.op = .call { callee := .value x, args := args, argTypes := ats }) (hx : a.eval x = .func (.func f) #[] us)
    {avs : List AV} (hF : F2 (AV.R g) avs ((args.map a.eval).toList ++ us.toList)) (h : callF o st E avs k = some r) (hR : Rel st g a w)
    (hK : ∀ st' g' a' w', g.ext N g' → Rel st' g' a' w' → k st' = some r → K a' w') : o.wp P a w K Q := by
  unfold callF at h
  split at h
  · rename_i m hmi
    split at h
    · rename_i out hout
      obtain ⟨t, ht, h⟩ := Option.bind_eq_some_iff.1 h
      split at h
      · rename_i y hy
        obtain ⟨st', rets⟩ := y
        obtain ⟨hs, hm1, hfull, hF1, hown, hlen⟩ := mini_mem hR.mem hmi hF
        have hcall := hE.ok m.args m.boxes m.rows out t hout ht (g.over w m hs) w _ rfl hm1 hfull hF1
        obtain ⟨fn, h1, h2, h3⟩ := hE.fn
        have hrun : (execOp a.eval o).run P w = .ok (.enter f (args.map a.eval ++ us)) w := by
          have h2' : ¬ fn.name = "runtime.NumGoroutine" := by simpa using h2
          have h3' : ¬ fn.body = none := fun e => by rw [e] at h3; cases h3
          simp [execOp, ho, resolve, hx, Deferred.ofValue, invoke, callFunc, h1, h2', h3']
        unfold Oper.wp
        rw [hrun]
        have e : ((args.map a.eval).toList ++ us.toList).toArray = args.map a.eval ++ us := by simp
        rw [e] at hcall
        refine Calls.mono hcall fun e w' he => ?_
        obtain ⟨g', vs, rfl, hle, htm, hm', hF'⟩ := back_rel hR.mem hmi hfull hlen hown he hy
        exact hK _ _ _ _ hle.ext (hR.value hle htm hm' o.dst (retA_rel hF')) h
      · cases h
    · cases h
  · cases h
theorem callS_gen {E : Ent} {f : FuncId} (hE : Good P f E.F) {x : Operand} {args : Array Operand} {ats : Array TypeId} {us : Array Value} (ho : o.op = .call { callee := .value x, args := args, argTypes := ats }) (hx : a.eval x = .func (.func f) #[] us)
    {avs : List AV} (hF : F2 (AV.R g) avs ((args.map a.eval).toList ++ us.toList)) (h : callS o st E avs k = some r) (hR : Rel st g a w)
    (hK : ∀ st' g' a' w', g.le g' → (∃ bs, st'.boxes = (st.freeze (st.ownIds (avs.flatMap AV.all))).boxes ++ bs) → (∃ rs, st'.rows = (st.freeze (st.ownIds (avs.flatMap AV.all))).rows ++ rs) → Rel st' g' a' w' → k st' = some r → K a' w') : o.wp P a w K Q := by
  unfold callS at h
  obtain ⟨gf, hlef, hRf⟩ := freeze_rel (st.ownIds (avs.flatMap AV.all)) hR
  generalize st.freeze (st.ownIds (avs.flatMap AV.all)) = stf at h hRf hK
  split at h
  · rename_i y hy
    obtain ⟨as1, rs1⟩ := y
    split at h
    · rename_i out hout
      obtain ⟨t, ht, h⟩ := Option.bind_eq_some_iff.1 h
      split at h
      · rename_i z hz
        obtain ⟨st', rets⟩ := z
        obtain ⟨hs, hl, hFr, hG1⟩ := overSV_rel hRf.mem (hF.imp fun _ _ => AV.R_le hlef) hy
        obtain ⟨hm1, hfull⟩ := overS_mem hRf.mem hFr
        have hF1 := hG1 (gf.overS w hs) ⟨fun {b i x} h1 _ => by simp at h1, fun {r i v} h1 _ => by simp at h1, fun {j v} hj => by rw [Nat.zero_add]; exact hj⟩
        have hcall := hE.ok as1 [] rs1 out t hout ht (gf.overS w hs) w _ rfl hm1 hfull hF1
        obtain ⟨fn, h1, h2, h3⟩ := hE.fn
        have hrun : (execOp a.eval o).run P w = .ok (.enter f (args.map a.eval ++ us)) w := by
          have h2' : ¬ fn.name = "runtime.NumGoroutine" := by simpa using h2
          have h3' : ¬ fn.body = none := fun e => by rw [e] at h3; cases h3
          simp [execOp, ho, resolve, hx, Deferred.ofValue, invoke, callFunc, h1, h2', h3']
        unfold Oper.wp
        rw [hrun]
        have e : ((args.map a.eval).toList ++ us.toList).toArray = args.map a.eval ++ us := by simp
        rw [e] at hcall
        refine Calls.mono hcall fun e w' he => ?_
        obtain ⟨g1, vs, rfl, hext, hm2, hF2⟩ := he
        obtain ⟨g', hle, htm, hm', hF'⟩ := backS_rel hRf.mem hext hm2 hF2 hz
        obtain ⟨hbs, hrs⟩ := backS_ext hz
        exact hK _ _ _ _ (hlef.trans hle) (by rw [(put_mem o.dst _).1]; exact hbs) (by rw [(put_mem o.dst _).2]; exact hrs) (hRf.value hle htm hm' o.dst (retA_rel hF')) h
      · cases h
    · cases h
  · cases h
theorem callS_sound {E : Ent} {f : FuncId} (hE : Good P f E.F) {x : Operand} {args : Array Operand} {ats : Array TypeId} {us : Array Value} (ho : o.op = .call { callee := .value x, args := args, argTypes := ats }) (hx : a.eval x = .func (.func f) #[] us)
    {avs : List AV} (hF : F2 (AV.R g) avs ((args.map a.eval).toList ++ us.toList)) (h : callS o st E avs k = some r) (hR : Rel st g a w)
    (hK : ∀ st' g' a' w', g.ext N g' → Rel st' g' a' w' → k st' = some r → K a' w') : o.wp P a w K Q :=
  callS_gen hE ho hx hF h hR fun st' g' a' w' hle _ _ => hK st' g' a' w' hle.ext
theorem callG_sound {E : Ent} {f : FuncId} (hE : Good P f E.F) {x : Operand} {args : Array Operand} {ats : Array TypeId} {us : Array Value} (ho : o.op = .call { callee := .value x, args := args, argTypes := ats }) (hx : a.eval x = .func (.func f) #[] us)
    {avs : List AV} (hF : F2 (AV.R g) avs ((args.map a.eval).toList ++ us.toList)) (h : callG o st E avs k = some r) (hR : Rel st g a w)
    (hK : ∀ st' g' a' w', g.ext N g' → Rel st' g' a' w' → k st' = some r → K a' w') : o.wp P a w K Q := by
  unfold callG at h
  split at h
  · exact callF_sound hE ho hx hF h hR hK
  · rename_i rr hsub
    split at h
    · cases h
    · rename_i z hz
      obtain ⟨st1, H⟩ := z
      obtain ⟨v, blk, n, c, hm1, htm1, hr, hne, hv, hq, hin, hcell, hO, hdead⟩ := detach_rel hR.mem hz
      subst hr
      generalize hg1 : (⟨g.bx, g.rw, labTake H.q H.i H.off H.r g.tag, g.wz, g.lent, g.w0, g.rz⟩ : Gh) = g1 at hm1
      have hle1 : g.le g1 := by subst hg1; exact ⟨fun h => h, fun h => h, rfl, fun h => h, fun h => h, fun h => .inl h⟩
      have htag : g1.tag = labTake H.q H.i H.off H.r g.tag := by subst hg1; rfl
      split at h
      · rename_i m hmi
        split at h
        · rename_i out hout
          obtain ⟨t, ht, h⟩ := Option.bind_eq_some_iff.1 h
          split at h
          · rename_i y hy
            split at h
            · rename_i s3 hs3
              obtain ⟨st', rets⟩ := y
              obtain ⟨hs, hm2, hfull, hF1, hown, hlen⟩ := mini_mem hm1 hmi (hF.imp fun _ _ => AV.R_le hle1)
              have hcall := hE.ok m.args m.boxes m.rows out t hout ht (g1.over w m hs) w _ rfl hm2 hfull hF1
              obtain ⟨fn, h1, h2, h3⟩ := hE.fn
              have hrun : (execOp a.eval o).run P w = .ok (.enter f (args.map a.eval ++ us)) w := by
                have h2' : ¬ fn.name = "runtime.NumGoroutine" := by simpa using h2
                have h3' : ¬ fn.body = none := fun e => by rw [e] at h3; cases h3
                simp [execOp, ho, resolve, hx, Deferred.ofValue, invoke, callFunc, h1, h2', h3']
              unfold Oper.wp
              rw [hrun]
              have e : ((args.map a.eval).toList ++ us.toList).toArray = args.map a.eval ++ us := by simp
              rw [e] at hcall
              refine Calls.mono hcall fun e w' he => ?_
              obtain ⟨g', vs, rfl, hle, htm, hm', hF', hfr⟩ := back_rel2 hm1 hmi hfull hlen hown he hy
              obtain ⟨g3, hle3, hm3, htm3⟩ := attach_rel (w := w) hm' hs3 (fun a u => rz_cell (fun {k c e f} x => hle.rz (hle1.rz x))) (hle.rw (hle1.rw hv)) (hle.rw (hle1.rw hq)) hin hcell hO (fun k p hk hl hne' => by
                have hl1 : g1.tag k = some (H.q, p) := by
                  rw [htag]
                  exact labTake_miss hl fun m' he => hne' m' (congrArg Prod.snd he)
                have hnl : ¬ Lent g1 m.B m.R k := by
                  rintro (⟨r', p', h5, h6⟩ | ⟨b', _, h6⟩)
                  · rw [hl1] at h5
                    injection h5 with h5
                    injection h5 with h5 _
                    subst h5
                    obtain ⟨_, _, lr, _, _, hlr, _, _, _⟩ := mini_some hmi
                    obtain ⟨i, hi⟩ := List.getElem?_of_mem (List.contains_iff_mem.1 h6)
                    obtain ⟨row, md, h7, h8, _⟩ := (lentRows_get hlr).2 hi
                    rw [hdead] at h7
                    injection h7 with h7
                    subst h7
                    cases h8
                  · rw [(hm1.free h6).1] at hl1
                    cases hl1
                exact ⟨(hfr k hk hnl).1, (hfr k hk hnl).2.trans hl1⟩)
              exact hK _ _ _ _ ((hle1.trans hle).trans hle3).ext (hR.value ((hle1.trans hle).trans hle3) (htm3.trans (htm.trans htm1)) hm3 o.dst (retA_rel (hF'.imp fun _ _ => A1.R_le hle3))) h
            · cases h
          · cases h
        · cases h
      · cases h
theorem callH_sound {E : Ent} {f : FuncId} (hE : Good P f E.F) {x : Operand} {args : Array Operand} {ats : Array TypeId} {us : Array Value} (ho : o.op = .call { callee := .value x, args := args, argTypes := ats }) (hx : a.eval x = .func (.func f) #[] us)
    {avs : List AV} (hF : F2 (AV.R g) avs ((args.map a.eval).toList ++ us.toList)) (h : callH o st E avs k = some r) (hR : Rel st g a w)
    (hK : ∀ st' g' a' w', g.ext N g' → Rel st' g' a' w' → k st' = some r → K a' w') : o.wp P a w K Q := by
  unfold callH at h
  split at h
  · rename_i rr rest hlent
    split at h
    · rename_i row hrow
      split at h
      · rename_i hmd
        split at h
        · rename_i hp hwb
          have hw : row.s.wh = 1 := Nat.eq_of_beq_eq_true hwb
          have hm := hR.mem
          have hlt : rr < g.rw.length := by rw [← hm.rl]; exact (List.getElem?_eq_some_iff.1 hrow).1
          obtain ⟨v, hv⟩ : ∃ v, g.rw[rr]? = some v := ⟨_, List.getElem?_eq_getElem hlt⟩
          obtain ⟨inner, hs, hO, hlab, hH, hm1⟩ := byHeads_mem hm hrow hmd hp hw hv
          have h := anyH_some h hH.1 hH.2.1
          obtain ⟨zs, hzs⟩ : ∃ zs, zs = List.zipWith row.s.att hs row.xs := ⟨_, rfl⟩
          rw [← hzs] at h hm1
          simp only at h
          split at h
          · rename_i m hmi
            split at h
            · rename_i i hi
              split at h
              · rename_i out hout
                obtain ⟨t, ht, h⟩ := Option.bind_eq_some_iff.1 h
                split at h
                · rename_i j e' ys hj
                  split at h
                  · rename_i y q hy hq
                    obtain ⟨hth, h⟩ := thaw_some h
                    obtain ⟨st', rets⟩ := y
                    have hmiS : (⟨st.tmps, st.boxes, (st.byHeads rr row zs).rows⟩ : St).mini E.muts avs = some m := hmi
                    obtain ⟨hsv, hm2, hfull, hF1, hown, hlen⟩ := mini_mem (st := st.byHeads rr row zs) (g := g.hid rr) hm1 hmi (hF.imp fun _ _ => AV.R_le (g.hid_le rr))
                    obtain ⟨hm2', hN⟩ := over_heads hm hrow hp hv hO hlab hH hzs hm1 hmi hi hm2
                    have hcall := hE.ok m.args m.boxes (m.rows.set i ⟨row.e, row.s.hsh, zs, .own⟩) out t hout ht ((g.hid rr).over w m hsv) w _ rfl hm2' hfull hF1
                    rw [hN] at hcall
                    obtain ⟨fn, h1, h2, h3⟩ := hE.fn
                    have hrun : (execOp a.eval o).run P w = .ok (.enter f (args.map a.eval ++ us)) w := by
                      have h2' : ¬ fn.name = "runtime.NumGoroutine" := by simpa using h2
                      have h3' : ¬ fn.body = none := fun e => by rw [e] at h3; cases h3
                      simp [execOp, ho, resolve, hx, Deferred.ofValue, invoke, callFunc, h1, h2', h3']
                    unfold Oper.wp
                    rw [hrun]
                    have e : ((args.map a.eval).toList ++ us.toList).toArray = args.map a.eval ++ us := by simp
                    rw [e] at hcall
                    refine Calls.mono hcall fun e w' he => ?_
                    obtain ⟨g1, vs, rfl, hext, hm3, hF3⟩ := he
                    obtain ⟨g', hle, htm, hm', hF'⟩ := back_heads hm hrow hp hw hv hO hlab hH hzs hm1 hmi hfull hlen hown hext hm3 hF3 hj hth hy hq
                    exact hK _ _ _ _ hle.ext (hR.value (st' := ⟨st'.tmps, st'.boxes, st'.rows.set q ⟨e', row.s, ys.map row.s.bare, .own⟩⟩) hle htm hm' o.dst (retA_rel hF')) h
                  · cases h
                · cases h
              · cases h
            · cases h
          · cases h
        · cases h
      · cases h
    · cases h
  · cases h
theorem callK_sound {E : Ent} {f : FuncId} (hE : Good P f E.F) {x : Operand} {args : Array Operand} {ats : Array TypeId} {us : Array Value} (ho : o.op = .call { callee := .value x, args := args, argTypes := ats }) (hx : a.eval x = .func (.func f) #[] us)
    {avs : List AV} (hF : F2 (AV.R g) avs ((args.map a.eval).toList ++ us.toList)) (h : callK o st E avs k = some r) (hR : Rel st g a w)
    (hK : ∀ st' g' a' w', g.ext N g' → Rel st' g' a' w' → k st' = some r → K a' w') : o.wp P a w K Q := by
  have h' := h
  unfold callK at h
  split at h
  · rename_i rr rest hlent
    split at h
    · rename_i row hrow
      split at h
      · rename_i hmd
        split at h
        · rename_i hp
          have hm := hR.mem
          have hlt : rr < g.rw.length := by rw [← hm.rl]; exact (List.getElem?_eq_some_iff.1 hrow).1
          obtain ⟨v, hv⟩ : ∃ v, g.rw[rr]? = some v := ⟨_, List.getElem?_eq_getElem hlt⟩
          have hm1 := byKv_mem hm hrow hmd hp hv
          split at h
          · rename_i m hmi
            split at h
            · rename_i i hi
              split at h
              · rename_i out hout
                obtain ⟨t, ht, h⟩ := Option.bind_eq_some_iff.1 h
                split at h
                · rename_i j e' ys hj
                  split at h
                  · rename_i y q hy hq
                    obtain ⟨hkp, h⟩ := keep_some h
                    obtain ⟨st', rets⟩ := y
                    obtain ⟨hsv, hm2, hfull, hF1, hown, hlen⟩ := mini_mem (st := st.byKv rr row) hm1 hmi hF
                    obtain ⟨hm2', hN⟩ := over_kv hm hrow hmd hp hv hmi hi hm2
                    have hcall := hE.ok m.args m.boxes (m.rows.set i ⟨row.e, row.s, row.xs, .own⟩) out t hout ht (g.over w m hsv) w _ rfl hm2' hfull hF1
                    rw [hN] at hcall
                    obtain ⟨fn, h1, h2, h3⟩ := hE.fn
                    have hrun : (execOp a.eval o).run P w = .ok (.enter f (args.map a.eval ++ us)) w := by
                      have h2' : ¬ fn.name = "runtime.NumGoroutine" := by simpa using h2
                      have h3' : ¬ fn.body = none := fun e => by rw [e] at h3; cases h3
                      simp [execOp, ho, resolve, hx, Deferred.ofValue, invoke, callFunc, h1, h2', h3']
                    unfold Oper.wp
                    rw [hrun]
                    have e : ((args.map a.eval).toList ++ us.toList).toArray = args.map a.eval ++ us := by simp
                    rw [e] at hcall
                    refine Calls.mono hcall fun e w' he => ?_
                    obtain ⟨g1, vs, rfl, hext, hm3, hF3⟩ := he
                    obtain ⟨_, hjr⟩ := kFind_some hj
                    rw [Nat.sub_zero] at hjr
                    have hq' : st'.rows[q]? = some ⟨e', row.s.kvs, ys.map row.s.kdv, .own⟩ := back_row hmi hy hq (List.getElem?_set_self (List.getElem?_eq_some_iff.1 hjr).1) rfl
                    obtain ⟨g', hle, htm, hm', hF'⟩ := back_kv hm hrow hmd hp hv hmi hfull hlen hown hext hm3 hF3 hj hkp hy hq'
                    exact hK _ _ _ _ hle.ext (hR.value (st' := ⟨st'.tmps, st'.boxes, st'.rows.set q ⟨e', row.s, ys, .own⟩⟩) hle htm hm' o.dst (retA_rel hF')) h
                  · cases h
                · cases h
              · cases h
            · cases h
          · cases h
        · exact callH_sound hE ho hx hF h hR hK
      · cases h
    · cases h
  · cases h
theorem callX_sound (hG : ∀ f E, G f = some E → Good P f E.F) {c : Call} (ho : o.op = .call c) (h : callX P G o st c k = some r) (hR : Rel st g a w)
    (hK : ∀ st' g' a' w', g.ext N g' → Rel st' g' a' w' → k st' = some r → K a' w') : o.wp P a w K Q := by
  have ev := fun x => eval_rel hR.tmps x
  unfold callX at h
  split at h
  · rename_i hc
    split at h
    · rename_i x y t t' hxs hts
      split at h
      · rename_i htt
        subst htt
        split at h
        · rename_i x' y' hx hy
          split at h
          · rename_i z hz
            obtain ⟨b, y1, st'⟩ := z
            rcases cond_some h with ⟨hb, h⟩ | ⟨_, h⟩
            · have hts' : c.argTypes = #[t, t] := by rw [← Array.toArray_toList (xs := c.argTypes), hts]
              obtain ⟨g', w', v', hle, hm, ht, hy1, hrun⟩ := appendZ_run (ty := o.type) hR.mem (one_get (ev x) hx) (one_get (ev y) hy) hz (of_decide_eq_true hb)
              refine wp_val (v := v') (w' := w') ?_ (hK _ _ _ _ hle.ext (hR.value hle ht hm o.dst (x := .s1 (.one y1)) hy1) h)
              simp [execOp, ho, hc, resolve, invoke, builtin, run_args2 hxs, hts', hrun]
            · cases h
          · split at h
            · rename_i z hz
              obtain ⟨b, y1, st'⟩ := z
              rcases cond_some h with ⟨hb, h⟩ | ⟨_, h⟩
              · have hts' : c.argTypes = #[t, t] := by rw [← Array.toArray_toList (xs := c.argTypes), hts]
                obtain ⟨g', w', v', hle, hR', hy1, hrun⟩ := appendM_run (ty := o.type) hR (one_get (ev x) hx) (one_get (ev y) hy) hz (of_decide_eq_true hb)
                refine wp_val (v := v') (w' := w') ?_ (hK _ _ _ _ hle.ext (hR'.value (.refl g') rfl hR'.mem o.dst (x := .s1 (.one y1)) hy1) h)
                simp [execOp, ho, hc, resolve, invoke, builtin, run_args2 hxs, hts', hrun]
              · cases h
            · cases h
        · cases h
      · cases h
    · cases h
  · rename_i hc
    split at h
    · rename_i x y hxs
      split at h
      · rename_i k1 a1 k2 b1 hx hy
        have e1 := val_get (ev x) hx
        have e2 := val_get (ev y) hy
        refine wp_val (v := .int k1 (if b1 < a1 then b1 else a1)) (w' := w) ?_ (hK _ _ _ _ (.refl _ _) (hR.value (.refl g) rfl hR.mem o.dst (x := .s1 (.one (.val (.int k1 (if b1 < a1 then b1 else a1))))) rfl) h)
        simp [execOp, ho, hc, resolve, invoke, builtin, run_args2 hxs, e1, e2, run_min_int2]
      · cases h
    · cases h
  · rename_i hc
    split at h
    · rename_i x y hxs
      split at h
      · rename_i k1 a1 k2 b1 hx hy
        have e1 := val_get (ev x) hx
        have e2 := val_get (ev y) hy
        refine wp_val (v := .int k1 (if b1 > a1 then b1 else a1)) (w' := w) ?_ (hK _ _ _ _ (.refl _ _) (hR.value (.refl g) rfl hR.mem o.dst (x := .s1 (.one (.val (.int k1 (if b1 > a1 then b1 else a1))))) rfl) h)
        simp [execOp, ho, hc, resolve, invoke, builtin, run_args2 hxs, e1, e2, run_max_int2]
      · cases h
    · cases h
  · rename_i hc
    split at h
    · rename_i x t hxs hts
      split at h
      · rename_i x' hx
        split at h
        · rename_i st' hst
          obtain ⟨w', g', hle, hrun, hm, ht⟩ := clearA_run (P := P) (ty := o.type) hR.mem (one_get (ev x) hx) hst
          have hxs' : c.args = #[x] := by rw [← Array.toArray_toList (xs := c.args), hxs]
          have hts' : c.argTypes = #[t] := by rw [← Array.toArray_toList (xs := c.argTypes), hts]
          refine wp_val (v := undef) (w' := w') ?_ (hK _ _ _ _ hle.ext (hR.value hle ht hm o.dst (x := .s1 (.one (.val undef))) rfl) h)
          simp [execOp, ho, hc, resolve, invoke, builtin, hxs', hts', hrun]
        · cases h
      · cases h
    · cases h
  · rename_i x hc
    split at h
    · rename_i fc hfc
      split at h
      · rename_i E avs st1 hE hfix
        have hargs : F2 (AV.R g) (c.args.toList.map st.eval) (c.args.map a.eval).toList := by
          rw [Array.toList_map]
          generalize c.args.toList = l
          induction l with
          | nil => trivial
          | cons y l ih => exact ⟨ev y, ih⟩
        obtain ⟨g1, hle1, ht1, hm1, hF1⟩ := fixVs_rel (P := P) (ts := c.argTypes.toList) hR.mem hargs
        rw [hfix] at ht1 hm1 hF1
        obtain ⟨us, hus, hF2⟩ := calleeA_rel (ev x) hfc
        have hF3 := hF1.append (hF2.imp fun _ _ => AV.R_le hle1)
        have hR1 : Rel st1 g1 a w := ⟨by rw [ht1]; exact hR.tmps.imp fun _ _ => AV.R_le hle1, hR.defers, hm1⟩
        split at h
        · exact callS_sound (hG _ _ hE) (args := c.args) (ats := c.argTypes) (by rw [ho]; cases c; simp_all) hus hF3 h hR1 fun st' g' a' w' he => hK st' g' a' w' (hle1.ext.trans he)
        · split at h
          · exact callK_sound (hG _ _ hE) (args := c.args) (ats := c.argTypes) (by rw [ho]; cases c; simp_all) hus hF3 h hR1 fun st' g' a' w' he => hK st' g' a' w' (hle1.ext.trans he)
          · exact callG_sound (hG _ _ hE) (args := c.args) (ats := c.argTypes) (by rw [ho]; cases c; simp_all) hus hF3 h hR1 fun st' g' a' w' he => hK st' g' a' w' (hle1.ext.trans he)
      · obtain ⟨us, hus, hF2⟩ := calleeA_rel (ev x) hfc
        have hargs : F2 (AV.R g) (c.args.toList.map st.eval) (c.args.map a.eval).toList := by
          rw [Array.toList_map]
          generalize c.args.toList = l
          induction l with
          | nil => trivial
          | cons y l ih => exact ⟨ev y, ih⟩
        obtain ⟨y, v, hk, hy, hrun⟩ := natA_op h ho hc hus (hargs.append hF2)
        exact wp_val (hrun w) (hK _ _ _ _ (.refl _ _) (hR.value (.refl g) rfl hR.mem o.dst hy) hk)
    · cases h
  · exact stepOp_sound h hR hK
theorem makeRow_rows {st st' : St} {e : TypeId} {s : Sh} {z : Value} {l : Nat} {y : AL} (h : makeRow st e s z l = some (y, st')) : st'.boxes = st.boxes ∧ ∃ row, st'.rows = st.rows ++ [row] := by
  unfold makeRow at h
  split at h
  · rename_i x hx
    split at h
    · simp only [Option.some.injEq, Prod.mk.injEq] at h
      obtain ⟨_, rfl⟩ := h
      exact ⟨rfl, _, rfl⟩
    · cases h
  · cases h
theorem makeX_add {t : TypeId} {l c : Operand} (ho : o.op = .makeSlice t l c) {kl kc : IntKind} {ln cn : Int} (hl : a.eval l = .int kl ln) (hc : a.eval c = .int kc cn) (h : makeX P o st t ln cn k = some r) (hR : Rel st g a w)
    (hK : ∀ st' g' a' w', g.le g' → st'.boxes = st.boxes → (∃ row, st'.rows = st.rows ++ [row]) → Rel st' g' a' w' → k st' = some r → K a' w') : o.wp P a w K Q := by
  unfold makeX at h
  split at h
  · rename_i e hu
    split at h
    · rename_i i s hi hs
      split at h
      · rename_i z hz
        split at h
        · rename_i hsz
          split at h
          · rename_i y hy
            obtain ⟨y1, st'⟩ := y
            rcases cond_some h with ⟨hb, h⟩ | ⟨_, h⟩
            · obtain ⟨h0, h1, h2, h3⟩ := of_decide_eq_true hb
              have hrun := run_make (P := P) w t e i z hu hi hz kl kc ln cn h0 h1 h2 h3
              rw [hsz.1] at hrun
              obtain ⟨g', hle, hm, ht, hy1⟩ := makeRow_rel hR.mem hy hsz.2 (l := ln.toNat) (c := cn.toNat) (by omega) (by omega)
              obtain ⟨hbx, row, hrows⟩ := makeRow_rows hy
              refine wp_val ?_ (hK _ _ _ _ hle (by rw [(put_mem o.dst _).1]; exact hbx) ⟨row, by rw [(put_mem o.dst _).2]; exact hrows⟩ (hR.value hle ht hm o.dst (x := .s1 (.one y1)) hy1) h)
              simp [execOp, ho, hl, hc, hrun]
            · cases h
          · cases h
        · cases h
      · cases h
    · cases h
  · cases h
theorem makeX_sound {t : TypeId} {l c : Operand} (ho : o.op = .makeSlice t l c) {kl kc : IntKind} {ln cn : Int} (hl : a.eval l = .int kl ln) (hc : a.eval c = .int kc cn) (h : makeX P o st t ln cn k = some r) (hR : Rel st g a w)
    (hK : ∀ st' g' a' w', g.ext N g' → Rel st' g' a' w' → k st' = some r → K a' w') : o.wp P a w K Q :=
  makeX_add ho hl hc h hR fun st' g' a' w' hle _ _ hR' h' => hK st' g' a' w' hle.ext hR' h'
theorem stepX_sound (hG : ∀ f E, G f = some E → Good P f E.F) (h : stepX P G o st k = some r) (hR : Rel st g a w)
    (hK : ∀ st' g' a' w', g.ext N g' → Rel st' g' a' w' → k st' = some r → K a' w') : o.wp P a w K Q := by
  have ev := fun x => eval_rel hR.tmps x
  unfold stepX at h
  split at h
  · rename_i t parts ho
    split at h
    · rename_i cs hcs
      obtain ⟨vs, hF, hrun⟩ := buildA_run hR hcs
      refine wp_val (v := .agg vs) (w' := w) ?_ (hK _ _ _ _ (.refl _ _) (hR.value (.refl g) rfl hR.mem o.dst (x := .s1 (.agg cs)) ⟨vs, rfl, hF⟩) h)
      simp [execOp, ho, hrun w]
    · cases h
  · rename_i t n parts ho
    split at h
    · rename_i y hy
      obtain ⟨y1, st'⟩ := y
      obtain ⟨g', w', v, hle, hm, ht, hy1, hrun⟩ := litD_run hR hy
      refine wp_val (v := v) (w' := w') ?_ (hK _ _ _ _ hle.ext (hR.value hle ht hm o.dst (x := .s1 (.one y1)) hy1) h)
      simp [execOp, ho, hrun]
    · cases h
  · rename_i t l c ho
    split at h
    · rename_i kl ln kc cn hl hc
      exact makeX_sound ho (val_get (ev l) hl) (val_get (ev c) hc) h hR hK
    · cases h
  · rename_i t x lo hi ho
    split at h
    · rename_i y l hh hx hl hh'
      obtain ⟨z, u, hz, hk, hrun⟩ := cutA_run hR.mem (one_get (ev x) hx) (optI_rel hR hl) (optI_rel hR hh') h
      refine wp_val (v := u) (w' := w) ?_ (hK _ _ _ _ (.refl _ _) (hR.value (.refl g) rfl hR.mem o.dst (x := .s1 (.one z)) hz) hk)
      simp [execOp, ho, hrun w]
    · cases h
  · rename_i t x y ho
    split at h
    · rename_i q sz i off v hx hv
      split at h
      · rename_i st' hs
        have hy : v.R g (a.eval y) := by have := ev y; rw [hv] at this; exact this
        obtain ⟨g', w', hle, hm, ht, hrun⟩ := storeE_sound hR.mem (one_get (ev x) hx) hy hs
        exact wp_skp (w' := w') (by simp [execOp, ho, hrun]) (hK _ _ _ _ hle.ext (hR.value hle ht hm o.dst (x := .s1 (.one (.val undef))) (v := undef) rfl) h)
      · cases h
    · exact stepOp_sound h hR hK
  · rename_i op xT x y yT ho
    split at h
    · rename_i b hb
      refine wp_val (v := .bool b) (w' := w) ?_ (hK _ _ _ _ (.refl _ _) (hR.value (.refl g) rfl hR.mem o.dst (x := .s1 (.one (.val (.bool b)))) rfl) h)
      have hr := errQ_run (a := a) (ox := x) (ev x) hb w
      simp only [execOp, ho]
      rw [Sem.run_bind, hr]
      rfl
    unfold binX at h
    split at h
    · rename_i xs ys hx hy
      have e1 := ev x
      rw [hx] at e1
      obtain ⟨us, e1, hF1⟩ := e1
      have e2 := ev y
      rw [hy] at e2
      obtain ⟨vs, e2, hF2⟩ := e2
      split at h
      · split at h
        · rename_i b hb
          obtain ⟨h1, h2⟩ := eqSA_run (op := .eql) (ox := x) (oy := y) hb hF1 hF2 w
          refine wp_val (v := .bool b) (w' := w) ?_ (hK _ _ _ _ (.refl _ _) (hR.value (.refl g) rfl hR.mem o.dst (x := .s1 (.one (.val (.bool b)))) rfl) h)
          simp only [execOp, ho, e1, e2]
          simp [Sem.run_bind, h1, run_eql_struct, h2]
        · cases h
      · split at h
        · rename_i b hb
          obtain ⟨h1, h2⟩ := eqSA_run (op := .neq) (ox := x) (oy := y) hb hF1 hF2 w
          refine wp_val (v := .bool (!b)) (w' := w) ?_ (hK _ _ _ _ (.refl _ _) (hR.value (.refl g) rfl hR.mem o.dst (x := .s1 (.one (.val (.bool (!b))))) rfl) h)
          simp only [execOp, ho, e1, e2]
          simp [Sem.run_bind, h1, run_neq_struct, h2]
        · cases h
      · cases h
    · rename_i b1 b2 hx hy
      have e1 := val_get (ev x) hx
      have e2 := val_get (ev y) hy
      split at h
      · rename_i hu
        split at h
        · refine wp_val (v := .bool (b1 == b2)) (w' := w) ?_ (hK _ _ _ _ (.refl _ _) (hR.value (.refl g) rfl hR.mem o.dst (x := .s1 (.one (.val (.bool (b1 == b2))))) rfl) h)
          simp only [execOp, ho, e1, e2]
          simp [eqGuard, binOp, Op.equal, Op.maxDepth, run_equalIn_bool' _ _ _ _ _ hu]
        · refine wp_val (v := .bool (!(b1 == b2))) (w' := w) ?_ (hK _ _ _ _ (.refl _ _) (hR.value (.refl g) rfl hR.mem o.dst (x := .s1 (.one (.val (.bool (!(b1 == b2)))))) rfl) h)
          simp only [execOp, ho, e1, e2]
          simp [eqGuard, binOp, Op.equal, Op.maxDepth, run_equalIn_bool' _ _ _ _ _ hu]
        · cases h
      · cases h
    · exact stepOp_sound h hR hK
  · rename_i src dst x ho
    unfold convX at h
    split at h
    · rename_i e hs hd
      split at h
      · rename_i y he hx
        split at h
        · rename_i ys hys
          obtain ⟨xs, own, q⟩ := ys
          obtain ⟨⟨B, d, hB, hC⟩, _⟩ := srcA_rel hR.mem (one_get (ev x) hx) hys
          have hrun := Kd.C_string (P := P) (c := d) hs he hd hC
          refine wp_val (v := .string (strOfNums xs)) (w' := w) ?_ (hK _ _ _ _ (.refl _ _) (hR.value (.refl g) rfl hR.mem o.dst (x := .s1 (.one (.val (.string (strOfNums xs))))) rfl) h)
          simp only [execOp, ho, hB]
          simp [hrun]
        · cases h
      · cases h
    · exact stepOp_sound h hR hK
  · rename_i c ho
    exact callX_sound hG ho h hR hK
  · rename_i f first captured ho
    split at h
    · rename_i cs hf hc
      have hF := capsA_rel hR hc
      refine wp_val (v := .func (.func f) #[] (captured.map a.eval)) (w' := w) ?_ (hK _ _ _ _ (.refl _ _) (hR.value (.refl g) rfl hR.mem o.dst (x := .s1 (.one (.fn f cs))) ⟨_, rfl, by rw [Array.toList_map]; exact hF⟩) h)
      have hf' : first = #[] := by rw [← Array.toArray_toList (xs := first), hf]
      simp [execOp, ho, Instr.makeFunc, hf']
    · cases h
  · exact stepOp_sound h hR hK
end
end Go.Proofs.YtmbcnpbgcfiafaaGreat.Vm
