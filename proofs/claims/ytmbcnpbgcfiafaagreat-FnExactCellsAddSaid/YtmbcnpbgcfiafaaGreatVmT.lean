/- A walk by reckoning: regions whose order is drawn, third part: every order at once. -/
import Derived.Test.YtmbcnpbgcfiafaaGreatVmS
namespace Go.Proofs.YtmbcnpbgcfiafaaGreat.Vm
open Go Go.RowKit Go.Proofs.YtmbcnpbgcfiafaaGreatW.PrintWords
set_option linter.unusedVariables false
set_option linter.unusedSimpArgs false

def Md.same : Md → Md → Bool
  | .ro, .ro => true
  | .rop, .rop => true
  | .own, .own => true
  | .dead, .dead => true
  | .brw q, .brw q' => decide (q = q')
  | _, _ => false
theorem Md.same_eq {a b : Md} (h : a.same b = true) : a = b := by
  cases a <;> cases b <;> first | rfl | (cases h; done) | (simp [Md.same] at h; rw [h]; done) | (simp [Md.same] at h; done)
def Md.isDead : Md → Bool
  | .dead => true
  | _ => false
def mdSame : List Row → List Row → Bool
  | [], _ => true
  | r :: rs, r' :: rs' => (!r'.md.isDead || r.md.isDead) && mdSame rs rs'
  | _ :: _, [] => false
theorem killed_same {ids : List Nat} : ∀ {n : Nat} {rs rs1 : List Row}, mdSame rs (killed ids n rs ++ rs1) = true → killed ids n rs = rs
  | _, [], _, _ => rfl
  | n, r :: rs, rs1, h => by
    simp only [killed, List.cons_append, mdSame, Bool.and_eq_true] at h ⊢
    rw [killed_same h.2]
    congr 1
    split
    · rename_i hc
      rw [if_pos hc] at h
      obtain ⟨e, s, xs, md⟩ := r
      have h1 : md.isDead = true := by simpa [Md.isDead] using h.1
      cases md <;> first | rfl | cases h1
    · rfl
section
variable (P : Program) {ρ : Type} (G : Env)
def callE (o : Oper) (st : St) (E : Ent) (avs : List AV) (k : St → Option ρ) : Option ρ :=
  match st.mini E.muts avs with
  | some m =>
    if m.B = [] ∧ m.R = [] then callF o st E avs k else none
  | none => none
def addOp (o : Oper) (st : St) (k : St → Option ρ) : Option ρ :=
  match o.op with
  | .alloc e =>
    match (P.info? e).bind (·.zero) with
    | none => none
    | some z => k (boxA st o.dst e (z.cells.toList.map .val))
  | .box e x =>
    match st.eval x with
    | .s1 v => if v.cells.all st.firm = true then k (boxA st o.dst e v.cells) else none
    | _ => none
  | .buildSlice t n parts =>
    match litA P st t n parts.toList with
    | some y => if mdSame st.rows y.2.rows = true then k (y.2.put o.dst (.s1 (.one y.1))) else none
    | none => none
  | .makeSlice t l c =>
    match st.eval l, st.eval c with
    | .s1 (.one (.val (.int _ ln))), .s1 (.one (.val (.int _ cn))) => makeX P o st t ln cn k
    | _, _ => none
  | .call c =>
    match c.callee with
    | .value x =>
      match calleeA st x with
      | some fc =>
        match G fc.1, fixVs P c.argTypes.toList (c.args.toList.map st.eval) st with
        | some E, (avs, st1) => if mdSame st.rows st1.rows = true ∧ st1.boxes.length = st.boxes.length then callE o st1 E (avs ++ fc.2) k else none
        | none, _ => none
      | none => none
    | _ => none
  | _ => none
end
section
variable {P : Program} {ρ : Type} {G : Env} {N : Nat × Nat} {o : Oper} {st : St} {k : St → Option ρ} {r : ρ} {g : Gh} {a : Act} {w : World} {K : Act → World → Prop} {Q : Exit → Act → World → Prop}
theorem boxA_ext (dst : Option Tmp) (e : TypeId) (cs : List AL) : Ext st (boxA st dst e cs) := Ext.put ⟨⟨[(e, cs)], rfl⟩, [], by simp⟩ _ _
theorem fix1_ext (t : TypeId) (x : AL) (st : St) : Ext st (fix1 P t x st).2 := by
  unfold fix1
  split
  · split
    · split
      · exact ⟨⟨[], by simp⟩, _, rfl⟩
      · exact .refl _
    · exact .refl _
  · exact .refl _
theorem fixL_ext : ∀ (ts : List TypeId) (xs : List AL) (st : St), Ext st (fixL P ts xs st).2
  | _, [], st => .refl _
  | ts, x :: xs, st => (fix1_ext _ x st).trans (fixL_ext ts.tail xs _)
theorem fixV_ext (t : TypeId) (x : AV) (st : St) : Ext st (fixV P t x st).2 := by
  cases x with
  | s1 y =>
    cases y with
    | one z => exact fix1_ext _ _ _
    | agg zs => exact fixL_ext _ _ _
  | tup xs => exact .refl _
theorem fixVs_ext : ∀ (ts : List TypeId) (xs : List AV) (st : St), Ext st (fixVs P ts xs st).2
  | _, [], st => .refl _
  | ts, x :: xs, st => (fixV_ext _ x st).trans (fixVs_ext ts.tail xs _)
theorem setRows_nil (news : List Row) : ∀ (n : Nat) (rs : List Row), setRows [] news n rs = rs
  | _, [] => rfl
  | n, r :: rs => by simp [setRows, setRows_nil news (n + 1) rs]
theorem setBoxes_nil (news : List (TypeId × List AL)) : ∀ (n : Nat) (rs : List (TypeId × List AL)), setBoxes [] news n rs = rs
  | _, [] => rfl
  | n, r :: rs => by simp [setBoxes, setBoxes_nil news (n + 1) rs]
theorem killed_nil : ∀ (n : Nat) (rs : List Row), killed [] n rs = rs
  | _, [] => rfl
  | n, r :: rs => by simp [killed, dies, killed_nil (n + 1) rs]
theorem backAt_ext {st : St} {m : Mini} {res : Res} {y : St × List A1} (hB : m.B = []) (hR : m.R = []) (h : st.backAt m res = some y) : Ext st y.1 := by
  unfold St.backAt at h
  split at h
  · injection h with h
    subst h
    simp only [hB, hR, setRows_nil, setBoxes_nil, killed_nil]
    exact ⟨⟨[], by simp⟩, _, rfl⟩
  · cases h
theorem callF_add {E : Ent} {f : FuncId} (hE : Good P f E.F) {x : Operand} {args : Array Operand} {ats : Array TypeId} {us : Array Value} (ho : o.op = .call { callee := .value x, args := args, argTypes := ats }) (hx : a.eval x = .func (.func f) #[] us)
    {avs : List AV} (hF : F2 (AV.R g) avs ((args.map a.eval).toList ++ us.toList)) {m : Mini} (hmi : st.mini E.muts avs = some m) (hB : m.B = []) (hRr : m.R = []) (h : callF o st E avs k = some r) (hR : Rel st g a w)
    (hK : ∀ st' g' a' w', g.le g' → Ext st st' → Rel st' g' a' w' → k st' = some r → K a' w') : o.wp P a w K Q := by
  unfold callF at h
  rw [hmi] at h
  simp only at h
  split at h
  · rename_i out hout
    obtain ⟨t, ht, h⟩ := Option.bind_eq_some_iff.1 h
    split at h
    · rename_i y hy
      have hext := backAt_ext hB hRr hy
      obtain ⟨st', rets⟩ := y
      obtain ⟨hs, hm1, hfull, hF1, hown, hlen⟩ := mini_mem hR.mem hmi hF
      have hcall := hE.ok m.args m.boxes m.rows out t hout ht (g.over w m hs) w _ rfl hm1 hfull hF1
      obtain ⟨fn, h1, h2, h3⟩ := hE.fn
      have hrun : (execOp a.eval o).run P w = .ok (.enter f (args.map a.eval ++ us)) w := by
        have h2' : ¬ fn.name = "runtime.NumGoroutine" := by simpa using h2
        have h3' : ¬ fn.body = none := fun e => by rw [e] at h3; cases h3
        simp [execOp, ho, resolve, hx, Deferred.ofValue, invoke, callFunc, h1, h2', h3']
      unfold Oper.wp
      rw [hrun]
      have e : ((args.map a.eval).toList ++ us.toList).toArray = args.map a.eval ++ us := by simp
      rw [e] at hcall
      refine Calls.mono hcall fun e w' he => ?_
      obtain ⟨g', vs, rfl, hle, htm, hm', hF'⟩ := back_rel hR.mem hmi hfull hlen hown he hy
      exact hK _ _ _ _ hle (hext.put _ _) (hR.value hle htm hm' o.dst (retA_rel hF')) h
    · cases h
  · cases h
theorem backAt_off {st : St} {m : Mini} {res : Res} {y : St × List A1} (hB : m.B = []) (h : st.backAt m res = some y) : (∀ {b : Nat} {x : TypeId × List AL}, st.boxes[b]? = some x → y.1.boxes[b]? = some x) ∧ ∀ {q : Nat} {x : Row}, m.R.contains q = false → dies m.R q x.md = false → st.rows[q]? = some x → y.1.rows[q]? = some x := by
  unfold St.backAt at h
  split at h
  · injection h with h
    subst h
    refine ⟨fun {b x} hb => ?_, fun {q x} hq hd hx => ?_⟩
    · show (setBoxes m.B _ 0 st.boxes)[b]? = some x
      rw [hB, setBoxes_nil]
      exact hb
    · have hlt : q < (setRows m.R (res.rows.take m.R.length) 0 (killed m.R 0 st.rows)).length := by
        rw [setRows_get.1, killed_length]
        exact (List.getElem?_eq_some_iff.1 hx).1
      show (setRows m.R (res.rows.take m.R.length) 0 (killed m.R 0 st.rows) ++ res.rows.drop m.R.length)[q]? = some x
      rw [List.getElem?_append_left hlt, List.getElem?_eq_getElem hlt]
      obtain ⟨row0, h0, h1⟩ := setRows_get.2 (List.getElem?_eq_getElem hlt)
      rw [Nat.zero_add] at h1
      have hk := killed_at m.R 0 st.rows hx
      rw [Nat.zero_add, hd] at hk
      simp only [Bool.false_eq_true, if_false] at hk
      rw [hk] at h0
      injection h0 with h0
      subst h0
      rcases h1 with ⟨j, hj, _⟩ | ⟨_, he⟩
      · rw [← Bool.not_eq_true, List.contains_iff_mem] at hq
        exact absurd (List.mem_of_getElem? (idx_get hj)) hq
      · rw [he]
  · cases h
theorem callF_off {E : Ent} {f : FuncId} (hE : Good P f E.F) {x : Operand} {args : Array Operand} {ats : Array TypeId} {us : Array Value} (ho : o.op = .call { callee := .value x, args := args, argTypes := ats }) (hx : a.eval x = .func (.func f) #[] us)
    {avs : List AV} (hF : F2 (AV.R g) avs ((args.map a.eval).toList ++ us.toList)) {m : Mini} (hmi : st.mini E.muts avs = some m) (hB : m.B = []) (h : callF o st E avs k = some r) (hR : Rel st g a w)
    (hK : ∀ st' g' a' w', g.le g' → (∀ {b : Nat} {x : TypeId × List AL}, st.boxes[b]? = some x → st'.boxes[b]? = some x) → (∀ {q : Nat} {x : Row}, m.R.contains q = false → dies m.R q x.md = false → st.rows[q]? = some x → st'.rows[q]? = some x) → Rel st' g' a' w' → k st' = some r → K a' w') : o.wp P a w K Q := by
  unfold callF at h
  rw [hmi] at h
  simp only at h
  split at h
  · rename_i out hout
    obtain ⟨t, ht, h⟩ := Option.bind_eq_some_iff.1 h
    split at h
    · rename_i y hy
      obtain ⟨hbx, hrw⟩ := backAt_off hB hy
      obtain ⟨st', rets⟩ := y
      obtain ⟨hs, hm1, hfull, hF1, hown, hlen⟩ := mini_mem hR.mem hmi hF
      have hcall := hE.ok m.args m.boxes m.rows out t hout ht (g.over w m hs) w _ rfl hm1 hfull hF1
      obtain ⟨fn, h1, h2, h3⟩ := hE.fn
      have hrun : (execOp a.eval o).run P w = .ok (.enter f (args.map a.eval ++ us)) w := by
        have h2' : ¬ fn.name = "runtime.NumGoroutine" := by simpa using h2
        have h3' : ¬ fn.body = none := fun e => by rw [e] at h3; cases h3
        simp [execOp, ho, resolve, hx, Deferred.ofValue, invoke, callFunc, h1, h2', h3']
      unfold Oper.wp
      rw [hrun]
      have e : ((args.map a.eval).toList ++ us.toList).toArray = args.map a.eval ++ us := by simp
      rw [e] at hcall
      refine Calls.mono hcall fun e w' he => ?_
      obtain ⟨g', vs, rfl, hle, htm, hm', hF'⟩ := back_rel hR.mem hmi hfull hlen hown he hy
      exact hK _ _ _ _ hle (fun h => by rw [(put_mem o.dst _).1]; exact hbx h) (fun h1 h2 h3 => by rw [(put_mem o.dst _).2]; exact hrw h1 h2 h3) (hR.value hle htm hm' o.dst (retA_rel hF')) h
    · cases h
  · cases h
theorem litRow_rows {st : St} {e : TypeId} {s : Sh} {n : Nat} {cs : List AL} {y : AL × St} (h : litRow st e s n cs = some y) : y.2.boxes = st.boxes ∧ ∃ ids row, y.2.rows = killed ids 0 st.rows ++ [row] := by
  unfold litRow at h
  split at h
  · split at h
    · simp only [Option.some.injEq] at h
      subst h
      exact ⟨rfl, _, _, rfl⟩
    · cases h
  · cases h
theorem litA_rows {st : St} {t : TypeId} {n : Nat} {parts : List (Nat × Operand)} {y : AL × St} (h : litA P st t n parts = some y) : y.2.boxes = st.boxes ∧ ∃ ids row, y.2.rows = killed ids 0 st.rows ++ [row] := by
  unfold litA at h
  split at h
  · split at h
    · split at h
      · split at h
        · split at h
          · split at h
            · rename_i y' hy'
              exact litRow_rows (hy'.trans h)
            · exact litRow_rows h
          · cases h
        · cases h
      · cases h
    · cases h
  · cases h
theorem litD_rows {st : St} {t : TypeId} {n : Nat} {parts : List (Nat × Operand)} {y : AL × St} (h : litD P st t n parts = some y) : y.2.boxes = st.boxes ∧ ∃ ids row, y.2.rows = killed ids 0 st.rows ++ [row] := by
  unfold litD at h
  split at h
  · rename_i y' hy'
    injection h with h
    subst h
    exact litA_rows hy'
  · split at h
    · rename_i r hr
      split at h
      · rename_i x hx
        obtain ⟨st1, H⟩ := x
        split at h
        · rename_i y' hy'
          split at h
          · rename_i hdead
            injection h with h
            subst h
            obtain ⟨hb, ids, row, hrows⟩ := litA_rows hy'
            unfold St.detach at hx
            split at hx
            · rename_i rrow hrrow
              split at hx
              · rename_i q sz i off hmd
                split at hx
                · rename_i prow hprow
                  split at hx
                  · split at hx
                    · rename_i hc
                      injection hx with hx
                      injection hx with hx1 hx2
                      subst hx1
                      refine ⟨hb, q :: ids, row, ?_⟩
                      rw [hrows]
                      congr 1
                      show killed ids 0 ((killed [q] 0 st.rows).set r { rrow with md := .own }) = _
                      have hlt : r < st.rows.length := (List.getElem?_eq_some_iff.1 hrrow).1
                      have hset : ((killed [q] 0 st.rows).set r { rrow with md := .own })[r]? = some { rrow with md := .own } := List.getElem?_set_self (by rw [killed_length]; exact hlt)
                      have hat := killed_at ids 0 _ hset
                      have hdd : dies ids (0 + r) Md.own = true := by
                        cases hd : dies ids (0 + r) Md.own with
                        | true => rfl
                        | false =>
                          rw [if_neg (by rw [hd]; simp)] at hat
                          unfold isDead at hdead
                          have hrows' : y'.2.rows = killed ids 0 ((killed [q] 0 st.rows).set r { rrow with md := .own }) ++ [row] := hrows
                          rw [hrows', List.getElem?_append_left (by rw [killed_length, List.length_set, killed_length]; exact hlt), hat] at hdead
                          cases hdead
                      rw [if_pos hdd] at hat
                      rw [show q :: ids = [q] ++ ids from rfl, ← killed_killed]
                      apply List.ext_getElem?
                      intro j
                      by_cases hj : r = j
                      · subst hj
                        rw [hat]
                        have h1 := killed_at [q] 0 _ hrrow
                        have h2 : dies [q] (0 + r) rrow.md = true := by
                          rw [hmd]
                          unfold dies
                          simp [Md.isRo, Md.root]
                        rw [if_pos h2] at h1
                        rw [killed_at ids 0 _ h1]
                        split <;> rfl
                      · cases hjr : (killed [q] 0 st.rows)[j]? with
                        | none =>
                          have hn := List.getElem?_eq_none_iff.1 hjr
                          rw [List.getElem?_eq_none (by rw [killed_length, List.length_set]; exact hn), List.getElem?_eq_none (by rw [killed_length]; exact hn)]
                        | some jrow =>
                          have h3 : ((killed [q] 0 st.rows).set r { rrow with md := .own })[j]? = some jrow := by
                            rw [List.getElem?_set_ne hj]
                            exact hjr
                          rw [killed_at ids 0 _ h3, killed_at ids 0 _ hjr]
                    · cases hx
                  · cases hx
                · cases hx
              · cases hx
            · cases hx
          · cases h
        · cases h
      · cases h
    · cases h
theorem addOp_sound (hG : ∀ f E, G f = some E → Good P f E.F) (h : addOp P G o st k = some r) (hR : Rel st g a w)
    (hK : ∀ st' g' a' w', g.le g' → Ext st st' → Rel st' g' a' w' → k st' = some r → K a' w') : o.wp P a w K Q := by
  have ev := fun x => eval_rel hR.tmps x
  unfold addOp at h
  split at h
  · rename_i e ho
    split at h
    · cases h
    · rename_i z hz
      obtain ⟨i, hi, hiz⟩ := Option.bind_eq_some_iff.1 hz
      obtain ⟨g', hle, hR'⟩ := boxA_rel hR o.dst e (cs := z.cells.toList.map .val) (vs := z.cells) (F2.of_map (R := AL.R g) (f := AL.val) (fun y => rfl) z.cells.toList)
      refine wp_val (w' := w.alloc (.cells z.cells e)) (v := .pointer (some ⟨w.heap.size, 0, none⟩)) ?_ (hK _ _ _ _ hle (boxA_ext _ _ _) hR' h)
      simp [execOp, ho, Instr.alloc, zeroValue, typeInfo, hi, hiz, newVar, newRow]
  · rename_i e x ho
    split at h
    · rename_i v hv
      split at h
      · rename_i hf
        have hx : v.R g (a.eval x) := by have := ev x; rw [hv] at this; exact this
        obtain ⟨g', hle, hR'⟩ := boxA_rel hR o.dst e (cells_rel hx fun y e => by
          subst e
          exact all_one hR.mem (xs := [y]) (vs := [a.eval x]) ⟨hx, trivial⟩ hf _ List.mem_cons_self)
        refine wp_val (w' := w.alloc (.cells (a.eval x).cells e)) (v := .pointer (some ⟨w.heap.size, 0, none⟩)) ?_ (hK _ _ _ _ hle (boxA_ext _ _ _) hR' h)
        simp [execOp, ho, Instr.box, newVar, newRow]
      · cases h
    · cases h
  · rename_i t n parts ho
    split at h
    · rename_i y hy
      split at h
      · rename_i hsm
        obtain ⟨y1, st'⟩ := y
        obtain ⟨g', w', v, hle, hm, ht, hy1, hrun⟩ := litA_run hR hy
        have hext : Ext st st' := by
          obtain ⟨hbx, ids, row, hrows⟩ := litA_rows hy
          have e : st'.rows = killed ids 0 st.rows ++ [row] := hrows
          have hsm' : mdSame st.rows st'.rows = true := hsm
          rw [e] at hsm'
          have := killed_same hsm'
          exact ⟨⟨[], by rw [show st'.boxes = st.boxes from hbx]; simp⟩, [row], by rw [e, this]⟩
        refine wp_val (v := v) (w' := w') ?_ (hK _ _ _ _ hle (hext.put _ _) (hR.value hle ht hm o.dst (x := .s1 (.one y1)) hy1) h)
        simp [execOp, ho, hrun]
      · cases h
    · cases h
  · rename_i t l c ho
    split at h
    · rename_i kl ln kc cn hl hc
      exact makeX_add ho (val_get (ev l) hl) (val_get (ev c) hc) h hR fun st' g' a' w' hle hbx hrows hR' h' => hK st' g' a' w' hle (by obtain ⟨row, hrows⟩ := hrows; exact ⟨⟨[], by rw [hbx]; simp⟩, [row], hrows⟩) hR' h'
    · cases h
  · rename_i c ho
    split at h
    · rename_i x hc
      split at h
      · rename_i fc hfc
        split at h
        · rename_i E avs st1 hE hfix
          split at h
          · have hargs : F2 (AV.R g) (c.args.toList.map st.eval) (c.args.map a.eval).toList := by
              rw [Array.toList_map]
              generalize c.args.toList = l
              induction l with
              | nil => trivial
              | cons y l ih => exact ⟨ev y, ih⟩
            obtain ⟨g1, hle1, ht1, hm1, hF1⟩ := fixVs_rel (P := P) (ts := c.argTypes.toList) hR.mem hargs
            have hext1 := fixVs_ext (P := P) c.argTypes.toList (c.args.toList.map st.eval) st
            rw [hfix] at ht1 hm1 hF1 hext1
            obtain ⟨us, hus, hF2⟩ := calleeA_rel (ev x) hfc
            have hF3 := hF1.append (hF2.imp fun _ _ => AV.R_le hle1)
            have hR1 : Rel st1 g1 a w := ⟨by rw [ht1]; exact hR.tmps.imp fun _ _ => AV.R_le hle1, hR.defers, hm1⟩
            unfold callE at h
            split at h
            · rename_i m hmi
              split at h
              · rename_i hBR
                exact callF_add (hG _ _ hE) (args := c.args) (ats := c.argTypes) (by rw [ho]; cases c; simp_all) hus hF3 hmi hBR.1 hBR.2 h hR1 fun st' g' a' w' hle he => hK st' g' a' w' (hle1.trans hle) (hext1.trans he)
              · cases h
            · cases h
          · cases h
        · cases h
      · cases h
    · cases h
  · cases h
end

def isPure (P : Program) : Op → Bool
  | .move _ => true
  | .assign _ => true
  | .pick _ _ _ => true
  | .binOp _ _ _ _ _ => true
  | .unOp _ _ _ => true
  | .convert _ dst _ =>
    match P.underlying dst with
    | some (.int _) => true
    | _ => false
  | .nilCheck _ => true
  | .fieldAddr _ _ _ => true
  | .indexAddr _ _ _ => true
  | .extract _ _ => true
  | .build _ _ => true
  | .slice _ _ _ _ none => true
  | .call c =>
    match c.callee with
    | .builtin .len => true
    | .builtin .min => true
    | .builtin .max => true
    | .value (.func f) => natIs P f
    | _ => false
  | _ => false
def isAdd : Op → Bool
  | .alloc _ => true
  | .box _ _ => true
  | .buildSlice _ _ _ => true
  | .makeSlice _ _ _ => true
  | .call c =>
    match c.callee with
    | .value _ => true
    | _ => false
  | _ => false
def isLoad : Op → Bool
  | .load _ _ => true
  | _ => false
def stores (P : Program) (ops : Array Oper) : List Nat := (List.range ops.size).filter fun i =>
  match ops[i]? with
  | some o => !isPure P o.op && !isAdd o.op && !isLoad o.op
  | none => false
def waits (ops : Array Oper) (s i : Nat) : Bool :=
  match ops[s]? with
  | some o => o.after.any fun e => Region.binds .any e && e.on == i
  | none => true
def isStoreOp : Op → Bool
  | .store _ _ _ => true
  | _ => false
def isAppOp : Op → Bool
  | .call c =>
    match c.callee with
    | .builtin .append => true
    | _ => false
  | _ => false
def loadOk (P : Program) (ops : Array Oper) (listed : Array Bool) (st : St) (i : Nat) (o : Oper) : Bool :=
  ((stores P ops).all fun s => !waits ops s i || !listed.getD s true) &&
  match o.op with
  | .load t x =>
    match st.eval x with
    | .s1 (.one (.val _)) => true
    | .s1 (.one p) => (match loadS P st t p with | some y => detS P st t p y.1 | none => false) && ((depOf st p).isNone || (stores P ops).all fun s => listed.getD s true || waits ops s i || match ops[s]? with
      | some o' => isStoreOp o'.op || isAppOp o'.op
      | none => false)
    | _ => false
  | _ => false
def mayTake (P : Program) (ops : Array Oper) (listed : Array Bool) (st : St) (i : Nat) : Bool := Region.free .any ops listed i &&
  match ops[i]? with
  | some o => isPure P o.op || loadOk P ops listed st i o
  | none => false
def waiters (P : Program) (ops : Array Oper) (i : Nat) : List Nat := (stores P ops).filter fun s => waits ops s i
noncomputable def joinAll {ρ : Type} : List (Option ρ) → Option ρ
  | [] => none
  | [x] => x
  | x :: xs => same x (joinAll xs)
theorem joinAll_all {ρ : Type} {r : ρ} : ∀ {xs : List (Option ρ)}, joinAll xs = some r → ∀ x ∈ xs, x = some r
  | [], h => by cases h
  | [x], h => fun y hy => by rw [List.mem_singleton.1 hy]; exact h
  | x :: y :: xs, h => fun z hz => by
    obtain ⟨h1, h2⟩ := same_some (y := joinAll (y :: xs)) h
    rcases List.mem_cons.1 hz with rfl | hz
    · exact h1
    · exact joinAll_all h2 z hz
section
variable (P : Program) {ρ : Type} (G : Env)
def gdA (ops : Array Oper) (o : Oper) (st : St) (k1 k0 : St → Option ρ) : Option ρ :=
  match o.guard with
  | none => k1 st
  | some (j, want) =>
    match yieldA ops st j with
    | none => none
    | some none => k0 st
    | some (some b) => cond b (if want = true then k1 (st.know ops j true) else k0 (st.know ops j true)) (if want = true then k0 (st.know ops j false) else k1 (st.know ops j false))
def loadC (o : Oper) (st : St) (k : St → Option ρ) : Option ρ :=
  match o.op with
  | .load t x =>
    match st.eval x with
    | .s1 (.one p) =>
      match loadS P st t p with
      | none => none
      | some y => if detS P st t p y.1 = true then k (y.2.put o.dst (.s1 y.1)) else none
    | _ => none
  | _ => none
def loadN (o : Oper) (st : St) (k : St → Option ρ) : Option ρ :=
  match o.op with
  | .load t x =>
    match st.eval x with
    | .s1 (.one p) =>
      match loadS P st t p with
      | none => none
      | some y => k (y.2.put o.dst (.s1 y.1))
    | _ => none
  | _ => none
def boxOf (st : St) : Op → Option Nat
  | .store _ x _ =>
    match st.eval x with
    | .s1 (.one (.ptr b _)) => some b
    | _ => none
  | _ => none
def depAt (st : St) (o : Oper) : Dep :=
  match o.op with
  | .load _ x =>
    match st.eval x with
    | .s1 (.one p) => depOf st p
    | _ => .row 0
  | _ => .row 0
def storeC (o : Oper) (st : St) (k : St → Option ρ) : Option ρ :=
  match o.op with
  | .store t x y =>
    match st.eval x, st.eval y with
    | .s1 (.one (.ptr b off)), .s1 v =>
      match storeS P st t (.ptr b off) v with
      | some st' => k (st'.put o.dst (.s1 (.one (.val undef))))
      | none => none
    | _, _ => none
  | _ => none
def Dep.lives (rs rs' : List Row) : Dep → Bool
  | .none => true
  | .box _ => true
  | .row q =>
    match rs[q]?, rs'[q]? with
    | some r, some r' => !r'.md.isDead || r.md.isDead
    | some _, Option.none => false
    | Option.none, _ => true
def Dep.stays (rs rs' : List Row) : Dep → Bool
  | .none => true
  | .box _ => true
  | .row q =>
    match rs[q]?, rs'[q]? with
    | some r, some r' => r'.md.isRo == r.md.isRo
    | some _, Option.none => false
    | Option.none, _ => true
def Dep.off (R : List Nat) (rs : List Row) : Dep → Bool
  | .none => true
  | .box _ => true
  | .row q => !R.contains q && (match rs[q]? with
    | some r => !dies R q r.md
    | Option.none => true)
def callT (tk : List (Nat × Dep)) (o : Oper) (st : St) (c : Call) (k : St → Option ρ) : Option (Option ρ) :=
  match c.callee with
  | .value x =>
    match calleeA st x with
    | some fc =>
      match G fc.1, fixVs P c.argTypes.toList (c.args.toList.map st.eval) st with
      | some E, (avs, st1) =>
        match E.sh with
        | true => some (if (tk.all fun e => e.2.stays st1.rows (st1.freeze (st1.ownIds ((avs ++ fc.2).flatMap AV.all))).rows) = true then callS o st1 E (avs ++ fc.2) k else none)
        | false =>
          match E.hd with
          | true => none
          | false =>
            match st1.mini E.muts (avs ++ fc.2) with
            | some m =>
              match m.B, m.R with
              | [], r :: rs => some (if (tk.all fun e => e.2.off (r :: rs) st1.rows) = true then callF o st1 E (avs ++ fc.2) k else none)
              | _, _ => none
            | none => none
      | none, _ => none
    | none => none
  | _ => none
def addT (tk : List (Nat × Dep)) (o : Oper) (st : St) (k : St → Option ρ) : Option ρ :=
  match o.op with
  | .buildSlice t n parts =>
    match litD P st t n parts.toList with
    | some y => if (tk.all fun e => e.2.lives st.rows y.2.rows) = true then k (y.2.put o.dst (.s1 (.one y.1))) else none
    | none => none
  | .call c =>
    match callT P G tk o st c k with
    | some x => x
    | none => addOp P G o st k
  | _ => addOp P G o st k
def appC (f : Nat → Bool) (tk : List (Nat × Dep)) (o : Oper) (st : St) (k : St → Option ρ) : Option ρ :=
  match o.op with
  | .call c =>
    match c.callee with
    | .builtin .append =>
      match c.args.toList, c.argTypes.toList with
      | [x, y], [t, t'] =>
        if t = t' then
          match st.eval x, st.eval y with
          | .s1 (.one x), .s1 (.one y) =>
            match appendZ P st t x y with
            | some z => if (tk.all fun e => e.2.lives st.rows z.2.2.rows || f e.1) = true then cond (decide (z.1 ≤ 140737488355328)) (k (z.2.2.put o.dst (.s1 (.one z.2.1)))) none else none
            | none =>
              match appendM P st t x y with
              | some z => if (tk.all fun e => e.2.isNone || f e.1) = true then cond (decide (z.1 ≤ 140737488355328)) (k (z.2.2.put o.dst (.s1 (.one z.2.1)))) none else none
              | none => none
          | _, _ => none
        else none
      | _, _ => none
    | _ => none
  | _ => none
noncomputable def anyA (ops : Array Oper) : Nat → Array Bool → List (Nat × Dep) → St → (St → Option ρ) → Option ρ
  | 0, listed, tk, st, k =>
    match Region.ready .any ops listed with
    | [] => k st
    | _ => none
  | n + 1, listed, tk, st, k =>
    match Region.ready .any ops listed with
    | [] => k st
    | i :: is =>
      match (i :: is).find? (mayTake P ops listed st) with
      | some i =>
        match ops[i]? with
        | none => none
        | some o => gdA ops o st
            (fun st => if isPure P o.op = true then pureC P o st fun x => anyA ops n (listed.setIfInBounds i true) tk (st.put o.dst x) k else if loadOk P ops listed st i o = true then loadC P o st fun st' => anyA ops n (listed.setIfInBounds i true) ((i, depAt st o) :: tk) st' k else none)
            (fun st => anyA ops n (listed.setIfInBounds i true) tk (st.put o.dst (.s1 (.one (.val undef)))) k)
      | none => joinAll ((i :: is).map fun i =>
        match ops[i]? with
        | none => none
        | some o => gdA ops o st
            (fun st => if (stores P ops).contains i = true then
                match boxOf st o.op with
                | some b => if (tk.all fun e => e.2.notBox b || waits ops i e.1) = true then storeC P o st fun st' => anyA ops n (listed.setIfInBounds i true) (tk.filter fun e => !waits ops i e.1) st' k else none
                | none => if isAppOp o.op = true then appC P (fun e => waits ops i e) tk o st fun st' => anyA ops n (listed.setIfInBounds i true) (tk.filter fun e => !waits ops i e.1) st' k else if (tk.all fun e => e.2.isNone || waits ops i e.1) = true then stepX P G o st fun st' => anyA ops n (listed.setIfInBounds i true) (tk.filter fun e => !waits ops i e.1) st' k else none
              else if isAdd o.op = true then addT P G tk o st fun st' => anyA ops n (listed.setIfInBounds i true) tk st' k else if isPure P o.op = true then pureC P o st fun x => anyA ops n (listed.setIfInBounds i true) tk (st.put o.dst x) k else loadN P o st fun st' => anyA ops n (listed.setIfInBounds i true) tk st' k)
            (fun st => anyA ops n (listed.setIfInBounds i true) tk (st.put o.dst (.s1 (.one (.val undef)))) k))
end
section
variable {P : Program} {ρ : Type} {G : Env} {N : Nat × Nat} {k : St → Option ρ} {r : ρ} {ops : Array Oper} {Q : Exit → Act → World → Prop}
theorem know_ext {st : St} (ops : Array Oper) (j : Nat) (b : Bool) : (st.know ops j b).boxes = st.boxes ∧ (st.know ops j b).rows = st.rows := by
  unfold St.know
  split
  · exact ⟨rfl, rfl⟩
  · exact put_mem _ _
theorem Ext.of_eq {st st1 : St} (h : st1.boxes = st.boxes ∧ st1.rows = st.rows) : Ext st st1 := ⟨⟨[], by simp [h.1]⟩, [], by simp [h.2]⟩
theorem gdA_cases {o : Oper} {st : St} {g : Gh} {a : Act} {w : World} {k1 k0 : St → Option ρ} (h : gdA ops o st k1 k0 = some r) (hR : Rel st g a w) :
    ∃ st1, (st1.boxes = st.boxes ∧ st1.rows = st.rows) ∧ Rel st1 g a w ∧ ((Region.wanted o (yielded ops a.tmps) = true ∧ k1 st1 = some r) ∨ (Region.wanted o (yielded ops a.tmps) = false ∧ k0 st1 = some r)) := by
  unfold gdA at h
  cases hgd : o.guard with
  | none =>
    rw [hgd] at h
    exact ⟨st, ⟨rfl, rfl⟩, hR, .inl ⟨by simp [Region.wanted, hgd], h⟩⟩
  | some jw =>
    obtain ⟨j, want⟩ := jw
    rw [hgd] at h
    simp only at h
    have hwant : Region.wanted o (yielded ops a.tmps) = (yielded ops a.tmps j == some want) := by simp [Region.wanted, hgd]
    split at h
    · cases h
    · rename_i hy
      have := yield_rel hR hy
      exact ⟨st, ⟨rfl, rfl⟩, hR, .inr ⟨by rw [hwant, this]; rfl, h⟩⟩
    · rename_i b hy
      have hyy := yield_rel hR hy
      have hR1 := know_rel hR hy
      rcases cond_some h with ⟨rfl, h⟩ | ⟨rfl, h⟩
      · split at h
        · rename_i hw
          exact ⟨_, know_ext _ _ _, hR1, .inl ⟨by rw [hwant, hyy, hw]; rfl, h⟩⟩
        · rename_i hw
          exact ⟨_, know_ext _ _ _, hR1, .inr ⟨by rw [hwant, hyy]; simpa using hw, h⟩⟩
      · split at h
        · rename_i hw
          exact ⟨_, know_ext _ _ _, hR1, .inr ⟨by rw [hwant, hyy, hw]; rfl, h⟩⟩
        · rename_i hw
          have : want = false := by simpa using hw
          exact ⟨_, know_ext _ _ _, hR1, .inl ⟨by rw [hwant, hyy, this]; rfl, h⟩⟩
theorem not_stores {i : Nat} {o : Oper} (hi : ops[i]? = some o) (h : isPure P o.op = true ∨ isAdd o.op = true ∨ isLoad o.op = true) : i ∉ stores P ops := by
  intro hm
  unfold stores at hm
  rw [List.mem_filter, hi] at hm
  have := hm.2
  rcases h with h | h | h <;> simp [h] at this
theorem waiters_spec {i : Nat} : ∀ s ∈ waiters P ops i, s ∈ stores P ops ∧ ∀ o, ops[s]? = some o → ∃ e ∈ o.after, Region.binds .any e = true ∧ e.on = i := by
  intro s hs
  unfold waiters at hs
  obtain ⟨h1, h2⟩ := List.mem_filter.1 hs
  refine ⟨h1, fun o ho => ?_⟩
  unfold waits at h2
  rw [ho] at h2
  obtain ⟨e, he, hb⟩ := Array.any_eq_true'.1 h2
  simp only [Bool.and_eq_true, beq_iff_eq] at hb
  exact ⟨e, he, hb.1, hb.2⟩
theorem loadS_ext {st st' : St} {t : TypeId} {x : AL} {y : A1} (h : loadS P st t x = some (y, st')) : Ext st st' := by
  unfold loadS at h
  split at h
  · cases h
  · split at h
    · split at h
      · cases h
      · split at h
        · simp only [Option.some.injEq, Prod.mk.injEq] at h
          obtain ⟨_, rfl⟩ := h
          exact .refl _
        · cases h
    · split at h
      · cases h
      · split at h
        · split at h
          · cases h
          · split at h
            · cases h
            · rename_i hys
              simp only [Option.some.injEq, Prod.mk.injEq] at h
              obtain ⟨_, rfl⟩ := h
              exact lvs_ext _ _ _ _ _ hys
        · cases h
    · cases h
theorem loadN_run {o : Oper} {st : St} {g : Gh} {a : Act} {w : World} {k : St → Option ρ} (h : loadN P o st k = some r) (hR : Rel st g a w) :
    ∃ (u : Value) (st' : St) (g' : Gh), k st' = some r ∧ g.le g' ∧ Ext st st' ∧ Rel st' g' (a.put o.dst u) w ∧ (execOp a.eval o).run P w = .ok (.value u) w := by
  have ev := fun x => eval_rel hR.tmps x
  unfold loadN at h
  split at h
  · rename_i t x ho
    split at h
    · rename_i p hp
      split at h
      · cases h
      · rename_i y hl
        obtain ⟨y1, st'⟩ := y
        obtain ⟨g', u, hle, hm, ht, hy, hrun⟩ := loadS_sound hR.mem (one_get (ev x) hp) hl
        exact ⟨u, _, g', h, hle, (loadS_ext hl).put _ _, hR.value hle ht hm o.dst (x := .s1 y1) hy, by simp [execOp, ho, hrun]⟩
    · cases h
  · cases h
theorem loadC_run {o : Oper} {st : St} {g : Gh} {a : Act} {w : World} {k : St → Option ρ} (h : loadC P o st k = some r) (hR : Rel st g a w) :
    ∃ (u : Value) (D : World → Prop) (st' : St) (g' : Gh), k st' = some r ∧ g.le g' ∧ Ext st st' ∧ Rel st' g' (a.put o.dst u) w ∧ (∀ w1, D w1 → (execOp a.eval o).run P w1 = .ok (.value u) w1) ∧
      (∀ st2 g2 w2, Agree (depAt st o) st st2 → g.le g2 → Mem st2.boxes st2.rows g2 w2 → D w2) ∧ (depAt st o = .none → ∀ g2 w2, g.fzle g2 → Stab g2 w2 → D w2) := by
  have ev := fun x => eval_rel hR.tmps x
  unfold loadC at h
  split at h
  · rename_i t x ho
    split at h
    · rename_i p hp
      split at h
      · cases h
      · rename_i y hl
        split at h
        · rename_i hdet
          obtain ⟨y1, st'⟩ := y
          obtain ⟨u, D, ⟨g', hle, hm, ht, hy⟩, hext, hrun, hcl, hcl2⟩ := loadS_till hR.mem (one_get (ev x) hp) hl hdet
          have e : depAt st o = depOf st p := by unfold depAt; rw [ho]; simp only [hp]
          exact ⟨u, D, _, g', h, hle, hext.put _ _, hR.value hle ht hm o.dst (x := .s1 y1) hy, fun w1 hw1 => by simp [execOp, ho, hrun w1 hw1], by rw [e]; exact hcl, by rw [e]; exact hcl2⟩
        · cases h
    · cases h
  · cases h
theorem storeS_same {st st' : St} {t : TypeId} {b off : Nat} {v : A1} (h : storeS P st t (.ptr b off) v = some st') : st'.rows = st.rows ∧ ∀ c, c ≠ b → st'.boxes[c]? = st.boxes[c]? := by
  unfold storeS at h
  split at h
  · cases h
  · simp only at h
    split at h
    · cases h
    · split at h
      · injection h with h
        subst h
        exact ⟨rfl, fun c hc => List.getElem?_set_ne (Ne.symm hc)⟩
      · cases h
theorem storeC_run {o : Oper} {st : St} {g : Gh} {a : Act} {w : World} {k : St → Option ρ} {b : Nat} (hb : boxOf st o.op = some b) (h : storeC P o st k = some r) (hR : Rel st g a w) :
    ∃ (st' : St) (w' : World), k st' = some r ∧ Rel st' g (a.put o.dst undef) w' ∧ (execOp a.eval o).run P w = .ok .skip w' ∧ st'.rows = st.rows ∧ ∀ c, c ≠ b → st'.boxes[c]? = st.boxes[c]? := by
  have ev := fun x => eval_rel hR.tmps x
  unfold storeC at h
  split at h
  · rename_i t x y ho
    split at h
    · rename_i b' off v hx hy
      split at h
      · rename_i st' hst
        obtain ⟨w', hm, ht, hrun⟩ := storeS_sound hR.mem (one_get (ev x) hx) (by have := ev y; rw [hy] at this; exact this) hst
        unfold boxOf at hb
        rw [ho] at hb
        simp only [hx] at hb
        injection hb with hb
        subst hb
        refine ⟨_, w', h, hR.value (.refl g) ht hm o.dst (x := .s1 (.one (.val undef))) rfl, by simp [execOp, ho, hrun], ?_, fun c hc => ?_⟩
        · rw [(put_mem o.dst _).2]
          exact (storeS_same hst).1
        · rw [(put_mem o.dst _).1]
          exact (storeS_same hst).2 c hc
      · cases h
    · cases h
  · cases h
structure Tk where
  i : Nat
  dep : Dep
  D : World → Prop
def Tk.ok (t : Tk) (st : St) (g : Gh) : Prop := (∀ st2 g2 w2, Agree t.dep st st2 → g.le g2 → Mem st2.boxes st2.rows g2 w2 → t.D w2) ∧ (t.dep = .none → ∀ g2 w2, g.fzle g2 → Stab g2 w2 → t.D w2)
theorem Tk.ok_ext {t : Tk} {st st' : St} {g g' : Gh} (h : t.ok st g) (hle : g.le g') (hext : Ext st st') : t.ok st' g' :=
  ⟨fun st2 g2 w2 ha hg hm => h.1 st2 g2 w2 ((Agree.of_ext hext).trans ha) (hle.trans hg) hm, fun h0 g2 w2 hg hs => h.2 h0 g2 w2 (fun x => hg (hle.fz x)) hs⟩
theorem Tk.ok_dep {t : Tk} {st st' : St} {g g' : Gh} (h : t.ok st g) (hle : g.le g') (ha : Agree t.dep st st') : t.ok st' g' :=
  ⟨fun st2 g2 w2 hb hg hm => h.1 st2 g2 w2 (ha.trans hb) (hle.trans hg) hm, fun h0 g2 w2 hg hs => h.2 h0 g2 w2 (fun x => hg (hle.fz x)) hs⟩
theorem Tk.ok_none {t : Tk} {st st' : St} {g g' : Gh} (h : t.ok st g) (h0 : t.dep = .none) (hx : g.ext N g') : t.ok st' g' :=
  ⟨fun st2 g2 w2 _ hg hm => h.2 h0 g2 w2 (fun x => hg.fz (hx.fz x)) hm.st, fun _ g2 w2 hg hs => h.2 h0 g2 w2 (fun x => hg (hx.fz x)) hs⟩
def Tk.key (t : Tk) : Nat × Dep := (t.i, t.dep)
def TT (P : Program) (ops : Array Oper) (ts : List Tk) (L : Array Bool) (w : World) : Prop := ∀ t ∈ ts, (∀ s ∈ waiters P ops t.i, L.getD s true = false) → t.D w
theorem TT.at_ {ts : List Tk} {i : Nat} (hi : i ∉ stores P ops) (L : Array Bool) (w : World) : TT P ops ts (L.setIfInBounds i true) w ↔ TT P ops ts L w := by
  unfold TT
  constructor
  · intro h t ht hs
    refine h t ht fun s hm => ?_
    rw [getD_set_ne true (show i ≠ s from fun e => hi (e ▸ (waiters_spec s hm).1))]
    exact hs s hm
  · intro h t ht hs
    refine h t ht fun s hm => ?_
    have := hs s hm
    rwa [getD_set_ne true (show i ≠ s from fun e => hi (e ▸ (waiters_spec s hm).1))] at this
theorem TT.of_ok {ts : List Tk} {st : St} {g : Gh} (h : ∀ t ∈ ts, t.ok st g) {w : World} (hm : Mem st.boxes st.rows g w) (L : Array Bool) : TT P ops ts L w := fun t ht _ => (h t ht).1 st g w (by cases t.dep <;> first | trivial | exact fun x hx => hx) (.refl g) hm
theorem lives_row {rs : List Row} {ids : List Nat} {row x : Row} {q : Nat} (h : Dep.lives rs (killed ids 0 rs ++ [row]) (.row q) = true) (hx : rs[q]? = some x) : (killed ids 0 rs ++ [row])[q]? = some x := by
  have hk := killed_at ids 0 rs hx
  have hk2 := get_append_some (y := row) hk
  unfold Dep.lives at h
  simp only [hx, hk2] at h
  rw [hk2]
  split at h
  · rename_i hd
    have h1 : x.md.isDead = true := by simpa [Md.isDead] using h
    rw [if_pos hd]
    obtain ⟨e, s, xs, md⟩ := x
    cases md <;> first | rfl | cases h1
  · rename_i hd
    rw [if_neg hd]
theorem appC_sound {o : Oper} {st : St} {g : Gh} {a : Act} {w : World} {K : Act → World → Prop} {Q' : Exit → Act → World → Prop} {f : Nat → Bool} {ts : List Tk} (hT : ∀ t ∈ ts, t.ok st g) (h : appC P f (ts.map Tk.key) o st k = some r) (hR : Rel st g a w)
    (hK : ∀ st' g' a' w', g.le g' → (∀ t ∈ ts, f t.i = false → t.ok st' g') → Rel st' g' a' w' → k st' = some r → K a' w') : o.wp P a w K Q' := by
  have ev := fun x => eval_rel hR.tmps x
  unfold appC at h
  split at h
  · rename_i c ho
    split at h
    · rename_i hc
      split at h
      · rename_i x y t t' hxs hts
        split at h
        · rename_i htt
          subst htt
          split at h
          · rename_i x' y' hx hy
            split at h
            · rename_i z hz
              obtain ⟨b, y1, st'⟩ := z
              split at h
              · rename_i hall
                rcases cond_some h with ⟨hb, h⟩ | ⟨_, h⟩
                · have hts' : c.argTypes = #[t, t] := by rw [← Array.toArray_toList (xs := c.argTypes), hts]
                  obtain ⟨hbx, ids, row, hrows⟩ := appendZ_rows hz
                  obtain ⟨g', w', v', hle, hm, ht, hy1, hrun⟩ := appendZ_run (ty := o.type) hR.mem (one_get (ev x) hx) (one_get (ev y) hy) hz (of_decide_eq_true hb)
                  refine wp_val (v := v') (w' := w') ?_ (hK _ _ _ _ hle (fun t ht hf => ?_) (hR.value hle ‹_› hm o.dst (x := .s1 (.one y1)) hy1) h)
                  · simp [execOp, ho, hc, resolve, invoke, builtin, run_args2 hxs, hts', hrun]
                  · have hl := List.all_eq_true.1 hall t.key (List.mem_map.2 ⟨t, ht, rfl⟩)
                    have hl2 : t.dep.lives st.rows st'.rows = true := by
                      rw [Bool.or_eq_true] at hl
                      rcases hl with hl | hl
                      · exact hl
                      · have : f t.i = true := hl
                        rw [hf] at this; cases this
                    refine ⟨fun st2 g2 w2 ha hg hm2 => (hT t ht).1 st2 g2 w2 ?_ (hle.trans hg) hm2, fun h0 g2 w2 hg hs => (hT t ht).2 h0 g2 w2 (fun x => hg (hle.fz x)) hs⟩
                    cases hd : t.dep with
                    | none => trivial
                    | box c =>
                      rw [hd] at ha
                      exact fun x hx => ha x (by rw [(put_mem o.dst _).1, hbx]; exact hx)
                    | row q =>
                      rw [hd] at ha hl2
                      rw [hrows] at hl2
                      exact fun x hx => ha x (by rw [(put_mem o.dst _).2, hrows]; exact lives_row hl2 hx)
                · cases h
              · cases h
            · split at h
              · rename_i z hz
                obtain ⟨b, y1, st'⟩ := z
                split at h
                · rename_i hall
                  rcases cond_some h with ⟨hb, h⟩ | ⟨_, h⟩
                  · have hts' : c.argTypes = #[t, t] := by rw [← Array.toArray_toList (xs := c.argTypes), hts]
                    obtain ⟨g', w', v', hle, hR', hy1, hrun⟩ := appendM_run (ty := o.type) hR (one_get (ev x) hx) (one_get (ev y) hy) hz (of_decide_eq_true hb)
                    refine wp_val (v := v') (w' := w') ?_ (hK _ _ _ _ hle (fun t ht hf => ?_) (hR'.value (.refl g') rfl hR'.mem o.dst (x := .s1 (.one y1)) hy1) h)
                    · simp [execOp, ho, hc, resolve, invoke, builtin, run_args2 hxs, hts', hrun]
                    · have hl := List.all_eq_true.1 hall t.key (List.mem_map.2 ⟨t, ht, rfl⟩)
                      have h0 : t.dep = .none := by
                        rw [Bool.or_eq_true] at hl
                        rcases hl with hl | hl
                        · have hl' : t.dep.isNone = true := hl
                          cases hd : t.dep with
                          | none => rfl
                          | box c => rw [hd] at hl'; cases hl'
                          | row q => rw [hd] at hl'; cases hl'
                        · have : f t.i = true := hl
                          rw [hf] at this; cases this
                      exact Tk.ok_none (N := (0, 0)) (hT t ht) h0 hle.ext
                  · cases h
                · cases h
              · cases h
          · cases h
        · cases h
      · cases h
    · cases h
  · cases h
theorem stays_row {ids : List Nat} {rs : List Row} {x : Row} {q : Nat} (h : Dep.stays rs (frozen ids 0 rs) (.row q) = true) (hx : rs[q]? = some x) : (frozen ids 0 rs)[q]? = some x := by
  have hlt : q < (frozen ids 0 rs).length := by rw [frozen_get.1]; exact (List.getElem?_eq_some_iff.1 hx).1
  obtain ⟨row0, h0, he⟩ := frozen_get.2 (List.getElem?_eq_getElem hlt)
  rw [Nat.zero_add] at he
  rw [hx] at h0
  injection h0 with h0
  subst h0
  have hk : (frozen ids 0 rs)[q]? = some (x.fzn ids q) := by rw [List.getElem?_eq_getElem hlt, he]
  unfold Dep.stays at h
  simp only [hx, hk] at h
  rw [hk]
  congr 1
  unfold Row.fzn at h ⊢
  split at h
  · rename_i e
    split at h
    · rw [e] at h; cases h
    · rename_i hc
      exact if_neg hc
  · rename_i e
    split at h
    · rw [e] at h; cases h
    · rename_i hc
      exact if_neg hc
  · rename_i e
    split at h
    · rw [e] at h; cases h
    · rename_i hc
      exact if_neg hc
  · rfl
theorem callT_sound (hG : ∀ f E, G f = some E → Good P f E.F) {o : Oper} {st : St} {g : Gh} {a : Act} {w : World} {K : Act → World → Prop} {Q' : Exit → Act → World → Prop} {ts : List Tk} {c : Call} {x : Option ρ} (ho : o.op = .call c) (hT : ∀ t ∈ ts, t.ok st g) (h : callT P G (ts.map Tk.key) o st c k = some x) (hx : x = some r) (hR : Rel st g a w)
    (hK : ∀ st' g' a' w', g.le g' → (∀ t ∈ ts, t.ok st' g') → Rel st' g' a' w' → k st' = some r → K a' w') : o.wp P a w K Q' := by
  have ev := fun x => eval_rel hR.tmps x
  unfold callT at h
  split at h
  · rename_i y hc
    split at h
    · rename_i fc hfc
      split at h
      · rename_i E avs st1 hE hfix
        split at h
        · injection h with h
          subst h
          split at hx
          · rename_i hall
            have hargs : F2 (AV.R g) (c.args.toList.map st.eval) (c.args.map a.eval).toList := by
              rw [Array.toList_map]
              generalize c.args.toList = l
              induction l with
              | nil => trivial
              | cons y l ih => exact ⟨ev y, ih⟩
            obtain ⟨g1, hle1, ht1, hm1, hF1⟩ := fixVs_rel (P := P) (ts := c.argTypes.toList) hR.mem hargs
            have hext1 := fixVs_ext (P := P) c.argTypes.toList (c.args.toList.map st.eval) st
            rw [hfix] at ht1 hm1 hF1 hext1
            obtain ⟨us, hus, hF2⟩ := calleeA_rel (ev y) hfc
            have hF3 := hF1.append (hF2.imp fun _ _ => AV.R_le hle1)
            have hR1 : Rel st1 g1 a w := ⟨by rw [ht1]; exact hR.tmps.imp fun _ _ => AV.R_le hle1, hR.defers, hm1⟩
            refine callS_gen (hG _ _ hE) (args := c.args) (ats := c.argTypes) (by rw [ho]; cases c; simp_all) hus hF3 hx hR1 fun st' g' a' w' hle hbs hrs hR' h' => hK st' g' a' w' (hle1.trans hle) (fun t ht => ?_) hR' h'
            refine Tk.ok_dep (hT t ht) (hle1.trans hle) ((Agree.of_ext hext1).trans ?_)
            have hl := List.all_eq_true.1 hall t.key (List.mem_map.2 ⟨t, ht, rfl⟩)
            have hl2 : t.dep.stays st1.rows (st1.freeze (st1.ownIds ((avs ++ fc.2).flatMap AV.all))).rows = true := hl
            obtain ⟨bs, hbs⟩ := hbs
            obtain ⟨rs, hrs⟩ := hrs
            cases hd : t.dep with
            | none => trivial
            | box b =>
              intro x hx
              rw [hbs, show (st1.freeze (st1.ownIds ((avs ++ fc.2).flatMap AV.all))).boxes = st1.boxes from rfl, List.getElem?_append_left (List.getElem?_eq_some_iff.1 hx).1]
              exact hx
            | row q =>
              rw [hd] at hl2
              intro x hx
              have h1 := stays_row hl2 hx
              rw [hrs]
              exact (List.getElem?_append_left (List.getElem?_eq_some_iff.1 h1).1).trans h1
          · cases hx
        · split at h
          · cases h
          · split at h
            · rename_i m hmi
              split at h
              · rename_i r0 rs0 hB0 hR0
                injection h with h
                subst h
                split at hx
                · rename_i hall
                  have hargs : F2 (AV.R g) (c.args.toList.map st.eval) (c.args.map a.eval).toList := by
                    rw [Array.toList_map]
                    generalize c.args.toList = l
                    induction l with
                    | nil => trivial
                    | cons y l ih => exact ⟨ev y, ih⟩
                  obtain ⟨g1, hle1, ht1, hm1, hF1⟩ := fixVs_rel (P := P) (ts := c.argTypes.toList) hR.mem hargs
                  have hext1 := fixVs_ext (P := P) c.argTypes.toList (c.args.toList.map st.eval) st
                  rw [hfix] at ht1 hm1 hF1 hext1
                  obtain ⟨us, hus, hF2⟩ := calleeA_rel (ev y) hfc
                  have hF3 := hF1.append (hF2.imp fun _ _ => AV.R_le hle1)
                  have hR1 : Rel st1 g1 a w := ⟨by rw [ht1]; exact hR.tmps.imp fun _ _ => AV.R_le hle1, hR.defers, hm1⟩
                  refine callF_off (hG _ _ hE) (args := c.args) (ats := c.argTypes) (by rw [ho]; cases c; simp_all) hus hF3 hmi hB0 hx hR1 fun st' g' a' w' hle hbs hrs hR' h' => hK st' g' a' w' (hle1.trans hle) (fun t ht => ?_) hR' h'
                  refine Tk.ok_dep (hT t ht) (hle1.trans hle) ((Agree.of_ext hext1).trans ?_)
                  have hl := List.all_eq_true.1 hall t.key (List.mem_map.2 ⟨t, ht, rfl⟩)
                  have hl2 : t.dep.off (r0 :: rs0) st1.rows = true := hl
                  rw [← hR0] at hl2
                  cases hd : t.dep with
                  | none => trivial
                  | box b => exact fun x hx => hbs hx
                  | row q =>
                    rw [hd] at hl2
                    intro x hx
                    unfold Dep.off at hl2
                    simp only [hx, Bool.and_eq_true, Bool.not_eq_true'] at hl2
                    exact hrs hl2.1 hl2.2 hx
                · cases hx
              · cases h
            · cases h
      · cases h
    · cases h
  · cases h
theorem addT_sound (hG : ∀ f E, G f = some E → Good P f E.F) {o : Oper} {st : St} {g : Gh} {a : Act} {w : World} {K : Act → World → Prop} {Q' : Exit → Act → World → Prop} {ts : List Tk} (hT : ∀ t ∈ ts, t.ok st g) (h : addT P G (ts.map Tk.key) o st k = some r) (hR : Rel st g a w)
    (hK : ∀ st' g' a' w', g.le g' → (∀ t ∈ ts, t.ok st' g') → Rel st' g' a' w' → k st' = some r → K a' w') : o.wp P a w K Q' := by
  unfold addT at h
  split at h
  · rename_i t n parts ho
    split at h
    · rename_i y hy
      split at h
      · rename_i hall
        obtain ⟨hbx, ids, row, hrows⟩ := litD_rows hy
        obtain ⟨y1, st'⟩ := y
        obtain ⟨g', w', v, hle, hm, ht, hy1, hrun⟩ := litD_run hR hy
        refine wp_val (v := v) (w' := w') ?_ (hK _ _ _ _ hle (fun t ht => ?_) (hR.value hle ‹_› hm o.dst (x := .s1 (.one y1)) hy1) h)
        · simp [execOp, ho, hrun]
        · have hl := List.all_eq_true.1 hall t.key (List.mem_map.2 ⟨t, ht, rfl⟩)
          refine ⟨fun st2 g2 w2 ha hg hm2 => (hT t ht).1 st2 g2 w2 ?_ (hle.trans hg) hm2, fun h0 g2 w2 hg hs => (hT t ht).2 h0 g2 w2 (fun x => hg (hle.fz x)) hs⟩
          have hl2 : t.dep.lives st.rows st'.rows = true := hl
          cases hd : t.dep with
          | none => trivial
          | box c =>
            rw [hd] at ha
            exact fun x hx => ha x (by rw [(put_mem o.dst _).1]; have e : st'.boxes = st.boxes := hbx; rw [e]; exact hx)
          | row q =>
            rw [hd] at ha hl2
            have e : st'.rows = killed ids 0 st.rows ++ [row] := hrows
            rw [e] at hl2
            exact fun x hx => ha x (by rw [(put_mem o.dst _).2, e]; exact lives_row hl2 hx)
      · cases h
    · cases h
  · rename_i c ho
    split at h
    · rename_i x hx
      exact callT_sound hG ho hT hx h hR hK
    · exact addOp_sound hG h hR fun st' g' a' w' hle hext hR' h' => hK st' g' a' w' hle (fun t ht => Tk.ok_ext (hT t ht) hle hext) hR' h'
  · exact addOp_sound hG h hR fun st' g' a' w' hle hext hR' h' => hK st' g' a' w' hle (fun t ht => Tk.ok_ext (hT t ht) hle hext) hR' h'
theorem TT.drop {ts : List Tk} {i : Nat} (hi : i ∈ stores P ops) {L : Array Bool} {w : World} (hL : L.getD i true = true) (h : TT P ops (ts.filter fun t => !waits ops i t.i) L w) : TT P ops ts L w := by
  intro t ht hs
  by_cases hw : waits ops i t.i = true
  · have := hs i (List.mem_filter.2 ⟨hi, hw⟩)
    rw [hL] at this
    cases this
  · exact h t (List.mem_filter.2 ⟨ht, by simpa using hw⟩) hs
theorem anyA_sound (hG : ∀ f E, G f = some E → Good P f E.F) (hQ : ∀ c a w, ¬ Q (.panic c) a w) (hs : Region.noSelect ops = true) : ∀ (n : Nat) (listed : Array Bool) (ts : List Tk) (st : St) (g : Gh) (a : Act) (w : World),
    anyA P G ops n listed (ts.map Tk.key) st k = some r → Rel st g a w → (∀ t ∈ ts, t.ok st g) →
    (∀ st' g' a' w', g.ext N g' → Rel st' g' a' w' → k st' = some r → Q .normal a' w') → wpAnyT P .any ops Q (TT P ops ts) n listed a w
  | 0, listed, ts, st, g, a, w, h, hR, hT, hK => by
    unfold anyA at h
    split at h
    · rename_i hr
      exact ⟨hr, hK st g a w (.refl _ _) hR h⟩
    · cases h
  | n + 1, listed, ts, st, g, a, w, h, hR, hT, hK => by
    unfold anyA at h
    split at h
    · rename_i hr
      exact ⟨fun _ => hK st g a w (.refl _ _) hR h, by rw [hr]; simp⟩
    · rename_i i0 is hr
      have hne : Region.ready .any ops listed ≠ [] := by rw [hr]; simp
      have hTw : TT P ops ts listed w := TT.of_ok hT hR.mem listed
      split at h
      · rename_i i hfind
        have htake := List.find?_some hfind
        have hmem := List.mem_of_find?_eq_some hfind
        rw [← hr] at hmem
        unfold mayTake at htake
        simp only [Bool.and_eq_true] at htake
        obtain ⟨hfree, hkind⟩ := htake
        split at h
        · cases h
        · rename_i o ho
          rw [ho] at hkind
          have hnS : i ∉ stores P ops := not_stores ho (by
            simp only [Bool.or_eq_true] at hkind
            rcases hkind with hk | hk
            · exact .inl hk
            · refine .inr (.inr ?_)
              unfold loadOk at hk
              simp only [Bool.and_eq_true] at hk
              have hk := hk.2
              unfold isLoad
              split at hk
              · rfl
              · cases hk)
          have hfree' := Region.free_spec ho hfree
          have hwt : ∀ s ∈ waiters P ops i, ∀ o, ops[s]? = some o → ∃ e ∈ o.after, Region.binds .any e = true ∧ e.on = i := fun s hs => (waiters_spec s hs).2
          have hnW : i ∉ waiters P ops i := fun hm => hnS (waiters_spec i hm).1
          have next : ∀ (st' : St) (g' : Gh) (a' : Act) (w' : World), anyA P G ops n (listed.setIfInBounds i true) (ts.map Tk.key) st' k = some r → g.le g' → Ext st st' → Rel st' g' a' w' → wpAnyT P .any ops Q (TT P ops ts) n (listed.setIfInBounds i true) a' w' := fun st' g' a' w' h' hle hext hR' =>
            anyA_sound hG hQ hs n _ ts st' g' a' w' h' hR' (fun t ht => Tk.ok_ext (hT t ht) hle hext) fun st2 g2 a2 w2 hw => hK st2 g2 a2 w2 (hle.ext.trans hw)
          have pureStep : ∀ (v : Value) (st' : St) (g' : Gh), YT P ops o v (fun _ => True) a → anyA P G ops n (listed.setIfInBounds i true) (ts.map Tk.key) st' k = some r → g.le g' → Ext st st' → Rel st' g' (a.put o.dst v) w → wpAnyT P .any ops Q (TT P ops ts) (n + 1) listed a w := fun v st' g' hy h' hle hext hR' =>
            wpAnyT_take (S := waiters P ops i) (D' := fun _ => True) ho hnW (TT.at_ hnS) (Region.noSelect_spec hs) hQ hwt n listed a w hfree' (.inr fun _ => trivial) hmem hy trivial hTw (wpAnyT.mono (I := fun _ => True) (fun _ _ _ => trivial) (fun L w _ h => ⟨h, fun _ => trivial⟩) trivial (next st' g' _ w h' hle hext hR'))
          obtain ⟨st1, heq1, hR1, hcase⟩ := gdA_cases h hR
          have hext1 := Ext.of_eq heq1
          rcases hcase with ⟨hw, h⟩ | ⟨hw, h⟩
          · by_cases hp : isPure P o.op = true
            · rw [if_pos hp] at h
              obtain ⟨x, v, hk, hx, hrun⟩ := pureC_run h hR1
              exact pureStep v _ g (.inl ⟨hw, fun w1 _ => hrun w1⟩) hk (.refl g) (hext1.put _ _) (hR1.value (.refl g) rfl hR1.mem o.dst hx)
            · rw [if_neg hp] at h
              split at h
              · rename_i hlo
                obtain ⟨u, D', st', g', hk, hle, hext, hR', hrun, hcl, hcl2⟩ := loadC_run h hR1
                have hok1 : Tk.ok ⟨i, depAt st1 o, D'⟩ st1 g := ⟨hcl, hcl2⟩
                have hD : D' w := hcl st1 g w (Agree.of_ext (.refl _)) (.refl g) hR1.mem
                have hS : (∀ s ∈ waiters P ops i, listed.getD s true = false) ∨ ∀ w, D' w := .inl fun s hs => by
                  have h1 := List.mem_filter.1 hs
                  unfold loadOk at hlo
                  simp only [Bool.and_eq_true] at hlo
                  have h2 := List.all_eq_true.1 hlo.1 s h1.1
                  rw [h1.2] at h2
                  simpa using h2
                refine wpAnyT_take (S := waiters P ops i) (D' := D') ho hnW (TT.at_ hnS) (Region.noSelect_spec hs) hQ hwt n listed a w hfree' hS hmem (.inl ⟨hw, hrun⟩) hD hTw ?_
                have := anyA_sound hG hQ hs n _ (⟨i, depAt st1 o, D'⟩ :: ts) st' g' _ w hk hR' (fun t ht => by
                  rcases List.mem_cons.1 ht with rfl | ht
                  · exact Tk.ok_ext hok1 hle hext
                  · exact Tk.ok_ext (hT t ht) hle (hext1.trans hext)) fun st2 g2 a2 w2 hw => hK st2 g2 a2 w2 (hle.ext.trans hw)
                exact wpAnyT.mono (I := fun _ => True) (fun _ _ _ => trivial) (fun L w _ h => ⟨fun t ht => h t (List.mem_cons_of_mem _ ht), h _ List.mem_cons_self⟩) trivial this
              · cases h
          · exact pureStep undef _ g (.inr ⟨hw, rfl⟩) h (.refl g) (hext1.put _ _) (skip_rel hR1 o.dst)
      · refine ⟨fun h0 => absurd h0 hne, fun i hi => ?_⟩
        rw [hr] at hi
        have h := joinAll_all h _ (List.mem_map.2 ⟨i, hi, rfl⟩)
        split at h
        · cases h
        · rename_i o ho
          unfold wpOp
          simp only [ho]
          obtain ⟨st1, heq1, hR1, hcase⟩ := gdA_cases h hR
          have hext1 := Ext.of_eq heq1
          have go : ∀ (st' : St) (g' : Gh) (a' : Act) (w' : World), anyA P G ops n (listed.setIfInBounds i true) (ts.map Tk.key) st' k = some r → g.le g' → Ext st st' → Rel st' g' a' w' → TT P ops ts (listed.setIfInBounds i true) w' ∧ wpAnyT P .any ops Q (TT P ops ts) n (listed.setIfInBounds i true) a' w' := fun st' g' a' w' h' hle hext hR' =>
            have hT' : ∀ t ∈ ts, t.ok st' g' := fun t ht => Tk.ok_ext (hT t ht) hle hext
            ⟨TT.of_ok hT' hR'.mem _, anyA_sound hG hQ hs n _ ts st' g' a' w' h' hR' hT' fun st2 g2 a2 w2 hw => hK st2 g2 a2 w2 (hle.ext.trans hw)⟩
          have keys : ∀ f : Nat × Dep → Bool, (ts.map Tk.key).filter f = (ts.filter fun t => f t.key).map Tk.key := fun f => by rw [List.filter_map]; rfl
          -- behind an operation that writes
          have wrote : i ∈ stores P ops → ∀ (st' : St) (g' : Gh) (a' : Act) (w' : World), anyA P G ops n (listed.setIfInBounds i true) ((ts.map Tk.key).filter fun e => !waits ops i e.1) st' k = some r → g.ext N g' → Rel st' g' a' w' → (∀ t ∈ ts, waits ops i t.i = false → t.ok st' g') →
              TT P ops ts (listed.setIfInBounds i true) w' ∧ wpAnyT P .any ops Q (TT P ops ts) n (listed.setIfInBounds i true) a' w' := fun hst st' g' a' w' h' hx hR' hT' => by
            rw [keys] at h'
            have hT2 : ∀ t ∈ (ts.filter fun t => !waits ops i t.i), t.ok st' g' := fun t ht => by
              obtain ⟨h1, h2⟩ := List.mem_filter.1 ht
              exact hT' t h1 (by simpa using h2)
            have := anyA_sound hG hQ hs n _ _ st' g' a' w' h' hR' hT2 fun st2 g2 a2 w2 hw => hK st2 g2 a2 w2 (hx.trans hw)
            refine ⟨TT.drop hst (getD_self i) (TT.of_ok hT2 hR'.mem _), ?_⟩
            exact wpAnyT.mono (I := fun L => L.getD i true = true) (fun L j hL => by
              by_cases hji : j = i
              · subst hji; exact getD_self j
              · rw [getD_set_ne true hji]; exact hL) (fun L w hL h => TT.drop hst hL h) (getD_self i) this
          rcases hcase with ⟨hw, h⟩ | ⟨hw, h⟩
          · rw [if_pos hw]
            refine .inl ?_
            split at h
            · rename_i hst
              have hst : i ∈ stores P ops := by simpa using hst
              split at h
              · rename_i b hb
                split at h
                · rename_i hall
                  obtain ⟨st', w', hk, hR', hrun, hrows, hboxes⟩ := storeC_run hb h hR1
                  refine wp_skp hrun (wrote hst st' g _ w' hk (.refl _ _) hR' fun t ht hnw => ?_)
                  have hb2 := List.all_eq_true.1 hall t.key (List.mem_map.2 ⟨t, ht, rfl⟩)
                  have hb3 : t.dep.notBox b = true := by
                    simp only [Bool.or_eq_true] at hb2
                    rcases hb2 with hb2 | hb2
                    · exact hb2
                    · have : waits ops i t.i = true := hb2
                      rw [hnw] at this; cases this
                  refine ⟨fun st2 g2 w2 ha hg hm => (hT t ht).1 st2 g2 w2 ?_ hg hm, (hT t ht).2⟩
                  cases hd : t.dep with
                  | none => trivial
                  | box c =>
                    rw [hd] at ha hb3
                    have hc : c ≠ b := by simpa [Dep.notBox] using hb3
                    exact fun x hx => ha x (by rw [hboxes c hc, heq1.1]; exact hx)
                  | row q =>
                    rw [hd] at ha
                    exact fun x hx => ha x (by rw [hrows, heq1.2]; exact hx)
                · cases h
              · by_cases hap : isAppOp o.op = true
                · rw [if_pos hap] at h
                  exact appC_sound (ts := ts) (fun t ht => Tk.ok_ext (hT t ht) (.refl g) hext1) h hR1 fun st' g' a' w' hle hT' hR' h' => wrote hst st' g' a' w' h' hle.ext hR' fun t ht hnw => hT' t ht hnw
                rw [if_neg hap] at h
                split at h
                · rename_i hall
                  refine stepX_sound (N := N) hG h hR1 fun st' g' a' w' hw0 hR' h' => wrote hst st' g' a' w' h' hw0 hR' fun t ht hnw => ?_
                  have hb2 := List.all_eq_true.1 hall t.key (List.mem_map.2 ⟨t, ht, rfl⟩)
                  have hb3 : t.dep.isNone = true := by
                    simp only [Bool.or_eq_true] at hb2
                    rcases hb2 with hb2 | hb2
                    · exact hb2
                    · have : waits ops i t.i = true := hb2
                      rw [hnw] at this; cases this
                  have h0 : t.dep = .none := by cases hd : t.dep <;> rw [hd] at hb3 <;> first | rfl | cases hb3
                  exact Tk.ok_none (hT t ht) h0 hw0
                · cases h
            · split at h
              · exact addT_sound hG (fun t ht => Tk.ok_ext (hT t ht) (.refl g) hext1) h hR1 fun st' g' a' w' hle hT' hR' h' => ⟨TT.of_ok hT' hR'.mem _, anyA_sound hG hQ hs n _ ts st' g' a' w' h' hR' hT' fun st2 g2 a2 w2 hw => hK st2 g2 a2 w2 (hle.ext.trans hw)⟩
              · split at h
                · obtain ⟨x, v, hk, hx, hrun⟩ := pureC_run h hR1
                  exact wp_val (hrun w) (go _ g _ w hk (.refl g) (hext1.put _ _) (hR1.value (.refl g) rfl hR1.mem o.dst hx))
                · obtain ⟨u, st', g', hk, hle, hext, hR', hrun⟩ := loadN_run h hR1
                  exact wp_val hrun (go st' g' _ w hk hle (hext1.trans hext) hR')
          · rw [if_neg (by rw [hw]; simp)]
            exact go _ g _ w h (.refl g) (hext1.put _ _) (skip_rel hR1 o.dst)
end
noncomputable def drawA (P : Program) {ρ : Type} (G : Env) (ops : Array Oper) (st : St) (k : St → Option ρ) : Option ρ := anyA P G ops ops.size (Array.replicate ops.size false) [] st k
theorem drawA_sound {P : Program} {ρ : Type} {G : Env} {N : Nat × Nat} {ops : Array Oper} {st : St} {k : St → Option ρ} {r : ρ} {g : Gh} {a : Act} {w : World} {Q : Exit → Act → World → Prop} (hG : ∀ f E, G f = some E → Good P f E.F) (hQ : ∀ c a w, ¬ Q (.panic c) a w) (hs : Region.noSelect ops = true)
    (h : drawA P G ops st k = some r) (hR : Rel st g a w) (hK : ∀ st' g' a' w', g.ext N g' → Rel st' g' a' w' → k st' = some r → Q .normal a' w') : wpAny P .any ops Q ops.size (Array.replicate ops.size false) a w :=
  wpAnyT.any (anyA_sound (N := N) hG hQ hs ops.size _ [] st g a w h hR (fun t ht => by cases ht) hK)
end Go.Proofs.YtmbcnpbgcfiafaaGreat.Vm
