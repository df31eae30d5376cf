/- A walk by reckoning: regions whose order is drawn, third part: every order at once. -/
import Derived.Test.YtpfjklmobjjgpaaSimS
namespace Go.Proofs.Ytpfjklmobjjgpaa.Sim
open Go Go.RowKit Go.Proofs.YtpfjklmobjjgpaaW.PrintWords
set_option linter.unusedVariables false
set_option linter.unusedSimpArgs false

/-! ### Operations that add -/
def Md.same : Md → Md → Bool
  | .ro, .ro => true
  | .own, .own => true
  | .dead, .dead => true
  | _, _ => false
/-- Rows that were there are as alive as they were. -/
def mdSame : List Row → List Row → Bool
  | [], _ => true
  | r :: rs, r' :: rs' => r.md.same r'.md && mdSame rs rs'
  | _ :: _, [] => false
theorem killed_same {ids : List Nat} : ∀ {n : Nat} {rs rs1 : List Row}, mdSame rs (killed ids n rs ++ rs1) = true → killed ids n rs = rs
  | _, [], _, _ => rfl
  | n, r :: rs, rs1, h => by
    simp only [killed, List.cons_append, mdSame, Bool.and_eq_true] at h ⊢
    rw [killed_same h.2]
    congr 1
    split
    · rename_i hc
      rw [if_pos hc] at h
      obtain ⟨e, s, xs, md⟩ := r
      cases md <;> first | rfl | (exact absurd h.1 (by simp [Md.same]))
    · rfl
section
variable (P : Program) {ρ : Type} (G : Env ρ)
def addOp (o : Oper) (st : St) (k : St → Option ρ) : Option ρ :=
  match o.op with
  | .alloc e =>
    match (P.info? e).bind (·.zero) with
    | none => none
    | some z => k (boxA st o.dst e (z.cells.toList.map .val))
  | .box e x =>
    match st.eval x with
    | .s1 v => if v.cells.all st.firm = true then k (boxA st o.dst e v.cells) else none
    | _ => none
  | .buildSlice t n parts =>
    match litA P st t n parts.toList with
    | some y => if mdSame st.rows y.2.rows = true then k (y.2.put o.dst (.s1 (.one y.1))) else none
    | none => none
  | .call c =>
    match c.callee with
    | .value (.func f) =>
      match G f, st.toRVs (c.args.toList.map st.eval) with
      | some F, some rvs => F (fixRVs P c.argTypes.toList rvs) fun res => k ((st.back .own res).put o.dst (retA (toA1s st.rows.length res)))
      | _, _ => none
    | _ => none
  | _ => none
end
section
variable {P : Program} {ρ : Type} {G : Env ρ} {o : Oper} {st : St} {k : St → Option ρ} {r : ρ} {g : Gh} {a : Act} {w : World} {K : Act → World → Prop} {Q : Exit → Act → World → Prop}
theorem boxA_ext (dst : Option Tmp) (e : TypeId) (cs : List AL) : Ext st (boxA st dst e cs) := Ext.put ⟨⟨[(e, cs)], rfl⟩, [], by simp⟩ _ _
theorem addOp_sound (hG : ∀ f F, G f = some F → Good P f F) (h : addOp P G o st k = some r) (hR : Rel st g a w)
    (hK : ∀ st' g' a' w', g.le g' → Ext st st' → Rel st' g' a' w' → k st' = some r → K a' w') : o.wp P a w K Q := by
  have ev := fun x => eval_rel hR.tmps x
  unfold addOp at h
  split at h
  · rename_i e ho
    split at h
    · cases h
    · rename_i z hz
      obtain ⟨i, hi, hiz⟩ := Option.bind_eq_some_iff.1 hz
      obtain ⟨g', hle, hR'⟩ := boxA_rel hR o.dst e (cs := z.cells.toList.map .val) (vs := z.cells) (F2.of_map (R := AL.R g) (f := AL.val) (fun y => rfl) z.cells.toList)
      refine wp_val (w' := w.alloc (.cells z.cells e)) (v := .pointer (some ⟨w.heap.size, 0, none⟩)) ?_ (hK _ _ _ _ hle (boxA_ext _ _ _) hR' h)
      simp [execOp, ho, Instr.alloc, zeroValue, typeInfo, hi, hiz, newVar, newRow]
  · rename_i e x ho
    split at h
    · rename_i v hv
      split at h
      · rename_i hf
        have hx : v.R g (a.eval x) := by have := ev x; rw [hv] at this; exact this
        obtain ⟨g', hle, hR'⟩ := boxA_rel hR o.dst e (cells_rel hx fun y e => by
          subst e
          exact all_one hR.mem (xs := [y]) (vs := [a.eval x]) ⟨hx, trivial⟩ hf _ List.mem_cons_self)
        refine wp_val (w' := w.alloc (.cells (a.eval x).cells e)) (v := .pointer (some ⟨w.heap.size, 0, none⟩)) ?_ (hK _ _ _ _ hle (boxA_ext _ _ _) hR' h)
        simp [execOp, ho, Instr.box, newVar, newRow]
      · cases h
    · cases h
  · rename_i t n parts ho
    split at h
    · rename_i y hy
      split at h
      · rename_i hsm
        obtain ⟨y1, st'⟩ := y
        obtain ⟨g', w', v, hle, hm, ht, hy1, hrun⟩ := litA_run hR hy
        have hext : Ext st st' := by
          have hy' := hy
          unfold litA at hy'
          split at hy'
          · split at hy'
            · split at hy'
              · split at hy'
                · split at hy'
                  · unfold litRow at hy'
                    split at hy'
                    · split at hy'
                      · simp only [Option.some.injEq, Prod.mk.injEq] at hy'
                        obtain ⟨_, rfl⟩ := hy'
                        have := killed_same hsm
                        exact ⟨⟨[], by simp⟩, _, by show killed _ 0 st.rows ++ _ = _; rw [this]⟩
                      · cases hy'
                    · cases hy'
                  · cases hy'
                · cases hy'
              · cases hy'
            · cases hy'
          · cases hy'
        refine wp_val (v := v) (w' := w') ?_ (hK _ _ _ _ hle (hext.put _ _) (hR.value hle ht hm o.dst (x := .s1 (.one y1)) hy1) h)
        simp [execOp, ho, hrun]
      · cases h
    · cases h
  · rename_i c ho
    split at h
    · rename_i f hc
      split at h
      · rename_i F rvs hF hrvs
        have hargs : F2 (AV.R g) (c.args.toList.map st.eval) (c.args.map a.eval).toList := by
          rw [Array.toList_map]
          generalize c.args.toList = l
          induction l with
          | nil => trivial
          | cons y l ih => exact ⟨ev y, ih⟩
        obtain ⟨hf, hgood⟩ := hG f F hF
        have hcall := hgood _ _ r h w _ (fixRVs_in (toRVs_in hR.mem hargs hrvs))
        rw [Array.toArray_toList] at hcall
        refine wp_callF (args := c.args) (ats := c.argTypes) (by rw [ho]; cases c; simp_all) hf hcall fun res vs tag w' hz hout hb => ?_
        obtain ⟨g', hle, hm, hF2⟩ := hR.mem.back hb hout
        have hext : Ext st (st.back .own res) := ⟨⟨[], by simp [St.back]⟩, _, rfl⟩
        exact hK _ _ _ _ hle (hext.put _ _) (hR.value (st' := st.back .own res) hle rfl hm o.dst (retA_rel hF2)) hz
      · cases h
    · cases h
  · cases h
end

/-! ### Every order -/
def isPure (P : Program) : Op → Bool
  | .move _ => true
  | .assign _ => true
  | .pick _ _ _ => true
  | .binOp _ _ _ _ _ => true
  | .unOp _ _ _ => true
  | .convert _ dst _ =>
    match P.underlying dst with
    | some (.int _) => true
    | _ => false
  | .fieldAddr _ _ _ => true
  | .indexAddr _ _ _ => true
  | .extract _ _ => true
  | .build _ _ => true
  | .call c =>
    match c.callee with
    | .builtin .len => true
    | .builtin .min => true
    | _ => false
  | _ => false
def isAdd : Op → Bool
  | .alloc _ => true
  | .box _ _ => true
  | .buildSlice _ _ _ => true
  | .call c =>
    match c.callee with
    | .value (.func _) => true
    | _ => false
  | _ => false
def isLoad : Op → Bool
  | .load _ _ => true
  | _ => false
/-- What may write, or move a row. -/
def stores (P : Program) (ops : Array Oper) : List Nat := (List.range ops.size).filter fun i =>
  match ops[i]? with
  | some o => !isPure P o.op && !isAdd o.op && !isLoad o.op
  | none => false
/-- Every operation that may write waits for i. -/
def waited (P : Program) (ops : Array Oper) (listed : Array Bool) (i : Nat) : Bool := (stores P ops).all fun s => !listed.getD s true &&
  match ops[s]? with
  | some o => o.after.any fun e => Region.binds .any e && e.on == i
  | none => true
def mayTake (P : Program) (ops : Array Oper) (listed : Array Bool) (i : Nat) : Bool := Region.free .any ops listed i &&
  match ops[i]? with
  | some o => isPure P o.op || (isLoad o.op && waited P ops listed i)
  | none => false
def joinAll {ρ : Type} : List (Option ρ) → Option ρ
  | [] => none
  | [x] => x
  | x :: xs => x.bind fun _ => joinAll xs
theorem joinAll_all {ρ : Type} [Subsingleton ρ] {r : ρ} : ∀ {xs : List (Option ρ)}, joinAll xs = some r → ∀ x ∈ xs, x = some r
  | [], h => by cases h
  | [x], h => fun y hy => by rw [List.mem_singleton.1 hy]; exact h
  | x :: y :: xs, h => fun z hz => by
    have h' : x.bind (fun _ => joinAll (y :: xs)) = some r := h
    obtain ⟨r', h1, h2⟩ := Option.bind_eq_some_iff.1 h'
    rcases List.mem_cons.1 hz with rfl | hz
    · rw [h1]; congr 1; exact Subsingleton.elim _ _
    · exact joinAll_all h2 z hz
section
variable (P : Program) {ρ : Type} (G : Env ρ)
def gdA (ops : Array Oper) (o : Oper) (st : St) (k1 k0 : St → Option ρ) : Option ρ :=
  match o.guard with
  | none => k1 st
  | some (j, want) =>
    match yieldA ops st j with
    | none => none
    | some none => k0 st
    | some (some b) => cond b (if want = true then k1 (st.know ops j true) else k0 (st.know ops j true)) (if want = true then k0 (st.know ops j false) else k1 (st.know ops j false))
def loadC (o : Oper) (st : St) (k : St → Option ρ) : Option ρ :=
  match o.op with
  | .load t x =>
    match st.eval x with
    | .s1 (.one p) =>
      match loadS P st t p with
      | none => none
      | some y => if detS P st t p = true then k (y.2.put o.dst (.s1 y.1)) else none
    | _ => none
  | _ => none
def anyA (ops : Array Oper) : Nat → Array Bool → St → (St → Option ρ) → Option ρ
  | 0, listed, st, k =>
    match Region.ready .any ops listed with
    | [] => k st
    | _ => none
  | n + 1, listed, st, k =>
    match Region.ready .any ops listed with
    | [] => k st
    | i :: is =>
      match (i :: is).find? (mayTake P ops listed) with
      | some i =>
        match ops[i]? with
        | none => none
        | some o => gdA ops o st
            (fun st => if isPure P o.op = true then pureC P o st fun x => anyA ops n (listed.setIfInBounds i true) (st.put o.dst x) k else loadC P o st fun st' => anyA ops n (listed.setIfInBounds i true) st' k)
            (fun st => anyA ops n (listed.setIfInBounds i true) (st.put o.dst (.s1 (.one (.val undef)))) k)
      | none => joinAll ((i :: is).map fun i =>
        match ops[i]? with
        | none => none
        | some o => gdA ops o st
            (fun st => if (stores P ops).contains i = true then stepX P G o st fun st' => anyA ops n (listed.setIfInBounds i true) st' k else if isAdd o.op = true then addOp P G o st fun st' => anyA ops n (listed.setIfInBounds i true) st' k else if isPure P o.op = true then pureC P o st fun x => anyA ops n (listed.setIfInBounds i true) (st.put o.dst x) k else loadC P o st fun st' => anyA ops n (listed.setIfInBounds i true) st' k)
            (fun st => anyA ops n (listed.setIfInBounds i true) (st.put o.dst (.s1 (.one (.val undef)))) k))
end
section
variable {P : Program} {ρ : Type} {G : Env ρ} {k : St → Option ρ} {r : ρ} {ops : Array Oper} {Q : Exit → Act → World → Prop}
theorem know_ext {st : St} (ops : Array Oper) (j : Nat) (b : Bool) : (st.know ops j b).boxes = st.boxes ∧ (st.know ops j b).rows = st.rows := by
  unfold St.know
  split
  · exact ⟨rfl, rfl⟩
  · exact put_mem _ _
theorem Ext.of_eq {st st1 : St} (h : st1.boxes = st.boxes ∧ st1.rows = st.rows) : Ext st st1 := ⟨⟨[], by simp [h.1]⟩, [], by simp [h.2]⟩
/-- A guard: the operation is carried out, or it is not. -/
theorem gdA_cases {o : Oper} {st : St} {g : Gh} {a : Act} {w : World} {k1 k0 : St → Option ρ} (h : gdA ops o st k1 k0 = some r) (hR : Rel st g a w) :
    ∃ st1, (st1.boxes = st.boxes ∧ st1.rows = st.rows) ∧ Rel st1 g a w ∧ ((Region.wanted o (yielded ops a.tmps) = true ∧ k1 st1 = some r) ∨ (Region.wanted o (yielded ops a.tmps) = false ∧ k0 st1 = some r)) := by
  unfold gdA at h
  cases hgd : o.guard with
  | none =>
    rw [hgd] at h
    exact ⟨st, ⟨rfl, rfl⟩, hR, .inl ⟨by simp [Region.wanted, hgd], h⟩⟩
  | some jw =>
    obtain ⟨j, want⟩ := jw
    rw [hgd] at h
    simp only at h
    have hwant : Region.wanted o (yielded ops a.tmps) = (yielded ops a.tmps j == some want) := by simp [Region.wanted, hgd]
    split at h
    · cases h
    · rename_i hy
      have := yield_rel hR hy
      exact ⟨st, ⟨rfl, rfl⟩, hR, .inr ⟨by rw [hwant, this]; rfl, h⟩⟩
    · rename_i b hy
      have hyy := yield_rel hR hy
      have hR1 := know_rel hR hy
      rcases cond_some h with ⟨rfl, h⟩ | ⟨rfl, h⟩
      · split at h
        · rename_i hw
          exact ⟨_, know_ext _ _ _, hR1, .inl ⟨by rw [hwant, hyy, hw]; rfl, h⟩⟩
        · rename_i hw
          exact ⟨_, know_ext _ _ _, hR1, .inr ⟨by rw [hwant, hyy]; simpa using hw, h⟩⟩
      · split at h
        · rename_i hw
          exact ⟨_, know_ext _ _ _, hR1, .inr ⟨by rw [hwant, hyy, hw]; rfl, h⟩⟩
        · rename_i hw
          have : want = false := by simpa using hw
          exact ⟨_, know_ext _ _ _, hR1, .inl ⟨by rw [hwant, hyy, this]; rfl, h⟩⟩
theorem not_stores {i : Nat} {o : Oper} (hi : ops[i]? = some o) (h : isPure P o.op = true ∨ isAdd o.op = true ∨ isLoad o.op = true) : i ∉ stores P ops := by
  intro hm
  unfold stores at hm
  rw [List.mem_filter, hi] at hm
  have := hm.2
  rcases h with h | h | h <;> simp [h] at this
theorem waited_spec {i : Nat} {listed : Array Bool} (h : waited P ops listed i = true) : ∀ s ∈ stores P ops, listed.getD s true = false ∧ ∀ o, ops[s]? = some o → ∃ e ∈ o.after, Region.binds .any e = true ∧ e.on = i := by
  intro s hs
  unfold waited at h
  rw [List.all_eq_true] at h
  have := h s hs
  simp only [Bool.and_eq_true, Bool.not_eq_true'] at this
  refine ⟨this.1, fun o ho => ?_⟩
  rw [ho] at this
  obtain ⟨e, he, hb⟩ := Array.any_eq_true'.1 this.2
  simp only [Bool.and_eq_true, beq_iff_eq] at hb
  exact ⟨e, he, hb.1, hb.2⟩
theorem loadC_run {o : Oper} {st : St} {g : Gh} {a : Act} {w : World} {k : St → Option ρ} (h : loadC P o st k = some r) (hR : Rel st g a w) :
    ∃ (u : Value) (D : World → Prop) (st' : St) (g' : Gh), k st' = some r ∧ g.le g' ∧ Ext st st' ∧ Rel st' g' (a.put o.dst u) w ∧ (∀ w1, D w1 → (execOp a.eval o).run P w1 = .ok (.value u) w1) ∧ ∀ st2 g2 w2, Ext st st2 → g.le g2 → Mem st2.boxes st2.rows g2 w2 → D w2 := by
  have ev := fun x => eval_rel hR.tmps x
  unfold loadC at h
  split at h
  · rename_i t x ho
    split at h
    · rename_i p hp
      split at h
      · cases h
      · rename_i y hl
        split at h
        · rename_i hdet
          obtain ⟨y1, st'⟩ := y
          obtain ⟨u, D, ⟨g', hle, hm, ht, hy⟩, hext, hrun, hcl⟩ := loadS_till hR.mem (one_get (ev x) hp) hl hdet
          exact ⟨u, D, _, g', h, hle, hext.put _ _, hR.value hle ht hm o.dst (x := .s1 y1) hy, fun w1 hw1 => by simp [execOp, ho, hrun w1 hw1], hcl⟩
        · cases h
    · cases h
  · cases h
theorem anyA_sound [Subsingleton ρ] (hG : ∀ f F, G f = some F → Good P f F) (hQ : ∀ c a w, ¬ Q (.panic c) a w) (hs : Region.noSelect ops = true) : ∀ (n : Nat) (listed : Array Bool) (st : St) (g : Gh) (a : Act) (w : World) (D : World → Prop),
    anyA P G ops n listed st k = some r → Rel st g a w → (∀ st2 g2 w2, Ext st st2 → g.le g2 → Mem st2.boxes st2.rows g2 w2 → D w2) →
    (∀ st' g' a' w', g'.w0 = g.w0 → Rel st' g' a' w' → k st' = some r → Q .normal a' w') → wpAnyT P .any ops Q (Till (stores P ops) D) n listed a w
  | 0, listed, st, g, a, w, D, h, hR, hD, hK => by
    unfold anyA at h
    split at h
    · rename_i hr
      exact ⟨hr, hK st g a w rfl hR h⟩
    · cases h
  | n + 1, listed, st, g, a, w, D, h, hR, hD, hK => by
    unfold anyA at h
    split at h
    · rename_i hr
      exact ⟨fun _ => hK st g a w rfl hR h, by rw [hr]; simp⟩
    · rename_i i0 is hr
      have hne : Region.ready .any ops listed ≠ [] := by rw [hr]; simp
      have hDw : D w := hD st g w (.refl _) (.refl g) hR.mem
      -- what comes behind an operation that only adds
      have next : ∀ (i : Nat) (D' : World → Prop) (st' : St) (g' : Gh) (a' : Act) (w' : World), anyA P G ops n (listed.setIfInBounds i true) st' k = some r → g.le g' → Ext st st' → Rel st' g' a' w' → (∀ st2 g2 w2, Ext st' st2 → g'.le g2 → Mem st2.boxes st2.rows g2 w2 → D' w2) →
          wpAnyT P .any ops Q (Till (stores P ops) fun w => D w ∧ D' w) n (listed.setIfInBounds i true) a' w' := fun i D' st' g' a' w' h' hle hext hR' hD' =>
        anyA_sound hG hQ hs n _ st' g' a' w' _ h' hR' (fun st2 g2 w2 he hg hm => ⟨hD st2 g2 w2 (hext.trans he) (hle.trans hg) hm, hD' st2 g2 w2 he hg hm⟩) fun st2 g2 a2 w2 hw => hK st2 g2 a2 w2 (hw.trans hle.w0)
      have drop : ∀ (i : Nat) (D' : World → Prop) (a' : Act) (w' : World), wpAnyT P .any ops Q (Till (stores P ops) fun w => D w ∧ D' w) n (listed.setIfInBounds i true) a' w' → wpAnyT P .any ops Q (Till (stores P ops) D) n (listed.setIfInBounds i true) a' w' := fun i D' a' w' h' =>
        wpAnyT.mono (I := fun _ => True) (fun _ _ _ => trivial) (fun L w _ hT hs => (hT hs).1) trivial h'
      split at h
      · rename_i i hfind
        have htake := List.find?_some hfind
        have hmem := List.mem_of_find?_eq_some hfind
        rw [← hr] at hmem
        unfold mayTake at htake
        simp only [Bool.and_eq_true] at htake
        obtain ⟨hfree, hkind⟩ := htake
        split at h
        · cases h
        · rename_i o ho
          rw [ho] at hkind
          have hkind : isPure P o.op = true ∨ (isLoad o.op = true ∧ waited P ops listed i = true) := by simpa using hkind
          have hnS : i ∉ stores P ops := not_stores ho (hkind.elim .inl fun h => .inr (.inr h.1))
          have hfree' := Region.free_spec ho hfree
          have hT : Till (stores P ops) D listed w := fun _ => hDw
          have pureStep : ∀ (v : Value) (st' : St) (g' : Gh), YT P ops o v (fun _ => True) a → anyA P G ops n (listed.setIfInBounds i true) st' k = some r → g.le g' → Ext st st' → Rel st' g' (a.put o.dst v) w → wpAnyT P .any ops Q (Till (stores P ops) D) (n + 1) listed a w := fun v st' g' hy h' hle hext hR' =>
            wpAnyT_first (D' := fun _ => True) ho hnS (Region.noSelect_spec hs) hQ n listed a w hfree' (.inr fun _ => trivial) hmem hy trivial hT (next i (fun _ => True) st' g' _ w h' hle hext hR' fun _ _ _ _ _ _ => trivial)
          obtain ⟨st1, heq1, hR1, hcase⟩ := gdA_cases h hR
          have hext1 := Ext.of_eq heq1
          rcases hcase with ⟨hw, h⟩ | ⟨hw, h⟩
          · by_cases hp : isPure P o.op = true
            · rw [if_pos hp] at h
              obtain ⟨x, v, hk, hx, hrun⟩ := pureC_run h hR1
              exact pureStep v _ g (.inl ⟨hw, fun w1 _ => hrun w1⟩) hk (.refl g) (hext1.put _ _) (hR1.value (.refl g) rfl hR1.mem o.dst hx)
            · rw [if_neg hp] at h
              obtain ⟨_, hwt⟩ := hkind.resolve_left hp
              obtain ⟨u, D', st', g', hk, hle, hext, hR', hrun, hcl⟩ := loadC_run h hR1
              have hcl' : ∀ st2 g2 w2, Ext st st2 → g.le g2 → Mem st2.boxes st2.rows g2 w2 → D' w2 := fun st2 g2 w2 he hg hm => hcl st2 g2 w2 (by
                unfold Ext
                rw [heq1.1, heq1.2]
                exact he) hg hm
              exact wpAnyT_first (D' := D') ho hnS (Region.noSelect_spec hs) hQ n listed a w hfree' (.inl (waited_spec hwt)) hmem (.inl ⟨hw, hrun⟩) (hcl' st g w (.refl _) (.refl g) hR.mem) hT
                (next i D' st' g' _ w hk hle (hext1.trans hext) hR' fun st2 g2 w2 he hg hm => hcl st2 g2 w2 (hext.trans he) (hle.trans hg) hm)
          · exact pureStep undef _ g (.inr ⟨hw, rfl⟩) h (.refl g) (hext1.put _ _) (skip_rel hR1 o.dst)
      · refine ⟨fun h0 => absurd h0 hne, fun i hi => ?_⟩
        rw [hr] at hi
        have h := joinAll_all h _ (List.mem_map.2 ⟨i, hi, rfl⟩)
        split at h
        · cases h
        · rename_i o ho
          unfold wpOp
          simp only [ho]
          obtain ⟨st1, heq1, hR1, hcase⟩ := gdA_cases h hR
          have hext1 := Ext.of_eq heq1
          have till : ∀ (st' : St) (g' : Gh) (w' : World), Ext st st' → g.le g' → Mem st'.boxes st'.rows g' w' → Till (stores P ops) D (listed.setIfInBounds i true) w' := fun st' g' w' he hg hm _ => hD st' g' w' he hg hm
          have go : ∀ (st' : St) (g' : Gh) (a' : Act) (w' : World), anyA P G ops n (listed.setIfInBounds i true) st' k = some r → g.le g' → Ext st st' → Rel st' g' a' w' → Till (stores P ops) D (listed.setIfInBounds i true) w' ∧ wpAnyT P .any ops Q (Till (stores P ops) D) n (listed.setIfInBounds i true) a' w' := fun st' g' a' w' h' hle hext hR' =>
            ⟨till st' g' w' hext hle hR'.mem, drop i (fun _ => True) a' w' (next i (fun _ => True) st' g' a' w' h' hle hext hR' fun _ _ _ _ _ _ => trivial)⟩
          rcases hcase with ⟨hw, h⟩ | ⟨hw, h⟩
          · rw [if_pos hw]
            refine .inl ?_
            split at h
            · rename_i hst
              have hst : i ∈ stores P ops := by simpa using hst
              refine stepX_sound hG h hR1 fun st' g' a' w' hw0 hR' h' => ?_
              have hlt : ∀ L : Array Bool, (L.setIfInBounds i true).getD i true = true := by
                intro L
                rw [Array.getD_eq_getD_getElem?, Array.getElem?_setIfInBounds]
                split
                · split <;> rfl
                · rename_i he; exact absurd rfl he
              have hvac : ∀ L w, L.getD i true = true → Till (stores P ops) D L w := fun L w hL hall => by
                have := hall i hst
                rw [hL] at this
                cases this
              refine ⟨hvac _ _ (hlt listed), ?_⟩
              have := anyA_sound hG hQ hs n _ st' g' a' w' (fun _ => True) h' hR' (fun _ _ _ _ _ _ => trivial) fun st2 g2 a2 w2 hw2 => hK st2 g2 a2 w2 (hw2.trans hw0)
              exact wpAnyT.mono (I := fun L => L.getD i true = true) (fun L j hL => by
                by_cases hji : j = i
                · subst hji; exact hlt L
                · rw [getD_set_ne true hji]; exact hL) (fun L w hL _ => hvac L w hL) (hlt listed) this
            · split at h
              · exact addOp_sound hG h hR1 fun st' g' a' w' hle hext hR' h' => go st' g' a' w' h' hle (hext1.trans hext) hR'
              · split at h
                · obtain ⟨x, v, hk, hx, hrun⟩ := pureC_run h hR1
                  exact wp_val (hrun w) (go _ g _ w hk (.refl g) (hext1.put _ _) (hR1.value (.refl g) rfl hR1.mem o.dst hx))
                · obtain ⟨u, D', st', g', hk, hle, hext, hR', hrun, hcl⟩ := loadC_run h hR1
                  exact wp_val (hrun w (hcl st1 g w (.refl _) (.refl g) hR1.mem)) (go st' g' _ w hk hle (hext1.trans hext) hR')
          · rw [if_neg (by rw [hw]; simp)]
            exact go _ g _ w h (.refl g) (hext1.put _ _) (skip_rel hR1 o.dst)
end
end Go.Proofs.Ytpfjklmobjjgpaa.Sim
