/- A walk by reckoning: what goes over a call, and what comes back. -/
import Derived.Test.YtmbcnpbgcfiafaaGreatVmM
namespace Go.Proofs.YtmbcnpbgcfiafaaGreat.Vm
open Go Go.RowKit Go.Proofs.YtmbcnpbgcfiafaaGreatW.PrintWords
set_option linter.unusedVariables false
set_option linter.unusedSimpArgs false

def AL.map (fb fr : Nat → Option Nat) : AL → AL
  | .ptr b off =>
    match fb b with
    | some i => .ptr i off
    | none => .unk
  | .sl r =>
    match fr r with
    | some i => .sl i
    | none => .unk
  | .ept r sz i off =>
    match fr r with
    | some j => .ept j sz i off
    | none => .unk
  | .vw r sz lo hi =>
    match fr r with
    | some j => .vw j sz lo hi
    | none => .unk
  | .al r =>
    match fr r with
    | some j => .al j
    | none => .unk
  | .fn f caps =>
    match caps.mapM fun c => (fb c.1).map fun i => (i, c.2) with
    | some cs => .fn f cs
    | none => .unk
  | x => x
def A1.map (fb fr : Nat → Option Nat) : A1 → A1
  | .one x => .one (x.map fb fr)
  | .agg xs => .agg (xs.map (AL.map fb fr))
def AV.map (fb fr : Nat → Option Nat) : AV → AV
  | .s1 x => .s1 (x.map fb fr)
  | .tup xs => .tup (xs.map (A1.map fb fr))
structure Ren (g g' : Gh) (fb fr : Nat → Option Nat) : Prop where
  bx : ∀ {i b : Nat} {x : Nat}, fb b = some i → g.bx[b]? = some x → g'.bx[i]? = some x
  rw : ∀ {i r : Nat} {v : Value}, fr r = some i → g.rw[r]? = some v → g'.rw[i]? = some v
section
variable {g g' : Gh} {fb fr : Nat → Option Nat}
theorem caps_rel (h : Ren g g' fb fr) : ∀ {caps cs : List (Nat × Nat)} {us : List Value}, (caps.mapM fun c => (fb c.1).map fun i => (i, c.2)) = some cs →
    F2 (fun (x : Nat × Nat) u => ∃ blk, g.bx[x.1]? = some blk ∧ u = Value.pointer (some ⟨blk, x.2, none⟩)) caps us → F2 (fun (x : Nat × Nat) u => ∃ blk, g'.bx[x.1]? = some blk ∧ u = Value.pointer (some ⟨blk, x.2, none⟩)) cs us
  | [], cs, [], hc, _ => by
    simp at hc
    subst hc
    trivial
  | c :: caps, cs, u :: us, hc, hF => by
    rw [List.mapM_cons] at hc
    cases hb : fb c.1 with
    | none => rw [hb] at hc; simp at hc
    | some i =>
      rw [hb] at hc
      cases hm : (caps.mapM fun c => (fb c.1).map fun i => (i, c.2)) with
      | none => rw [hm] at hc; simp at hc
      | some ds =>
        rw [hm] at hc
        simp at hc
        subst hc
        obtain ⟨blk, h1, h2⟩ := hF.1
        exact ⟨⟨blk, h.bx hb h1, h2⟩, caps_rel h hm hF.2⟩
theorem AL.map_rel (h : Ren g g' fb fr) {x : AL} {v : Value} (hx : x.R g v) : (x.map fb fr).R g' v := by
  cases x with
  | unk => trivial
  | val u => exact hx
  | err b => exact hx
  | hs => exact hx
  | ptr b off =>
    obtain ⟨blk, hb, hv⟩ := hx
    unfold AL.map
    simp only
    split
    · rename_i i hi
      exact ⟨blk, h.bx hi hb, hv⟩
    · trivial
  | sl r =>
    unfold AL.map
    simp only
    split
    · rename_i i hi
      exact h.rw hi hx
    · trivial
  | ept r sz i off =>
    obtain ⟨ad, n, c, hr, h0, h1, hv⟩ := hx
    unfold AL.map
    simp only
    split
    · rename_i j hj
      exact ⟨ad, n, c, h.rw hj hr, h0, h1, hv⟩
    · trivial
  | vw r sz lo hi =>
    obtain ⟨A, n, c, A', hr, h0, h1, h2, h3, h4, h5, hv⟩ := hx
    unfold AL.map
    simp only
    split
    · rename_i j hj
      exact ⟨A, n, c, A', h.rw hj hr, h0, h1, h2, h3, h4, h5, hv⟩
    · trivial
  | al r =>
    obtain ⟨A, m, n, c, hr, h1, h2, hv⟩ := hx
    unfold AL.map
    simp only
    split
    · rename_i j hj
      exact ⟨A, m, n, c, h.rw hj hr, h1, h2, hv⟩
    · trivial
  | fn f caps =>
    obtain ⟨us, hv, hF⟩ := hx
    unfold AL.map
    simp only
    split
    · rename_i cs hc
      exact ⟨us, hv, caps_rel h hc hF⟩
    · trivial
theorem F2.map_ {α β : Type} {R R' : α → β → Prop} {f : α → α} (hf : ∀ x y, R x y → R' (f x) y) : ∀ {xs : List α} {ys : List β}, F2 R xs ys → F2 R' (xs.map f) ys
  | [], [], _ => trivial
  | _ :: _, _ :: _, h => ⟨hf _ _ h.1, F2.map_ hf h.2⟩
theorem A1.map_rel (h : Ren g g' fb fr) {x : A1} {v : Value} (hx : x.R g v) : (x.map fb fr).R g' v := by
  cases x with
  | one y => exact AL.map_rel h hx
  | agg xs =>
    obtain ⟨cs, e, hF⟩ := hx
    exact ⟨cs, e, F2.map_ (f := AL.map fb fr) (fun _ _ => AL.map_rel h) hF⟩
theorem AV.map_rel (h : Ren g g' fb fr) {x : AV} {v : Value} (hx : x.R g v) : (x.map fb fr).R g' v := by
  cases x with
  | s1 y => exact A1.map_rel h hx
  | tup xs =>
    obtain ⟨cs, e, hF⟩ := hx
    exact ⟨cs, e, F2.map_ (f := A1.map fb fr) (fun _ _ => A1.map_rel h) hF⟩
end

structure Res where
  rets : List A1
  boxes : List (TypeId × List AL)
  rows : List Row
structure Out where
  T : Type
  o : Option T
  res : T → Res
abbrev Fun2 := List AV → List (TypeId × List AL) → List Row → Option Out
structure Ent where
  muts : List Nat
  F : Fun2
  hd : Bool := false
  sh : Bool := false
abbrev Env := FuncId → Option Ent
def ownN : List Row → Nat
  | [] => 0
  | r :: rs =>
    match r.md with
    | .own => ownN rs + 1
    | .rop => ownN rs + 1
    | _ => 0
def Full (g : Gh) (w : World) : Prop := ∀ k, k < w.heap.size → g.tag k = none → (∀ b : Nat, g.bx[b]? ≠ some k) → g.fz k = w.heap[k]?
def retV : List Value → Value
  | [v] => v
  | vs => .tuple vs.toArray
def retA : List A1 → AV
  | [x] => .s1 x
  | xs => .tup xs
def Ends (N : Nat × Nat) (res : Res) (g : Gh) (e : Ending) (w' : World) : Prop :=
  ∃ g' vs, e = .returned (retV vs) ∧ g.ext N g' ∧ Mem res.boxes res.rows g' w' ∧ F2 (A1.R g') res.rets vs
structure Good (P : Program) (f : FuncId) (F : Fun2) : Prop where
  fn : ∃ fn, P.funcs[f]? = some fn ∧ (fn.name == "runtime.NumGoroutine") = false ∧ fn.body.isNone = false
  ok : ∀ (args : List AV) (bs : List (TypeId × List AL)) (rs : List Row) (out : Out) (t : out.T), F args bs rs = some out → out.o = some t → ∀ (g : Gh) (w : World) (vals : List Value), g.w0 = w → Mem bs rs g w → Full g w → F2 (AV.R g) args vals →
    Calls P f vals.toArray w (Ends (bs.length, ownN rs) (out.res t) g)
theorem retA_rel {g : Gh} {xs : List A1} {vs : List Value} (h : F2 (A1.R g) xs vs) : (retA xs).R g (retV vs) := by
  match xs, vs, h with
  | [], [], _ => exact ⟨#[], rfl, trivial⟩
  | [x], [v], h => exact h.1
  | x :: y :: xs, v :: u :: vs, h => exact ⟨_, rfl, by simpa using h⟩

def AL.bOf : AL → List Nat
  | .ptr b _ => [b]
  | .fn _ caps => caps.map (·.1)
  | _ => []
def AL.rOf : AL → List Nat
  | .sl r => [r]
  | .ept r _ _ _ => [r]
  | .vw r _ _ _ => [r]
  | _ => []
def A1.all : A1 → List AL
  | .one x => [x]
  | .agg xs => xs
def AV.all : AV → List AL
  | .s1 x => x.all
  | .tup xs => xs.flatMap A1.all
def addNew (us : List Nat) (i : Nat) : List Nat := if us.contains i then us else us ++ [i]
def fresh (us : List Nat) : Bool := (us.zipIdx.all fun x => us.idxOf? x.1 == some x.2)
theorem fresh_idx {us : List Nat} (h : fresh us = true) {i x : Nat} (hi : us[i]? = some x) : us.idxOf? x = some i := by
  unfold fresh at h
  rw [List.all_eq_true] at h
  have := h (x, i) (by rw [List.mem_zipIdx_iff_getElem?]; exact hi)
  simpa using this
theorem idx_get {us : List Nat} {i x : Nat} (h : us.idxOf? x = some i) : us[i]? = some x := by
  rw [List.idxOf?, List.findIdx?_eq_some_iff_getElem] at h
  obtain ⟨hl, he, _⟩ := h
  rw [List.getElem?_eq_getElem hl]
  simpa using he
def St.cellsOf (st : St) (bs : List Nat) : List AL := bs.flatMap fun b => ((st.boxes[b]?).map (·.2)).getD []
def St.reach (st : St) (us : List Nat) : Nat → List Nat
  | 0 => us
  | n + 1 => st.reach (((st.cellsOf us).flatMap AL.bOf).foldl addNew us) n
def lentL (muts : List Nat) (n : Nat) : List AL → List Nat
  | [] => []
  | .sl r :: xs => if muts.contains n then r :: lentL muts (n + 1) xs else lentL muts (n + 1) xs
  | _ :: xs => lentL muts (n + 1) xs
def St.ownOf (st : St) : List AL → List Nat
  | [] => []
  | .sl r :: xs =>
    match st.rows[r]? with
    | some row =>
      match row.md with
      | .dead => st.ownOf xs
      | _ => r :: st.ownOf xs
    | none => st.ownOf xs
  | _ :: xs => st.ownOf xs
def Md.canRead (R : List Nat) (r : Nat) : Md → Bool
  | .ro => true
  | .rop => true
  | .roh _ => true
  | .own => !R.contains r
  | .brw q => !R.contains q
  | .sub q _ _ _ => !R.contains q
  | .dead => false
theorem Md.canRead_of {R : List Nat} {r : Nat} {md : Md} (h : md.canRead R r = true) : md ≠ .dead ∧ (md.isRo = true ∨ R.contains (md.root r) = false) := by
  cases md with
  | ro => exact ⟨by simp, .inl rfl⟩
  | rop => exact ⟨by simp, .inl rfl⟩
  | roh _ => exact ⟨by simp, .inl rfl⟩
  | own => exact ⟨by simp, .inr (by simpa [Md.canRead, Md.root] using h)⟩
  | brw q => exact ⟨by simp, .inr (by simpa [Md.canRead, Md.root] using h)⟩
  | sub q _ _ _ => exact ⟨by simp, .inr (by simpa [Md.canRead, Md.root] using h)⟩
  | dead => cases h
def St.asRo (st : St) (R : List Nat) : AL → Option Row
  | .sl r =>
    match st.rows[r]? with
    | none => none
    | some row => if row.md.canRead R r = true then some ⟨row.e, row.s.norm, row.s.nrm row.xs, .ro⟩ else none
  | .vw r sz lo hi =>
    match st.rows[r]? with
    | none => none
    | some row => if row.md.canRead R r = true then if row.s.sz = sz then some ⟨row.e, row.s.norm, row.s.nrm ((row.xs.take hi.toNat).drop lo.toNat), .ro⟩ else none else none
  | _ => none
def St.gone (st : St) (r : Nat) : Bool :=
  match st.rows[r]? with
  | some row =>
    match row.md with
    | .dead => true
    | _ => false
  | none => false
def St.over (st : St) (B R : List Nat) (n : Nat) : AL → Option (AL × List Row)
  | .unk => some (.unk, [])
  | .val v => some (.val v, [])
  | .ptr b off => (B.idxOf? b).map fun i => (.ptr i off, [])
  | .fn f caps => (caps.mapM fun c => (B.idxOf? c.1).map fun i => (i, c.2)).map fun cs => (.fn f cs, [])
  | .sl r =>
    match R.idxOf? r with
    | some i => some (.sl i, [])
    | none =>
      match st.gone r with
      | true => some (.hs, [])
      | false => (st.asRo R (.sl r)).map fun row => (.sl n, [row])
  | .vw r sz lo hi => (st.asRo R (.vw r sz lo hi)).map fun row => (.sl n, [row])
  | .ept _ _ _ _ => none
  | .al _ => none
  | .err _ => none
  | .hs => some (.hs, [])
def St.overL (st : St) (B R : List Nat) (n : Nat) : List AL → Option (List AL × List Row)
  | [] => some ([], [])
  | x :: xs =>
    match st.over B R n x with
    | none => none
    | some (y, rs) =>
      match st.overL B R (n + rs.length) xs with
      | none => none
      | some (ys, qs) => some (y :: ys, rs ++ qs)
def St.overV (st : St) (B R : List Nat) (n : Nat) : List AV → Option (List AV × List Row)
  | [] => some ([], [])
  | .s1 (.one x) :: xs =>
    match st.over B R n x with
    | none => none
    | some (y, rs) =>
      match st.overV B R (n + rs.length) xs with
      | none => none
      | some (ys, qs) => some (.s1 (.one y) :: ys, rs ++ qs)
  | .s1 (.agg x) :: xs =>
    match st.overL B R n x with
    | none => none
    | some (y, rs) =>
      match st.overV B R (n + rs.length) xs with
      | none => none
      | some (ys, qs) => some (.s1 (.agg y) :: ys, rs ++ qs)
  | .tup _ :: _ => none
def St.overB (st : St) (B R : List Nat) (n : Nat) : List Nat → Option (List (TypeId × List AL) × List Row)
  | [] => some ([], [])
  | b :: bs =>
    match st.boxes[b]? with
    | none => none
    | some bc =>
      match st.overL B R n bc.2 with
      | none => none
      | some (y, rs) =>
        match st.overB B R (n + rs.length) bs with
        | none => none
        | some (ys, qs) => some ((bc.1, y) :: ys, rs ++ qs)
def Md.lend (R0 : List Nat) : Md → Option Md
  | .own => some .own
  | .ro => some .rop
  | .rop => some .rop
  | .roh _ => some .rop
  | .brw q => if R0.contains q = true then none else some .rop
  | .sub q _ _ _ => if R0.contains q = true then none else some .rop
  | .dead => none
def St.lentRows (st : St) (R0 : List Nat) : List Nat → Option (List Row)
  | [] => some []
  | r :: rs =>
    match st.rows[r]?, st.lentRows R0 rs with
    | some row, some ys => (row.md.lend R0).map fun md => { row with md := md } :: ys
    | _, _ => none
structure Mini where
  args : List AV
  boxes : List (TypeId × List AL)
  rows : List Row
  B : List Nat
  R : List Nat
def St.miniAt (st : St) (avs : List AV) (B R : List Nat) : Option Mini :=
  if fresh B = true ∧ fresh R = true then
    match st.lentRows R R with
    | none => none
    | some lr =>
      match st.overV B R lr.length avs with
      | none => none
      | some (as1, r1) =>
        match st.overB B R (lr.length + r1.length) B with
        | none => none
        | some (bs, r2) => some ⟨as1, bs, lr ++ (r1 ++ r2), B, R⟩
  else none
def St.miniB (st : St) (avs : List AV) : List Nat := st.reach (((avs.flatMap AV.all).flatMap AL.bOf).foldl addNew []) 3
def St.miniR (st : St) (muts : List Nat) (avs : List AV) (B : List Nat) : List Nat := (lentL muts 0 (avs.flatMap AV.all) ++ st.ownOf (st.cellsOf B)).foldl addNew []
def St.mini (st : St) (muts : List Nat) (avs : List AV) : Option Mini := st.miniAt avs (st.miniB avs) (st.miniR muts avs (st.miniB avs))
def lentOk : List Row → Bool
  | [] => true
  | r :: rs =>
    match r.md with
    | .own => r.s.deep && lentOk rs
    | .rop => lentOk rs
    | .dead => lentOk rs
    | _ => false
def allOwn : List Row → Bool
  | [] => true
  | r :: rs =>
    match r.md with
    | .own => r.s.deep && allOwn rs
    | _ => false
def Row.orOld (y r : Row) : Row :=
  match y.md with
  | .rop => r
  | _ => y
def setRows (R : List Nat) (news : List Row) (n : Nat) : List Row → List Row
  | [] => []
  | r :: rs =>
    (match R.idxOf? n with
    | some i => ((news[i]?).getD r).orOld r
    | none => r) :: setRows R news (n + 1) rs
def setBoxes (B : List Nat) (news : List (TypeId × List AL)) (n : Nat) : List (TypeId × List AL) → List (TypeId × List AL)
  | [] => []
  | r :: rs =>
    (match B.idxOf? n with
    | some i => news.getD i r
    | none => r) :: setBoxes B news (n + 1) rs
def backR (R : List Nat) (L : Nat) (i : Nat) : Option Nat := if i < R.length then R[i]? else some (L + (i - R.length))
def St.backAt (st : St) (m : Mini) (res : Res) : Option (St × List A1) :=
  if res.boxes.length = m.B.length ∧ m.R.length ≤ res.rows.length ∧ lentOk (res.rows.take m.R.length) = true ∧ allOwn (res.rows.drop m.R.length) = true then
    some (⟨st.tmps, setBoxes m.B (res.boxes.map fun b => (b.1, b.2.map (AL.map (fun i => m.B[i]?) (backR m.R st.rows.length)))) 0 st.boxes,
      setRows m.R (res.rows.take m.R.length) 0 (killed m.R 0 st.rows) ++ res.rows.drop m.R.length⟩,
      res.rets.map (A1.map (fun i => m.B[i]?) (backR m.R st.rows.length)))
  else none
end Go.Proofs.YtmbcnpbgcfiafaaGreat.Vm
