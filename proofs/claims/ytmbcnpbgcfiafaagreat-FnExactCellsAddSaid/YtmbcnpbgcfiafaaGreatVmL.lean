/- A walk by reckoning: structs and rows that are made, rows that are written and grown. -/
import Derived.Test.YtmbcnpbgcfiafaaGreatVmK
namespace Go.Proofs.YtmbcnpbgcfiafaaGreat.Vm
open Go Go.RowKit Go.Proofs.YtmbcnpbgcfiafaaGreatW.PrintWords
set_option linter.unusedVariables false
set_option linter.unusedSimpArgs false

section
variable (P : Program)
def shFields (f : TypeId → Option Sh) : List Field → Option Sh
  | [] => none
  | [x] => f x.type
  | x :: xs =>
    match f x.type, shFields f xs with
    | some a, some b => some (.pair a b)
    | _, _ => none
def shTy : Nat → TypeId → Option Sh
  | 0, _ => none
  | n + 1, t =>
    match P.underlying t with
    | some (.int k) => some (.int k)
    | some .bool => some .bool
    | some .string => some .str
    | some (.slice e) => (shTy n e).map (.sl e)
    | some (.struct fs) => shFields (shTy n) fs.toList
    | _ => none
def partsA (st : St) : List (Nat × Operand) → Option (List (Nat × List AL))
  | [] => some []
  | x :: rest =>
    match st.eval x.2 with
    | .s1 v => if v.cells.all st.firm = true then (partsA st rest).map fun r => (x.1, v.cells) :: r else none
    | .tup _ => none
def placesA : List Field → Option (List (Nat × Nat))
  | [] => some []
  | f :: fs =>
    match P.info? f.type, placesA fs with
    | some i, some r => some ((f.offset, i.size) :: r)
    | _, _ => none
def buildA (st : St) (t : TypeId) (parts : List (Nat × Operand)) : Option (List AL) :=
  match P.underlying t, (P.info? t).bind (·.zero) with
  | some (.struct fs), some z =>
    match placesA P fs.toList, partsA st parts with
    | some pl, some ps => fillA (fun i => pl[i]?) (z.cells.toList.map .val) ps
    | _, _ => none
  | _, _ => none
end
section
variable {P : Program} {st : St} {g : Gh} {a : Act} {w : World}
theorem partsA_rel (hR : Rel st g a w) : ∀ {l : List (Nat × Operand)} {ps : List (Nat × List AL)}, partsA st l = some ps → F2 (PartR g) ps (l.map fun x => (x.1, a.eval x.2))
  | [], ps, h => by
    simp only [partsA, Option.some.injEq] at h
    subst h
    trivial
  | x :: l, ps, h => by
    simp only [partsA] at h
    split at h
    · rename_i v hv
      split at h
      · rename_i hf
        obtain ⟨r, hr, rfl⟩ := Option.map_eq_some_iff.1 h
        have hx : v.R g (a.eval x.2) := by have := eval_rel hR.tmps x.2; rw [hv] at this; exact this
        exact ⟨⟨rfl, cells_rel hx fun y e => by
          subst e
          exact all_one hR.mem (xs := [y]) (vs := [a.eval x.2]) ⟨hx, trivial⟩ hf _ List.mem_cons_self⟩, partsA_rel hR hr⟩
      · cases h
    · cases h
theorem placesA_run : ∀ {fs : List Field} {ps : List (Nat × Nat)}, placesA P fs = some ps → ∀ w : World, (fs.mapM fun f => do pure (f.offset, ← sizeOf f.type) : Sem (List (Nat × Nat))).run P w = .ok ps w
  | [], ps, h, w => by
    simp only [placesA, Option.some.injEq] at h
    subst h
    rfl
  | f :: fs, ps, h, w => by
    simp only [placesA] at h
    split at h
    · rename_i i r hi hr
      simp only [Option.some.injEq] at h
      subst h
      have hs : (sizeOf f.type).run P w = .ok i.size w := by simp [sizeOf, typeInfo, hi]
      rw [List.mapM_cons]
      simp only [Sem.run_bind, hs, Result.andThen_ok, Sem.run_pure, placesA_run hr w]
    · cases h
theorem buildA_run (hR : Rel st g a w) {t : TypeId} {parts : Array (Nat × Operand)} {cs : List AL} (h : buildA P st t parts.toList = some cs) :
    ∃ vs : Array Value, F2 (AL.R g) cs vs.toList ∧ ∀ w, (Instr.build t (parts.map fun x => (x.1, a.eval x.2))).run P w = .ok (.agg vs) w := by
  unfold buildA at h
  split at h
  · rename_i fs z hu hz
    split at h
    · rename_i pl ps hpl hps
      obtain ⟨i, hi, hiz⟩ := Option.bind_eq_some_iff.1 hz
      obtain ⟨r', h1, h2, _⟩ := fill_rel (place := fun i => pl[i]?) (cells := z.cells) (F2.of_map (R := AL.R g) (f := AL.val) (fun y => rfl) z.cells.toList) (partsA_rel hR hps) h
      refine ⟨r', h2, fun w => ?_⟩
      have hm : (fs.mapM fun f => do pure (f.offset, ← sizeOf f.type) : Sem (Array (Nat × Nat))).run P w = .ok pl.toArray w := by
        have e : fs = fs.toList.toArray := by simp
        rw [e, List.mapM_toArray, map_eq_pure_bind, Sem.run_bind, placesA_run hpl]
        rfl
      have hp : (parts.map fun x => (x.1, a.eval x.2)).toList = parts.toList.map fun x => (x.1, a.eval x.2) := by simp
      have hzv : (zeroValue t).run P w = .ok z w := by simp [zeroValue, typeInfo, hi, hiz]
      unfold Instr.build
      simp only [Sem.run_bind, hzv, run_underlying hu, Result.andThen_ok, hm, hp]
      have h1' : Instr.fill (fun x => pl.toArray[x]?) z.cells (List.map (fun x => (x.1, a.eval x.2)) parts.toList) = some r' := by rw [← h1]; congr 1; funext i; simp
      simp only [h1']
      rfl
    · cases h
  · cases h
end

def litRow (st : St) (e : TypeId) (s : Sh) (n : Nat) (cs : List AL) : Option (AL × St) :=
  match mkAll st s n 0 cs with
  | some x => if mvOk x.2 = true then some (.sl st.rows.length, { st with rows := killed (x.2.map (·.1)) 0 st.rows ++ [⟨e, s, x.1, .own⟩] }) else none
  | none => none
section
variable (P : Program)
def litA (st : St) (t : TypeId) (n : Nat) (parts : List (Nat × Operand)) : Option (AL × St) :=
  match P.underlying t with
  | some (.slice e) =>
    match P.info? e, shTy P 20 e, partsA st parts with
    | some i, some s, some ps =>
      match i.zero with
      | some z =>
        if n * i.size ≤ 16777216 ∧ n ≤ 16777216 then
          match fillA (fun j => some (j * i.size, i.size)) ((List.range (n * i.size)).map fun j => AL.val (z.cells[j % z.cells.size]!)) ps with
          | some cs =>
            match litRow st e s n cs with
            | some y => some y
            | none => litRow st e s.shar n cs
          | none => none
        else none
      | none => none
    | _, _, _ => none
  | _ => none
end
section
variable {P : Program} {st st' : St} {g : Gh} {a : Act} {w : World}
theorem litRow_rel (hm : Mem st.boxes st.rows g w) {e : TypeId} {s : Sh} {n : Nat} {cs : List AL} {y : AL} (h : litRow st e s n cs = some (y, st')) (hn : n ≤ 16777216) {us : Array Value} (hF : F2 (AL.R g) cs us.toList) :
    ∃ g', g.le g' ∧ Mem st'.boxes st'.rows g' (w.alloc (.cells us e)) ∧ st'.tmps = st.tmps ∧ y.R g' (.slice (some ⟨w.heap.size, 0, none⟩) n n) := by
  unfold litRow at h
  split at h
  · rename_i x hx
    obtain ⟨xs, mv⟩ := x
    split at h
    · rename_i hok
      simp only [Option.some.injEq, Prod.mk.injEq] at h
      obtain ⟨rfl, rfl⟩ := h
      obtain ⟨g', hle, hrw, hm'⟩ := hm.lit (e := e) hx hok hF (by omega)
      refine ⟨g', hle, by simpa using hm', rfl, ?_⟩
      show g'.rw[st.rows.length]? = _
      rw [hrw, hm.rl]
      simp
    · cases h
  · cases h
theorem litA_run (hR : Rel st g a w) {t : TypeId} {n : Nat} {parts : Array (Nat × Operand)} {y : AL} (h : litA P st t n parts.toList = some (y, st')) :
    ∃ g' w' v, g.le g' ∧ Mem st'.boxes st'.rows g' w' ∧ st'.tmps = st.tmps ∧ y.R g' v ∧ (Instr.buildSlice t n (parts.map fun x => (x.1, a.eval x.2))).run P w = .ok v w' := by
  unfold litA at h
  split at h
  · rename_i e hu
    split at h
    · rename_i i s ps hi hs hps
      split at h
      · rename_i z hz
        split at h
        · rename_i hc
          split at h
          · rename_i cs hcs
            have hF0 : F2 (AL.R g) ((List.range (n * i.size)).map fun j => AL.val (z.cells[j % z.cells.size]!)) ((Array.range (n * i.size)).map (z.cells[· % z.cells.size]!)).toList := by
              rw [Array.toList_map, Array.toList_range]
              have : ∀ l : List Nat, F2 (AL.R g) (l.map fun j => AL.val (z.cells[j % z.cells.size]!)) (l.map fun j => z.cells[j % z.cells.size]!) := by
                intro l
                induction l with
                | nil => trivial
                | cons x l ih => exact ⟨rfl, ih⟩
              exact this _
            obtain ⟨r', h1, h2, _⟩ := fill_rel (place := fun j => some (j * i.size, i.size)) hF0 (partsA_rel hR hps) hcs
            obtain ⟨s', h⟩ : ∃ s', litRow st e s' n cs = some (y, st') := by
              split at h
              · rename_i y' hy'
                exact ⟨s, hy'.trans h⟩
              · exact ⟨_, h⟩
            obtain ⟨g', hle, hm, ht, hy⟩ := litRow_rel hR.mem h hc.2 h2
            refine ⟨g', _, _, hle, hm, ht, hy, ?_⟩
            have hzv : (zeroValue e).run P w = .ok z w := by simp [zeroValue, typeInfo, hi, hz]
            have hsz : (sizeOf e).run P w = .ok i.size w := by simp [sizeOf, typeInfo, hi]
            have hp : (parts.map fun x => (x.1, a.eval x.2)).toList = parts.toList.map fun x => (x.1, a.eval x.2) := by simp
            have hlim : ¬ (n * i.size > 2 ^ 24) := by have := hc.1; omega
            unfold Instr.buildSlice
            simp only [Sem.run_bind, run_underlying hu, Result.andThen_ok, hsz, if_neg hlim, Sem.run_pure, hp]
            by_cases h0 : n * i.size = 0
            · have he : ∀ f : Nat → Value, (Array.range 0).map f = #[] := by simp
              rw [h0, he] at h1
              simp only [h0, if_true, Sem.run_pure, Result.andThen_ok, he, h1]
              simp [newRow]
            · simp only [if_neg h0, Sem.run_bind, hzv, Result.andThen_ok, Sem.run_pure, h1]
              simp [newRow]
          · cases h
        · cases h
      · cases h
    · cases h
  · cases h


def makeRow (st : St) (e : TypeId) (s : Sh) (z : Value) (l : Nat) : Option (AL × St) :=
  match s.mk st 0 (z.cells.toList.map .val) with
  | some x =>
    match x.2.2 with
    | [] => some (.sl st.rows.length, { st with rows := st.rows ++ [⟨e, s, List.replicate l x.1, .own⟩] })
    | _ => none
  | none => none
theorem made_seg {z : Array Value} {sz l c i : Nat} (hz : z.size = sz) (hp : 0 < sz) (hi : i < l) (hlc : l ≤ c) : (((madeCells z (c * sz)).toList.take (l * sz)).drop (i * sz)).take sz = z.toList := by
  have h1 : i * sz + sz ≤ l * sz := by rw [← Nat.succ_mul]; exact Nat.mul_le_mul_right _ hi
  have h2 : l * sz ≤ c * sz := Nat.mul_le_mul_right _ hlc
  apply List.ext_getElem?
  intro j
  rw [List.getElem?_take]
  split
  · rename_i hj
    rw [List.getElem?_drop, List.getElem?_take, if_pos (by omega)]
    unfold madeCells
    rw [Array.toList_map, Array.toList_range, List.getElem?_map, List.getElem?_range (by omega)]
    simp only [Option.map_some]
    have : (i * sz + j) % z.size = j := by rw [hz, Nat.add_comm, Nat.add_mul_mod_self_right, Nat.mod_eq_of_lt hj]
    rw [this]
    have hjz : j < z.size := by omega
    simp [hjz]
  · rw [List.getElem?_eq_none]
    simp
    omega
theorem makeRow_rel {st st' : St} {g : Gh} {w : World} (hm : Mem st.boxes st.rows g w) {e : TypeId} {s : Sh} {z : Value} {l c : Nat} {y : AL} (h : makeRow st e s z l = some (y, st')) (hz : z.cells.size = s.sz) (hlc : l ≤ c) (hc : c ≤ 9223372036854775807) :
    ∃ g', g.le g' ∧ Mem st'.boxes st'.rows g' (w.alloc (.cells (madeCells z.cells (c * s.sz)) e)) ∧ st'.tmps = st.tmps ∧ y.R g' (.slice (some ⟨w.heap.size, 0, none⟩) l c) := by
  unfold makeRow at h
  split at h
  · rename_i x hx
    obtain ⟨x0, cs', mv⟩ := x
    simp only at h
    split at h
    · rename_i hmv
      simp only [Option.some.injEq, Prod.mk.injEq] at h
      obtain ⟨rfl, rfl⟩ := h
      have hb := below_alloc (Below.refl _ w) (.cells (madeCells z.cells (c * s.sz)) e)
      have hp := s.sz_pos
      let lab' : Lab := fun k => if k < w.heap.size then g.tag k else some (st.rows.length, [])
      have hls : l * s.sz ≤ c * s.sz := Nat.mul_le_mul_right _ hlc
      have hlen : (madeCells z.cells (c * s.sz)).toList.length = c * s.sz := by simp [size_madeCells]
      obtain ⟨g', hle, hrw, hm'⟩ := hm.turn (w1 := w.alloc (.cells (madeCells z.cells (c * s.sz)) e)) [] lab' (.slice (some ⟨w.heap.size, 0, none⟩) l c) ⟨e, s, List.replicate l x0, .own⟩ rfl
        (hm.st.below hb) (fun k x hk => by
          by_cases hlt : k < w.heap.size
          · have hk : (if k < w.heap.size then g.tag k else some (st.rows.length, [])) = some x := hk
            rw [if_pos hlt] at hk
            exact hm.dom hk
          · exact hm.fz_new (by omega))
        (fun k hk _ => ⟨hb.block k hk, if_pos hk⟩)
        ⟨fun k hk => by
          simp only [Value.ownBlock, Option.some.injEq] at hk
          subst hk
          exact if_neg (by omega),
         (madeCells z.cells (c * s.sz)).toList.take (l * s.sz),
         ⟨by rw [List.length_take, List.length_replicate, hlen]; exact Nat.min_eq_left hls, .inr ⟨w.heap.size, c, madeCells z.cells (c * s.sz), by rw [List.length_replicate], Nat.zero_le _, heap_alloc_new w _, by rw [List.length_replicate]; exact hlc, by simpa [maxLen] using hc, by simp [size_madeCells], by rw [List.length_replicate]⟩⟩,
         fun i x hi => by
          have hil : i < l := by have := (List.getElem?_eq_some_iff.1 hi).1; simpa using this
          have hx0 : x = x0 := by rw [List.getElem?_replicate, if_pos hil] at hi; exact (Option.some.inj hi).symm
          have hseg := made_seg (z := z.cells) hz hp hil hlc
          have := (mk_OE (w1 := w.alloc (.cells (madeCells z.cells (c * s.sz)) e)) (lab' := lab') (r := st.rows.length) (i := i) hm s 0 _ z.cells.toList x0 cs' [] hx (F2.of_map (R := AL.R g) (f := AL.val) (fun y => rfl) z.cells.toList) (fun q o hq => by simp at hq)).1
          rw [List.take_of_length_le (by simp [hz])] at this
          rw [hx0]
          show OE _ _ _ _ _ s _ _ _ ((((madeCells z.cells (c * s.sz)).toList.take (l * s.sz)).drop (i * s.sz)).take s.sz)
          rw [hseg]
          exact this⟩
      have hk : ∀ (n : Nat) (rs : List Row), killed [] n rs = rs := by
        intro n rs
        induction rs generalizing n with
        | nil => rfl
        | cons r rs ih => simp [killed, dies, ih]
      rw [hk] at hm'
      refine ⟨g', hle, hm', rfl, ?_⟩
      show g'.rw[st.rows.length]? = _
      rw [hrw, hm.rl]
      simp
    · cases h
  · cases h

def Md.isOwn : Md → Bool
  | .own => true
  | _ => false
def srcA (st : St) (e : TypeId) (s : Sh) : AL → Option (List s.den × Bool × Option Nat)
  | .val (.slice none 0 0) => some ([], true, none)
  | .sl q =>
    match st.rows[q]? with
    | none => none
    | some row =>
      match row.md with
      | .dead => none
      | md => (rowAs row s).map fun ys => (ys, md.isOwn && decide (row.e = e), some q)
  | .vw q sz lo hi =>
    match st.rows[q]? with
    | none => none
    | some row =>
      match row.md with
      | .dead => none
      | _ => if s.sz = sz then (rowAs row s).map fun ys => ((ys.take hi.toNat).drop lo.toNat, false, some q) else none
  | _ => none
structure HeadA where
  s : Sh
  xs : List s.den
  r : Option Nat
section
variable (P : Program)
def headA (st : St) (e : TypeId) : AL → Option HeadA
  | .val (.slice none 0 0) => (shTy P 20 e).map fun s => ⟨s, [], none⟩
  | .sl r =>
    match st.rows[r]? with
    | none => none
    | some row =>
      match row.md with
      | .own => if row.e = e then some ⟨row.s, row.xs, some r⟩ else none
      | _ => none
  | .vw r sz 0 hi =>
    match st.rows[r]? with
    | none => none
    | some row =>
      match row.md with
      | .own => if row.e = e then some ⟨row.s, row.xs.take hi.toNat, some r⟩ else none
      | _ => none
  | _ => none
def appendA (st : St) (t : TypeId) (x y : AL) : Option (Nat × AL × St) :=
  match P.underlying t with
  | some (.slice e) =>
    match P.info? e, headA P st e x with
    | some i, some h =>
      match i.zero, srcA st e h.s y with
      | some z, some ys =>
        if i.size = h.s.sz ∧ z.cells.size = h.s.sz ∧ 0 < i.bytes then
          if h.s.flat = true then some ((h.xs.length + ys.1.length) * i.bytes, .sl st.rows.length, { st with rows := killed h.r.toList 0 st.rows ++ [⟨e, h.s, h.xs ++ ys.1, .own⟩] })
          else if ys.2.1 = true ∧ h.r.getD st.rows.length ≠ ys.2.2.getD (st.rows.length + 1) then
            some ((h.xs.length + ys.1.length) * i.bytes, .sl st.rows.length, { st with rows := killed (h.r.toList ++ [ys.2.2.getD (st.rows.length + 1)]) 0 st.rows ++ [⟨e, h.s, h.xs ++ ys.1, .own⟩] })
          else none
        else none
      | _, _ => none
    | _, _ => none
  | _ => none
end
section
variable {P : Program} {st st' : St} {g : Gh} {a : Act} {w : World}
theorem srcA_rel (hm : Mem st.boxes st.rows g w) {s : Sh} {y : AL} {v : Value} (hy : y.R g v) {ys : List s.den} {own : Bool} {q : Option Nat} {e : TypeId} (h : srcA st e s y = some (ys, own, q)) :
    (∃ B d, v = .slice B ys.length d ∧ s.kd.C w B ys.length ys) ∧ (own = true → Own s e g.rz w 0 g.tag (q.getD (st.rows.length + 1)) [] v ys) := by
  unfold srcA at h
  split at h
  · simp only [Option.some.injEq, Prod.mk.injEq] at h
    obtain ⟨rfl, rfl, rfl⟩ := h
    obtain rfl : v = .slice none 0 0 := hy
    have ho : ∀ r, Own s e g.rz w 0 g.tag r [] (.slice none 0 0) ([] : List s.den) := fun r => Own.nil _ _ _ _ _ _ _ _
    obtain ⟨A, c, h1, h2, h3⟩ := (ho 0).reads (fun _ _ => hm.st.cell)
    exact ⟨⟨A, c, h1, h3⟩, fun _ => ho _⟩
  · rename_i q'
    split at h
    · cases h
    · rename_i row hrow
      have hv : g.rw[q']? = some v := hy
      split at h
      · cases h
      · rename_i md hd
        obtain ⟨xs, hxs, he⟩ := Option.map_eq_some_iff.1 h
        simp only [Prod.mk.injEq] at he
        obtain ⟨rfl, rfl, rfl⟩ := he
        obtain ⟨rfl, rfl⟩ := rowAs_eq hxs
        obtain ⟨A, c, h1, h2, h3, _⟩ := (hm.row hrow hv).reads hm.st hd
        refine ⟨⟨A, c, h1, h3⟩, fun ho => ?_⟩
        have := hm.row hrow hv
        unfold RowRel at this
        simp only [Bool.and_eq_true, decide_eq_true_eq] at ho
        obtain ⟨ho1, rfl⟩ := ho
        cases hmd : row.md with
        | ro => rw [hmd] at ho1; cases ho1
        | rop => rw [hmd] at ho1; cases ho1
        | roh _ => rw [hmd] at ho1; cases ho1
        | brw q => rw [hmd] at ho1; cases ho1
        | sub q _ _ _ => rw [hmd] at ho1; cases ho1
        | dead => exact absurd hmd hd
        | own =>
          rw [hmd] at this
          exact this
  · rename_i q' sz lo hi
    split at h
    · cases h
    · rename_i row hrow
      obtain ⟨A, n, c, A', hv, h0, h1, h2, h3, h4, _, rfl⟩ := hy
      split at h
      · cases h
      · rename_i hd
        split at h
        · rename_i hsz
          obtain ⟨xs, hxs, he⟩ := Option.map_eq_some_iff.1 h
          simp only [Prod.mk.injEq] at he
          obtain ⟨rfl, rfl, rfl⟩ := he
          obtain ⟨rfl, rfl⟩ := rowAs_eq hxs
          subst hsz
          obtain ⟨B, d, he, h5, h6, _⟩ := (hm.row hrow hv).reads hm.st hd
          injection he with he1 he2 he3
          subst he1; subst he2; subst he3
          obtain ⟨h7, h8⟩ := vw_reads (n := c) h6 h5 (lo := lo.toNat) (hi := hi.toNat) (by omega) (by omega) h4
          exact ⟨⟨A', _, by rw [← h7], h8⟩, fun ho => by cases ho⟩
        · cases h
  · cases h
theorem Own.take {s : Sh} {e : TypeId} {z w : World} {base : Nat} {lab : Lab} {r : Nat} {p : List Nat} {A : Option Addr} {n c m : Nat} {xs : List s.den} (h : Own s e z w base lab r p (.slice A n c) xs) (hm : m ≤ xs.length) : Own s e z w base lab r p (.slice A m c) (xs.take m) := by
  obtain ⟨h1, inner, h2, h3⟩ := h
  have hn : n = xs.length := by
    obtain ⟨A', c', he⟩ := own_slice h2
    injection he
  subst hn
  have hl : (xs.take m).length = m := by rw [List.length_take]; omega
  refine ⟨fun k hk => h1 k (by cases A <;> exact hk), inner.take (m * s.sz), by rw [hl]; exact own_take h2 hm, fun i x hx => ?_⟩
  have him : i < m := by have := (List.getElem?_eq_some_iff.1 hx).1; omega
  have hx' : xs[i]? = some x := by rwa [List.getElem?_take, if_pos him] at hx
  have hle : i * s.sz + s.sz ≤ m * s.sz := by rw [← Nat.succ_mul]; exact Nat.mul_le_mul_right _ him
  have e : ((inner.take (m * s.sz)).drop (i * s.sz)).take s.sz = (inner.drop (i * s.sz)).take s.sz := by
    rw [List.drop_take, List.take_take, Nat.min_eq_left (by omega)]
  rw [e]
  exact h3 i x hx'
theorem headA_rel (hm : Mem st.boxes st.rows g w) {e : TypeId} {x : AL} {v : Value} (hx : x.R g v) {h : HeadA} (hh : headA P st e x = some h) : Own h.s e g.rz w 0 g.tag (h.r.getD st.rows.length) [] v h.xs := by
  unfold headA at hh
  split at hh
  · obtain ⟨s, hs, rfl⟩ := Option.map_eq_some_iff.1 hh
    obtain rfl : v = .slice none 0 0 := hx
    exact Own.nil _ _ _ _ _ _ _ _
  · rename_i r
    split at hh
    · cases hh
    · rename_i row hrow
      split at hh
      · rename_i hmd
        split at hh
        · rename_i he
          simp only [Option.some.injEq] at hh
          subst hh
          subst he
          have := hm.row hrow (v := v) hx
          unfold RowRel at this
          rw [hmd] at this
          exact this
        · cases hh
      · cases hh
  · rename_i r sz hi
    split at hh
    · cases hh
    · rename_i row hrow
      obtain ⟨A, n, c, A', hv, h0, h1, h2, h3, h4, h40, rfl⟩ := hx
      split at hh
      · rename_i hmd
        split at hh
        · rename_i he
          simp only [Option.some.injEq] at hh
          subst hh
          subst he
          have := hm.row hrow hv
          unfold RowRel at this
          rw [hmd] at this
          have hn : n = row.xs.length := by
            obtain ⟨_, inner, h5, _⟩ := this
            obtain ⟨A', c', he⟩ := own_slice h5
            injection he
          rw [h40 rfl]
          exact Own.take this (by omega)
        · cases hh
      · cases hh
  · cases hh
theorem headA_none {e : TypeId} {x : AL} {v : Value} (hx : x.R g v) {h : HeadA} (hh : headA P st e x = some h) (hr : h.r = none) : v.ownBlock = none := by
  unfold headA at hh
  split at hh
  · obtain rfl : v = .slice none 0 0 := hx
    rfl
  · split at hh
    · cases hh
    · split at hh
      · split at hh
        · simp only [Option.some.injEq] at hh
          rw [← hh] at hr
          cases hr
        · cases hh
      · cases hh
  · split at hh
    · cases hh
    · split at hh
      · split at hh
        · simp only [Option.some.injEq] at hh
          rw [← hh] at hr
          cases hr
        · cases hh
      · cases hh
  · cases hh
theorem append_fin (hm : Mem st.boxes st.rows g w) {t ty e : TypeId} {i : TypeInfo} {zv : Value} {hd : HeadA} {v u : Value} {B : Option Addr} {d : Nat} {ys : List hd.s.den} (hu : P.underlying t = some (.slice e)) (hi : P.info? e = some i) (hz : i.zero = some zv) (hc1 : i.size = hd.s.sz) (hc2 : zv.cells.size = hd.s.sz) (hc3 : 0 < i.bytes)
    (hO : Own hd.s e g.rz w 0 g.tag (hd.r.getD st.rows.length) [] v hd.xs) (hnone : hd.r = none → v.ownBlock = none) (hB : u = .slice B ys.length d) (hC : hd.s.kd.C w B ys.length ys)
    (q' : Option Nat) (ids : List Nat) (hbb : (hd.xs.length + ys.length) * i.bytes ≤ 140737488355328) (hs : hd.s.flat = true ∨ (∃ q0, q' = some q0 ∧ q0 ≠ hd.r.getD st.rows.length ∧ Own hd.s e g.rz w 0 g.tag q0 [] u ys) ∨ (hd.s.shal = true ∧ hd.s.kd.C g.rz B ys.length ys ∧ Cle g.rz w))
    (h1 : ∀ r, hd.r = some r → ids.contains r = true) (h2 : ∀ r, q' = some r → ids.contains r = true) :
    ∃ g' w' v', g.le g' ∧ Mem st.boxes (killed ids 0 st.rows ++ [⟨e, hd.s, hd.xs ++ ys, .own⟩]) g' w' ∧ (AL.sl st.rows.length).R g' v' ∧ (Builtin.append_ #[t, t] ty #[v, u]).run P w = .ok v' w' := by
  obtain ⟨v', w', hr, hg, hown⟩ := append_run (n := st.rows.length) (ty := ty) hu hi hz hc1 hc2 hc3 hO hB hC (Nat.zero_le _) hbb hs
  have hvb : ∀ k, v.ownBlock = some k → g.tag k = some (hd.r.getD st.rows.length, []) := hO.1
  obtain ⟨g', hle, hrw, hm'⟩ := hm.turn (w1 := w') ids (relab st.rows.length (hd.r.getD st.rows.length) hd.xs.length q' w.heap.size g.tag) v' ⟨e, hd.s, hd.xs ++ ys, .own⟩ rfl
    ⟨hm.st.tab, hg.os.trans hm.st.os, hg.tape.trans hm.st.tape, hg.output.trans hm.st.output, Nat.le_trans hm.st.size hg.size, fun {k o} hk => by
      refine (hg.block k (hm.fz_lt hk) fun he => ?_).trans (hm.st.fz hk)
      have := hm.dom (hvb k he.symm)
      rw [this] at hk
      (cases hk), hm.st.rd⟩
    (fun k x hk => by
      unfold relab at hk
      split at hk
      · cases ht : g.tag k with
        | none => rw [ht] at hk; cases hk
        | some y => exact hm.dom ht
      · exact hm.fz_new (by omega))
    (fun k hk hids => by
      refine ⟨hg.block k hk fun he => ?_, ?_⟩
      · cases hr1 : hd.r with
        | none =>
          rw [hnone hr1] at he
          cases he
        | some r1 =>
          have := hids _ _ (hvb k he.symm)
          rw [hr1] at this
          rw [show (some r1 : Option Nat).getD st.rows.length = r1 from rfl, h1 r1 hr1] at this
          cases this
      · unfold relab
        rw [if_pos hk]
        cases ht : g.tag k with
        | none => rfl
        | some rm =>
          obtain ⟨r, m⟩ := rm
          simp only
          split
          · rename_i hr1
            cases hr2 : hd.r with
            | none => rw [hr1, hr2]; rfl
            | some r1 =>
              rw [hr2] at hr1
              have hr1 : r = r1 := hr1
              have := hids r m ht
              rw [hr1, h1 r1 hr2] at this
              cases this
          · split
            · rename_i hq
              have := hids r m ht
              rw [h2 r hq] at this
              cases this
            · rfl)
    hown
  refine ⟨g', w', v', hle, hm', ?_, hr⟩
  show g'.rw[st.rows.length]? = _
  rw [hrw, hm.rl]
  simp
theorem appendA_run (hm : Mem st.boxes st.rows g w) {t ty : TypeId} {x y : AL} {v u : Value} (hx : x.R g v) (hy : y.R g u) {b : Nat} {z : AL} (h : appendA P st t x y = some (b, z, st')) (hb : b ≤ 140737488355328) :
    ∃ g' w' v', g.le g' ∧ Mem st'.boxes st'.rows g' w' ∧ st'.tmps = st.tmps ∧ z.R g' v' ∧ (Builtin.append_ #[t, t] ty #[v, u]).run P w = .ok v' w' := by
  unfold appendA at h
  split at h
  · rename_i e hu
    split at h
    · rename_i i hd hi hhd
      split at h
      · rename_i zv ys hz hys
        obtain ⟨ys, own, q⟩ := ys
        split at h
        · rename_i hc
          obtain ⟨hc1, hc2, hc3⟩ := hc
          have hO := headA_rel hm hx hhd
          obtain ⟨⟨B, d, hB, hC⟩, hsrc⟩ := srcA_rel hm hy hys
          have fin := append_fin (ty := ty) (ys := ys) hm hu hi hz hc1 hc2 hc3 hO (headA_none hx hhd) hB hC
          split at h
          · rename_i hf
            simp only [Option.some.injEq, Prod.mk.injEq] at h
            obtain ⟨rfl, rfl, rfl⟩ := h
            obtain ⟨g', w', v', h1, h2, h3, h4⟩ := fin none hd.r.toList hb (.inl hf) (fun r hr => by simp [hr]) (fun r hr => by cases hr)
            exact ⟨g', w', v', h1, h2, rfl, h3, h4⟩
          · split at h
            · rename_i hno
              obtain ⟨hno1, hno2⟩ := hno
              simp only [Option.some.injEq, Prod.mk.injEq] at h
              obtain ⟨rfl, rfl, rfl⟩ := h
              obtain ⟨g', w', v', h1, h2, h3, h4⟩ := fin (some (q.getD (st.rows.length + 1))) (hd.r.toList ++ [q.getD (st.rows.length + 1)]) hb (.inr (.inl ⟨_, rfl, fun e => hno2 e.symm, hsrc hno1⟩)) (fun r hr => by simp [hr]) (fun r hr => by injection hr with hr; simp [hr])
              exact ⟨g', w', v', h1, h2, rfl, h3, h4⟩
            · cases h
        · cases h
      · cases h
    · cases h
  · cases h
end
end
end Go.Proofs.YtmbcnpbgcfiafaaGreat.Vm
