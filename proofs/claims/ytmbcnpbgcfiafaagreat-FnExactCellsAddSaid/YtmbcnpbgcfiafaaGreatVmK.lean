/- A walk by reckoning: literals, make, an element written. -/
import Derived.Test.YtmbcnpbgcfiafaaGreatVmJ
namespace Go.Proofs.YtmbcnpbgcfiafaaGreat.Vm
open Go Go.RowKit Go.Proofs.YtmbcnpbgcfiafaaGreatW.PrintWords
set_option linter.unusedVariables false
set_option linter.unusedSimpArgs false

theorem seg_fold (off : Nat) : ∀ (vs : List Value) (k : Nat) (cells : Array Value), off + k + vs.length ≤ cells.size →
    ((vs.zipIdx k).foldl (fun cs x => cs.setIfInBounds (off + x.2) x.1) cells).toList = cells.toList.take (off + k) ++ vs ++ cells.toList.drop (off + k + vs.length)
  | [], k, cells, _ => by simp
  | v :: vs, k, cells, h => by
    simp only [List.length_cons] at h
    rw [List.zipIdx_cons, List.foldl_cons, seg_fold off vs (k + 1) _ (by simp; omega)]
    rw [Array.toList_setIfInBounds, List.drop_set_of_lt (by omega)]
    rw [show off + (k + 1) = off + k + 1 from by omega, List.take_succ_eq_append_getElem (by simp; omega), List.take_set_of_le (Nat.le_refl _), List.getElem_set_self]
    simp [Nat.add_assoc, Nat.add_comm 1, Nat.add_left_comm 1]
def fillA (place : Nat → Option (Nat × Nat)) (cells : List AL) : List (Nat × List AL) → Option (List AL)
  | [] => some cells
  | (i, v) :: rest =>
    match place i with
    | none => none
    | some os => if v.length = os.2 ∧ os.1 + v.length ≤ cells.length then fillA place (cells.take os.1 ++ v ++ cells.drop (os.1 + v.length)) rest else none
def PartR (g : Gh) (x : Nat × List AL) (y : Nat × Value) : Prop := x.1 = y.1 ∧ F2 (AL.R g) x.2 y.2.cells.toList
theorem fill_rel {g : Gh} {place : Nat → Option (Nat × Nat)} : ∀ {parts : List (Nat × List AL)} {ps : List (Nat × Value)} {cellsA : List AL} {cells : Array Value} {r : List AL}, F2 (AL.R g) cellsA cells.toList → F2 (PartR g) parts ps → fillA place cellsA parts = some r →
    ∃ r' : Array Value, Instr.fill place cells ps = some r' ∧ F2 (AL.R g) r r'.toList ∧ r'.size = cells.size
  | [], [], cellsA, cells, r, h, _, hf => by
    simp only [fillA, Option.some.injEq] at hf
    subst hf
    exact ⟨cells, rfl, h, rfl⟩
  | (i, v) :: parts, (j, u) :: ps, cellsA, cells, r, h, hp, hf => by
    obtain ⟨⟨hij, hv⟩, hp⟩ := hp
    simp only at hij hv
    subst hij
    simp only [fillA] at hf
    unfold Instr.fill
    split at hf
    · cases hf
    · rename_i os hos
      obtain ⟨off, size⟩ := os
      split at hf
      · rename_i hc
        have hl := h.length
        have hl2 := hv.length
        simp at hl hl2
        have e : u.cells.zipIdx.foldl (fun cs x => cs.setIfInBounds (off + x.2) x.1) cells = (cells.toList.take off ++ u.cells.toList ++ cells.toList.drop (off + u.cells.size)).toArray := by
          apply Array.ext'
          have := seg_fold off u.cells.toList 0 cells (by simp; omega)
          rw [← Array.foldl_toList, Array.toList_zipIdx]
          simpa using this
        have hF := h.set3 hv off v.length
        obtain ⟨r', h1, h2, h3⟩ := fill_rel (cells := (cells.toList.take off ++ u.cells.toList ++ cells.toList.drop (off + u.cells.size)).toArray) (by rw [← hl2]; exact hF) hp hf
        refine ⟨r', ?_, h2, by rw [h3]; simp; omega⟩
        simp only [hos]
        rw [if_neg (by simp; omega)]
        rw [← h1]
        exact congrArg (fun c => Instr.fill place c ps) e
      · cases hf
def mkAll (st : St) (s : Sh) : Nat → Nat → List AL → Option (List s.den × List (Nat × (Nat × Nat)))
  | 0, _, cs =>
    match cs with
    | [] => some ([], [])
    | _ => none
  | n + 1, j, cs =>
    match s.mk st 0 cs with
    | none => none
    | some x =>
      match mkAll st s n (j + 1) x.2.1 with
      | none => none
      | some y => some (x.1 :: y.1, x.2.2.map (fun m => (m.1, (j, m.2))) ++ y.2)
theorem mkAll_OE {st : St} {g : Gh} {w w1 : World} (hm : Mem st.boxes st.rows g w) {lab' : Lab} {r : Nat} {s : Sh} :
    ∀ (n j : Nat) (cs : List AL) (us : List Value) (xs : List s.den) (mv : List (Nat × (Nat × Nat))), mkAll st s n j cs = some (xs, mv) → F2 (AL.R g) cs us → (∀ q i o, (q, (i, o)) ∈ mv → Moves g w w1 lab' r i [(q, o)]) →
      xs.length = n ∧ us.length = n * s.sz ∧ ∀ (i : Nat) (x : s.den), xs[i]? = some x → OE g.rz w1 0 lab' r s [j + i] 0 x ((us.drop (i * s.sz)).take s.sz)
  | 0, j, cs, us, xs, mv, h, hF, hv => by
    unfold mkAll at h
    split at h
    · simp only [Option.some.injEq, Prod.mk.injEq] at h
      obtain ⟨rfl, rfl⟩ := h
      exact ⟨rfl, by rw [Nat.zero_mul]; exact hF.length.symm, fun i x hx => by simp at hx⟩
    · cases h
  | n + 1, j, cs, us, xs, mv, h, hF, hv => by
    unfold mkAll at h
    split at h
    · cases h
    · rename_i x hx
      obtain ⟨x1, cs1, m1⟩ := x
      split at h
      · cases h
      · rename_i y hy
        obtain ⟨ys, m2⟩ := y
        simp only [Option.some.injEq, Prod.mk.injEq] at h
        obtain ⟨rfl, rfl⟩ := h
        obtain ⟨h1, h2⟩ := mk_OE hm s 0 cs us x1 cs1 m1 hx hF (i := j) (r := r) (lab' := lab') (fun q o hq => hv q j o (List.mem_append_left _ (List.mem_map.2 ⟨(q, o), hq, rfl⟩)) q o (by simp))
        obtain ⟨h3, h4, h5⟩ := mkAll_OE hm n (j + 1) cs1 (us.drop s.sz) ys m2 hy h2 (fun q i o hq => hv q i o (List.mem_append_right _ hq))
        have hlen : (us.take s.sz).length = s.sz := OE_len s _ _ _ _ h1
        refine ⟨by simp [h3], ?_, fun i x hi => ?_⟩
        · rw [List.length_drop] at h4
          rw [List.length_take] at hlen
          rw [Nat.succ_mul]
          omega
        · cases i with
          | zero =>
            simp at hi
            subst hi
            simpa using h1
          | succ i =>
            simp at hi
            have := h5 i x hi
            rw [List.drop_drop] at this
            rw [show j + (i + 1) = j + 1 + i from by omega, Nat.succ_mul, Nat.add_comm (i * s.sz)]
            exact this
def labLit (n size : Nat) (mv : List (Nat × (Nat × Nat))) (lab : Lab) : Lab := fun k =>
  if k < size then
    match lab k with
    | some (q, m) =>
      match mv.lookup q with
      | some jo => some (n, jo.1 :: jo.2 :: m)
      | none => some (q, m)
    | none => none
  else some (n, [])
def mvOk (mv : List (Nat × (Nat × Nat))) : Bool := mv.all fun x => mv.lookup x.1 == some x.2
theorem mvOk_get {mv : List (Nat × (Nat × Nat))} (h : mvOk mv = true) {q : Nat} {jo : Nat × Nat} (hq : (q, jo) ∈ mv) : mv.lookup q = some jo := by
  unfold mvOk at h
  rw [List.all_eq_true] at h
  simpa using h _ hq
theorem lookup_none {mv : List (Nat × (Nat × Nat))} {q : Nat} (h : (mv.map (·.1)).contains q = false) : mv.lookup q = none := by
  induction mv with
  | nil => rfl
  | cons x mv ih =>
    obtain ⟨a, b⟩ := x
    simp only [List.map_cons, List.contains_cons, Bool.or_eq_false_iff] at h
    rw [List.lookup_cons, h.1]
    exact ih h.2
theorem Mem.lit {st : St} {g : Gh} {w : World} (hm : Mem st.boxes st.rows g w) {e : TypeId} {s : Sh} {n : Nat} {cs : List AL} {us : List Value} {xs : List s.den} {mv : List (Nat × (Nat × Nat))} (h : mkAll st s n 0 cs = some (xs, mv)) (hok : mvOk mv = true) (hF : F2 (AL.R g) cs us) (hn : n ≤ 9223372036854775807) :
    ∃ g', g.le g' ∧ g'.rw = g.rw ++ [.slice (some ⟨w.heap.size, 0, none⟩) n n] ∧ Mem st.boxes (killed (mv.map (·.1)) 0 st.rows ++ [⟨e, s, xs, .own⟩]) g' (w.alloc (.cells us.toArray e)) := by
  have hb := below_alloc (Below.refl _ w) (.cells us.toArray e)
  obtain ⟨h1, h2, h3⟩ := mkAll_OE (w1 := w.alloc (.cells us.toArray e)) (lab' := labLit st.rows.length w.heap.size mv g.tag) (r := st.rows.length) hm n 0 cs us xs mv h hF (fun q i o hq q' o' hq' k m hk hl => by
    simp only [List.mem_singleton, Prod.mk.injEq] at hq'
    obtain ⟨rfl, rfl⟩ := hq'
    refine ⟨hb.block k hk, ?_⟩
    unfold labLit
    rw [if_pos hk, hl]
    simp only [mvOk_get hok hq]
    rfl)
  subst h1
  refine hm.turn (w1 := w.alloc (.cells us.toArray e)) (mv.map (·.1)) (labLit st.rows.length w.heap.size mv g.tag) _ ⟨e, s, xs, .own⟩ rfl (hm.st.below hb) (fun k x hk => ?_)
    (fun k hk hr => ⟨hb.block k hk, ?_⟩) ⟨fun k hk => ?_, us, ?_, fun i x hx => ?_⟩
  · unfold labLit at hk
    split at hk
    · cases hl : g.tag k with
      | none => rw [hl] at hk; cases hk
      | some y => exact hm.dom hl
    · exact hm.fz_new (by omega)
  · unfold labLit
    rw [if_pos hk]
    cases hl : g.tag k with
    | none => rfl
    | some qm =>
      obtain ⟨q, m⟩ := qm
      simp only [lookup_none (hr q m hl)]
  · simp only [Value.ownBlock, Option.some.injEq] at hk
    subst hk
    unfold labLit
    rw [if_neg (by omega)]
  · have := World.ownsRow_lit (base := 0) (e := e) (size := s.sz) w us.toArray xs.length (Nat.zero_le _) (by simpa [maxLen] using hn) (by simpa using h2)
    simpa using this
  · simpa using h3 i x hx

def Sh.put (st : St) : (s : Sh) → s.den → Nat → Nat → Nat → List AL → Option (s.den × List (Nat × Nat))
  | .pair a b, x, o, off, n, cs =>
    if off = 0 ∧ n = a.sz + b.sz then ((Sh.pair a b).mk st o cs).map fun y => (y.1, y.2.2)
    else if off + n ≤ a.sz then (a.put st x.1 o off n cs).map fun y => ((y.1, x.2), y.2)
    else if a.sz ≤ off then (b.put st x.2 (o + a.sz) (off - a.sz) n cs).map fun y => ((x.1, y.1), y.2)
    else none
  | .int k, _, o, off, n, cs => if off = 0 ∧ n = 1 then ((Sh.int k).mk st o cs).map fun y => (y.1, y.2.2) else none
  | .bool, _, o, off, n, cs => if off = 0 ∧ n = 1 then (Sh.bool.mk st o cs).map fun y => (y.1, y.2.2) else none
  | .str, _, o, off, n, cs => if off = 0 ∧ n = 1 then (Sh.str.mk st o cs).map fun y => (y.1, y.2.2) else none
  | .sl e s, _, o, off, n, cs => if off = 0 ∧ n = 1 then ((Sh.sl e s).mk st o cs).map fun y => (y.1, y.2.2) else none
  | .rs e s, _, o, off, n, cs => if off = 0 ∧ n = 1 then ((Sh.rs e s).mk st o cs).map fun y => (y.1, y.2.2) else none
  | .hr e s, _, o, off, n, cs => if off = 0 ∧ n = 1 then ((Sh.hr e s).mk st o cs).map fun y => (y.1, y.2.2) else none
  | .hv, _, o, off, n, cs => if off = 0 ∧ n = 1 then (Sh.hv.mk st o cs).map fun y => (y.1, y.2.2) else none
theorem put_OE {st : St} {g : Gh} {w w1 : World} (hm : Mem st.boxes st.rows g w) {lab' : Lab} {r i : Nat} :
    ∀ (s : Sh) (x : s.den) (o off n : Nat) (cs : List AL) (old us : List Value) (y : s.den) (mv : List (Nat × Nat)), s.put st x o off n cs = some (y, mv) → F2 (AL.R g) cs us → us.length = n → OE g.rz w1 0 lab' r s [i] o x old → Moves g w w1 lab' r i mv →
      off + n ≤ s.sz ∧ OE g.rz w1 0 lab' r s [i] o y (old.take off ++ us ++ old.drop (off + n)) := by
  have whole : ∀ (s : Sh) (x : s.den) (o off n : Nat) (cs : List AL) (old us : List Value) (y : s.den) (mv : List (Nat × Nat)), (if off = 0 ∧ n = s.sz then (s.mk st o cs).map fun y => (y.1, y.2.2) else none) = some (y, mv) → F2 (AL.R g) cs us → us.length = n → OE g.rz w1 0 lab' r s [i] o x old → Moves g w w1 lab' r i mv →
      off + n ≤ s.sz ∧ OE g.rz w1 0 lab' r s [i] o y (old.take off ++ us ++ old.drop (off + n)) := by
    intro s x o off n cs old us y mv h hF hl ho hv
    split at h
    · rename_i hc
      obtain ⟨rfl, rfl⟩ := hc
      obtain ⟨z, hz, he⟩ := Option.map_eq_some_iff.1 h
      obtain ⟨z1, z2, z3⟩ := z
      simp only [Prod.mk.injEq] at he
      obtain ⟨rfl, rfl⟩ := he
      have := (mk_OE hm s o cs us z1 z2 z3 hz hF hv).1
      have hol := OE_len s _ _ _ _ ho
      refine ⟨by omega, ?_⟩
      rw [List.take_of_length_le (by omega)] at this
      simpa [List.drop_of_length_le (show old.length ≤ 0 + s.sz by omega), List.drop_of_length_le (show old.length ≤ s.sz by omega)] using this
    · cases h
  intro s
  induction s with
  | int k => exact whole (.int k)
  | bool => exact whole .bool
  | str => exact whole .str
  | sl e s _ => exact whole (.sl e s)
  | rs e s _ => exact whole (.rs e s)
  | hr e s _ => exact whole (.hr e s)
  | hv => exact whole .hv
  | pair a b iha ihb =>
    intro x o off n cs old us y mv h hF hl ho hv
    have h' : (if off = 0 ∧ n = a.sz + b.sz then ((Sh.pair a b).mk st o cs).map fun y => (y.1, y.2.2)
      else if off + n ≤ a.sz then (a.put st x.1 o off n cs).map fun y => ((y.1, x.2), y.2)
      else if a.sz ≤ off then (b.put st x.2 (o + a.sz) (off - a.sz) n cs).map fun y => ((x.1, y.1), y.2)
      else none) = some (y, mv) := h
    by_cases hc : off = 0 ∧ n = a.sz + b.sz
    · rw [if_pos hc] at h'
      exact whole (.pair a b) x o off n cs old us y mv (by rw [if_pos (show off = 0 ∧ n = (Sh.pair a b).sz from hc)]; exact h') hF hl ho hv
    · rw [if_neg hc] at h'
      obtain ⟨c0, c1, rfl, h0, h1⟩ := ho
      have l0 := OE_len a _ _ _ _ h0
      have l1 := OE_len b _ _ _ _ h1
      split at h'
      · rename_i hle
        obtain ⟨z, hz, he⟩ := Option.map_eq_some_iff.1 h'
        obtain ⟨z1, z2⟩ := z
        have he1 : (z1, x.2) = y := congrArg Prod.fst he
        have he2 : z2 = mv := congrArg Prod.snd he
        subst he1; subst he2
        obtain ⟨_, h2⟩ := iha x.1 o off n cs c0 us z1 z2 hz hF hl h0 hv
        refine ⟨by simp only [Sh.sz]; omega, ⟨c0.take off ++ us ++ c0.drop (off + n), c1, ?_, h2, h1⟩⟩
        rw [List.take_append_of_le_length (by omega), List.drop_append_of_le_length (by omega)]
        simp [List.append_assoc]
      · split at h'
        · rename_i hge
          obtain ⟨z, hz, he⟩ := Option.map_eq_some_iff.1 h'
          obtain ⟨z1, z2⟩ := z
          have he1 : (x.1, z1) = y := congrArg Prod.fst he
          have he2 : z2 = mv := congrArg Prod.snd he
          subst he1; subst he2
          obtain ⟨h3, h2⟩ := ihb x.2 (o + a.sz) (off - a.sz) n cs c1 us z1 z2 hz hF hl h1 hv
          refine ⟨by simp only [Sh.sz]; omega, ⟨c0, c1.take (off - a.sz) ++ us ++ c1.drop (off - a.sz + n), ?_, h0, h2⟩⟩
          rw [List.take_append, List.take_of_length_le (by omega), List.drop_append, List.drop_of_length_le (by omega), l0]
          simp [List.append_assoc, show off + n - a.sz = off - a.sz + n from by omega]
        · cases h'

theorem put_lt {st : St} : ∀ (s : Sh) (x : s.den) (o off : Nat) (cs : List AL) {y : s.den × List (Nat × Nat)}, s.put st x o off 1 cs = some y → off < s.sz
  | .int k, x, o, off, cs, y, h => by
    unfold Sh.put at h
    split at h
    · rename_i hc; rw [hc.1]; exact Sh.sz_pos _
    · cases h
  | .bool, x, o, off, cs, y, h => by
    unfold Sh.put at h
    split at h
    · rename_i hc; rw [hc.1]; exact Sh.sz_pos _
    · cases h
  | .hr e s, x, o, off, cs, y, h => by
    unfold Sh.put at h
    split at h
    · rename_i hc; rw [hc.1]; exact Sh.sz_pos _
    · cases h
  | .hv, x, o, off, cs, y, h => by
    unfold Sh.put at h
    split at h
    · rename_i hc; rw [hc.1]; exact Sh.sz_pos _
    · cases h
  | .str, x, o, off, cs, y, h => by
    unfold Sh.put at h
    split at h
    · rename_i hc; rw [hc.1]; exact Sh.sz_pos _
    · cases h
  | .sl e s, x, o, off, cs, y, h => by
    unfold Sh.put at h
    split at h
    · rename_i hc; rw [hc.1]; exact Sh.sz_pos _
    · cases h
  | .rs e s, x, o, off, cs, y, h => by
    unfold Sh.put at h
    split at h
    · rename_i hc; rw [hc.1]; exact Sh.sz_pos _
    · cases h
  | .pair a b, x, o, off, cs, y, h => by
    have ha := a.sz_pos
    have hb := b.sz_pos
    show off < a.sz + b.sz
    unfold Sh.put at h
    split at h
    · omega
    · split at h
      · omega
      · split at h
        · obtain ⟨z, hz, _⟩ := Option.map_eq_some_iff.1 h
          have := put_lt b _ _ _ _ hz
          omega
        · cases h
def labPut (r i : Nat) (mv : List (Nat × Nat)) (lab : Lab) : Lab := fun k =>
  match lab k with
  | some (q, m) =>
    match mv.lookup q with
    | some o => some (r, i :: o :: m)
    | none => some (q, m)
  | none => none
def mvOk1 (mv : List (Nat × Nat)) : Bool := mv.all fun x => mv.lookup x.1 == some x.2
theorem mvOk1_get {mv : List (Nat × Nat)} (h : mvOk1 mv = true) {q o : Nat} (hq : (q, o) ∈ mv) : mv.lookup q = some o := by
  unfold mvOk1 at h
  rw [List.all_eq_true] at h
  simpa using h _ hq
theorem lookup_none1 {mv : List (Nat × Nat)} {q : Nat} (h : (mv.map (·.1)).contains q = false) : mv.lookup q = none := by
  induction mv with
  | nil => rfl
  | cons x mv ih =>
    obtain ⟨a, b⟩ := x
    simp only [List.map_cons, List.contains_cons, Bool.or_eq_false_iff] at h
    rw [List.lookup_cons, h.1]
    exact ih h.2
theorem seg_get {α : Type} {cs us : List α} {o : Nat} (ho : o + us.length ≤ cs.length) (a n : Nat) (h : a + n ≤ o ∨ o + us.length ≤ a) : ((cs.take o ++ us ++ cs.drop (o + us.length)).drop a).take n = (cs.drop a).take n := by
  apply List.ext_getElem?
  intro j
  rw [List.getElem?_take, List.getElem?_take]
  split
  · rename_i hj
    rw [List.getElem?_drop, List.getElem?_drop]
    rcases h with h | h
    · rw [List.append_assoc, List.getElem?_append_left (by rw [List.length_take]; omega), List.getElem?_take, if_pos (by omega)]
    · rw [List.getElem?_append_right (by simp; omega), List.getElem?_drop]
      congr 1
      simp
      omega
  · rfl
theorem seg_at {α : Type} {cs us : List α} {o : Nat} (ho : o + us.length ≤ cs.length) (j : Nat) :
    (cs.take o ++ us ++ cs.drop (o + us.length))[j]? = if j < o then cs[j]? else if j < o + us.length then us[j - o]? else cs[j]? := by
  rw [List.append_assoc, List.getElem?_append, List.length_take, Nat.min_eq_left (by omega)]
  split
  · rename_i h
    rw [List.getElem?_take, if_pos h]
  · rename_i h
    rw [List.getElem?_append]
    by_cases h2 : j < o + us.length
    · rw [if_pos (by omega), if_pos h2]
    · rw [if_neg (by omega), if_neg h2, List.getElem?_drop]
      congr 1
      omega
theorem seg_in {α : Type} {cs us : List α} {o : Nat} (ho : o + us.length ≤ cs.length) (a n off : Nat) (h1 : o = a + off) (h2 : off + us.length ≤ n) (h3 : a + n ≤ cs.length) :
    ((cs.take o ++ us ++ cs.drop (o + us.length)).drop a).take n = ((cs.drop a).take n).take off ++ us ++ ((cs.drop a).take n).drop (off + us.length) := by
  apply List.ext_getElem?
  intro j
  rw [seg_at (cs := (cs.drop a).take n) (by rw [List.length_take, List.length_drop]; omega), List.getElem?_take, List.getElem?_drop, seg_at ho, List.getElem?_take, List.getElem?_drop]
  subst h1
  by_cases c1 : j < n
  · rw [if_pos c1, if_pos c1]
    by_cases c2 : j < off
    · rw [if_pos (by omega), if_pos c2]
    · rw [if_neg (by omega), if_neg c2]
      by_cases c3 : j < off + us.length
      · rw [if_pos (by omega), if_pos c3]
        congr 1
        omega
      · rw [if_neg (by omega), if_neg c3]
  · rw [if_neg c1, if_neg c1, if_neg (by omega), if_neg (by omega)]
theorem seg_take {α : Type} {cs us : List α} {o : Nat} (N : Nat) (h : o + us.length ≤ N) (hN : N ≤ cs.length) :
    (cs.take o ++ us ++ cs.drop (o + us.length)).take N = (cs.take N).take o ++ us ++ (cs.take N).drop (o + us.length) := by
  apply List.ext_getElem?
  intro j
  rw [seg_at (cs := cs.take N) (by rw [List.length_take]; omega), List.getElem?_take, seg_at (by omega), List.getElem?_take]
  by_cases c1 : j < N
  · rw [if_pos c1, if_pos c1]
  · rw [if_neg c1, if_neg c1, if_neg (by omega), if_neg (by omega)]
theorem Mem.setElem {P : Program} {st : St} {g : Gh} {w : World} (hm : Mem st.boxes st.rows g w) {r : Nat} {row : Row} (hrow : st.rows[r]? = some row) (hmd : row.md = .own) {ad : Addr} {len cap : Nat} (hv : g.rw[r]? = some (.slice (some ad) len cap)) {i off n : Nat} (hi : i < len)
    {cs : List AL} {us : List Value} {y : row.s.den} {mv : List (Nat × Nat)} (hput : row.s.put st (row.at_ i) 0 off n cs = some (y, mv)) (hok : mvOk1 mv = true) (hr : (mv.map (·.1)).contains r = false) (hF : F2 (AL.R g) cs us) (hn : us.length = n) (hone : ∀ u ∈ us, u.oneCell' = true) :
    ∃ w' g', g.le g' ∧ (storeCells (ad.add (i * row.s.sz + off)) us).run P w = .ok () w' ∧
      Mem st.boxes ((killed (r :: mv.map (·.1)) 0 st.rows).set r { row with xs := row.xs.set i y }) g' w' := by
  have ho := hm.row hrow hv
  unfold RowRel at ho
  rw [hmd] at ho
  obtain ⟨hvo, inner, hown, hel⟩ := ho
  rcases hown.2 with ⟨he, _⟩ | ⟨gb, cap', cur, he, hbg, hh, hc1, hc2, hcs, htk⟩
  · cases he
  injection he with he1 he2 he3
  injection he1 with he1
  subst he1; subst he2; subst he3
  have hsz := row.s.sz_pos
  have hlab : g.tag gb = some (r, []) := hvo gb rfl
  have hx : row.xs[i]? = some (row.at_ i) := by
    unfold Row.at_
    rw [List.getD_eq_getElem?_getD, Int.toNat_natCast, List.getElem?_eq_getElem hi]
    rfl
  have hil : inner.length = row.xs.length * row.s.sz := hown.1
  have hbnd : i * row.s.sz + row.s.sz ≤ row.xs.length * row.s.sz := by rw [← Nat.succ_mul]; exact Nat.mul_le_mul_right _ hi
  let w' := w.setRow gb (cur.toList.take (i * row.s.sz + off) ++ us ++ cur.toList.drop (i * row.s.sz + off + us.length)).toArray
  have hother : ∀ k, k ≠ gb → w'.heap[k]? = w.heap[k]? := fun k hk => setRow_other w gb k _ hk
  let lab' := labPut r i mv g.tag
  have hmove : Moves g w w' lab' r i mv := by
    intro q o hq k m hk hl
    refine ⟨hother k fun e => ?_, ?_⟩
    · rw [e, hlab] at hl
      injection hl with hl
      injection hl with hl _
      subst hl
      have : (mv.map (·.1)).contains r = true := by rw [List.contains_iff_mem]; exact List.mem_map.2 ⟨(r, o), hq, rfl⟩
      rw [this] at hr
      cases hr
    · show labPut r i mv g.tag k = _
      unfold labPut
      rw [hl]
      simp only [mvOk1_get hok hq]
      rfl
  have hstay : ∀ k m, g.tag k = some (r, m) → lab' k = some (r, m) := by
    intro k m hl
    show labPut r i mv g.tag k = _
    unfold labPut
    rw [hl]
    simp only [lookup_none1 hr]
  have hOE : ∀ (j : Nat) (x : row.s.den) (c : List Value), OE g.rz w 0 g.tag r row.s ([] ++ [j]) 0 x c → OE g.rz w' 0 lab' r row.s ([] ++ [j]) 0 x c := fun j x c h =>
    OE_move (q := [j]) (q' := [j]) (fun k m hk _ hl => ⟨hother k (fun e => by rw [e, hlab] at hl; injection hl with hl; injection hl with _ hl; cases hl), hstay k _ hl⟩) (Nat.le_refl _) (fun _ _ h => h) row.s [] 0 x c h
  obtain ⟨hoff, hnew⟩ := put_OE hm row.s (row.at_ i) 0 off n cs ((inner.drop (i * row.s.sz)).take row.s.sz) us y mv hput hF hn (w1 := w') (lab' := lab') (r := r) (i := i) (hOE i _ _ (hel i _ hx)) hmove
  have hcur : cur.toList.length = cap * row.s.sz := by simpa using hcs
  have hcap : row.xs.length * row.s.sz ≤ cap * row.s.sz := Nat.mul_le_mul_right _ hc1
  have hrun := run_storeCells_at (P := P) gb (i * row.s.sz + off) row.e us 0 cur w hh (by rw [← Array.length_toList, hcur]; omega) hone
  simp only [Nat.add_zero] at hrun
  have hin : (cur.toList.take (i * row.s.sz + off) ++ us ++ cur.toList.drop (i * row.s.sz + off + us.length)).take (row.xs.length * row.s.sz) = inner.take (i * row.s.sz + off) ++ us ++ inner.drop (i * row.s.sz + off + us.length) := by
    rw [← htk]
    exact seg_take _ (by omega) (by omega)
  refine ⟨w', ⟨g.bx, g.rw, lab', g.wz, g.lent, g.w0, g.rz⟩, ⟨fun h => h, fun h => h, rfl, fun h => h, fun h => h, fun h => .inl h⟩, ?_, hm.bl, fun {b t cs' blk} h1 h2 => ?_, fun {b blk} h1 => ?_, hm.inj, by simp [killed_length, hm.rl], fun {r' row' v'} h1 h2 => ?_, ⟨hm.st.tab, hm.st.os, hm.st.tape, hm.st.output, by show _ ≤ (w.setRow gb _).heap.size; rw [setRow_size]; exact hm.st.size, fun {k o} hk => ?_, hm.st.rd⟩, fun {k x} hk => ?_⟩
  · rw [add_plain]
    exact hrun
  · obtain ⟨vs, hh', hF'⟩ := hm.box h1 h2
    refine ⟨vs, ?_, hF'.imp fun _ _ => AL.R_le ⟨fun h => h, fun h => h, rfl, fun h => h, fun h => h, fun h => .inl h⟩⟩
    rw [hother blk fun e => by have := (hm.free h2).1; rw [e, hlab] at this; cases this]
    exact hh'
  · refine ⟨?_, (hm.free h1).2⟩
    show labPut r i mv g.tag blk = none
    unfold labPut
    rw [(hm.free h1).1]
  · by_cases e : r' = r
    · subst e
      have hlt : r' < (killed (r' :: mv.map (·.1)) 0 st.rows).length := by rw [killed_length]; exact (List.getElem?_eq_some_iff.1 hrow).1
      rw [List.getElem?_set_self hlt] at h1
      injection h1 with h1
      subst h1
      rw [hv] at h2
      injection h2 with h2
      subst h2
      unfold RowRel
      simp only [hmd]
      refine ⟨fun k hk => hstay k _ (hvo k hk), inner.take (i * row.s.sz + off) ++ us ++ inner.drop (i * row.s.sz + off + us.length), ⟨?_, .inr ⟨gb, cap, _, by rw [List.length_set], hbg, setRow_heap w gb cur _ _ _ hh, by rw [List.length_set]; exact hc1, hc2, ?_, ?_⟩⟩, fun j x hj => ?_⟩
      · simp [hil]
        omega
      · simp [hcur]
        omega
      · rw [List.length_set]
        simpa using hin
      · by_cases ej : j = i
        · subst ej
          rw [List.getElem?_set_self hi] at hj
          injection hj with hj
          subst hj
          rw [seg_in (by omega) (j * row.s.sz) row.s.sz off rfl (by omega) (by omega), hn]
          exact hnew
        · rw [List.getElem?_set_ne (Ne.symm ej)] at hj
          rw [seg_get (by omega)]
          · exact hOE j x _ (hel j x hj)
          · rcases Nat.lt_or_gt_of_ne ej with hlt' | hgt
            · left
              have : j * row.s.sz + row.s.sz ≤ i * row.s.sz := by rw [← Nat.succ_mul]; exact Nat.mul_le_mul_right _ hlt'
              omega
            · right
              have : i * row.s.sz + row.s.sz ≤ j * row.s.sz := by rw [← Nat.succ_mul]; exact Nat.mul_le_mul_right _ hgt
              omega
    · rw [List.getElem?_set_ne (Ne.symm e)] at h1
      obtain ⟨row0, h3, h4⟩ := killed_get _ 0 st.rows h1
      rcases h4 with h4 | ⟨hc, rfl⟩
      · unfold RowRel
        rw [h4]
        exact (hm.row h3 h2).slice
      · rw [List.contains_cons, Bool.or_eq_false_iff, Nat.zero_add] at hc
        refine (hm.row h3 h2).move rfl (fun h => h) (fun h => h) fun k m hro hk hl => ⟨?_, hother k fun e2 => ?_⟩
        · show labPut r i mv g.tag k = _
          unfold labPut
          rw [hl]
          simp only [lookup_none1 (hc hro).2]
        · rw [e2, hlab] at hl
          injection hl with hl
          injection hl with hl _
          have := (hc hro).1
          rw [← hl] at this
          simp at this
  · have hk' : g.fz k = some o := hk
    exact (hother k (fun e => by have := hm.dom hlab; rw [e, this] at hk'; cases hk')).trans (hm.st.fz hk')
  · have hk' : labPut r i mv g.tag k = some x := hk
    unfold labPut at hk'
    cases hl : g.tag k with
    | none => rw [hl] at hk'; cases hk'
    | some y => exact hm.dom hl
end Go.Proofs.YtmbcnpbgcfiafaaGreat.Vm
