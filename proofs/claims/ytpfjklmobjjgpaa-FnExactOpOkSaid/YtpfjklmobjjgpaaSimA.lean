/- A walk by reckoning: the abstract state of a call (what its slots, its own structs and its own rows hold), and what it says of the machine's. -/
import Derived.Test.YtpfjklmobjjgpaaSimO
namespace Go.Proofs.Ytpfjklmobjjgpaa.Sim
open Go Go.RowKit Go.Proofs.YtpfjklmobjjgpaaW.PrintWords
set_option linter.unusedVariables false
set_option linter.unusedSimpArgs false

/-! ### What a slot holds -/
inductive AL where
  | unk
  | val (v : Value)
  | ptr (b off : Nat)
  | sl (r : Nat)
  | ept (r sz : Nat) (i : Int) (off : Nat)
  | vw (r sz : Nat) (lo hi : Int)
inductive A1 where
  | one (x : AL)
  | agg (xs : List AL)
inductive AV where
  | s1 (x : A1)
  | tup (xs : List A1)
inductive Md where
  | ro
  | own
  | dead
structure Row where
  e : TypeId
  s : Sh
  xs : List s.den
  md : Md
structure St where
  tmps : List AV
  boxes : List (TypeId × List AL)
  rows : List Row
/-- What the abstract state leaves open: where its structs and rows lie. -/
structure Gh where
  bx : List Nat
  rw : List Value
  tag : Lab
  w0 : World

/-- Two lists, place by place. -/
def F2 {α β : Type} (R : α → β → Prop) : List α → List β → Prop
  | [], [] => True
  | x :: xs, y :: ys => R x y ∧ F2 R xs ys
  | _, _ => False
section
variable {α β : Type} {R R' : α → β → Prop}
theorem F2.length : ∀ {xs : List α} {ys : List β}, F2 R xs ys → xs.length = ys.length
  | [], [], _ => rfl
  | _ :: _, _ :: _, h => by simp [F2.length h.2]
theorem F2.get : ∀ {xs : List α} {ys : List β}, F2 R xs ys → ∀ {i : Nat} {x : α}, xs[i]? = some x → ∃ y, ys[i]? = some y ∧ R x y
  | [], [], _, i, x, h => by simp at h
  | a :: xs, b :: ys, h, 0, x, hx => by simp at hx; subst hx; exact ⟨b, rfl, h.1⟩
  | a :: xs, b :: ys, h, i + 1, x, hx => by simp at hx; simpa using F2.get h.2 hx
theorem F2.imp (hR : ∀ x y, R x y → R' x y) : ∀ {xs : List α} {ys : List β}, F2 R xs ys → F2 R' xs ys
  | [], [], _ => trivial
  | _ :: _, _ :: _, h => ⟨hR _ _ h.1, F2.imp hR h.2⟩
theorem F2.set : ∀ {xs : List α} {ys : List β}, F2 R xs ys → ∀ (i : Nat) {x : α} {y : β}, R x y → F2 R (xs.set i x) (ys.set i y)
  | [], [], _, i, _, _, _ => by simp [F2]
  | _ :: _, _ :: _, h, 0, _, _, hr => ⟨hr, h.2⟩
  | _ :: _, _ :: _, h, i + 1, _, _, hr => ⟨h.1, F2.set h.2 i hr⟩
theorem F2.append : ∀ {xs : List α} {ys : List β}, F2 R xs ys → ∀ {xs' : List α} {ys' : List β}, F2 R xs' ys' → F2 R (xs ++ xs') (ys ++ ys')
  | [], [], _, _, _, h' => h'
  | _ :: _, _ :: _, h, _, _, h' => ⟨h.1, F2.append h.2 h'⟩
theorem F2.take : ∀ {xs : List α} {ys : List β}, F2 R xs ys → ∀ n, F2 R (xs.take n) (ys.take n)
  | [], [], _, n => by simp [F2]
  | _ :: _, _ :: _, h, 0 => by simp [F2]
  | _ :: _, _ :: _, h, n + 1 => ⟨h.1, F2.take h.2 n⟩
theorem F2.drop : ∀ {xs : List α} {ys : List β}, F2 R xs ys → ∀ n, F2 R (xs.drop n) (ys.drop n)
  | [], [], _, n => by simp [F2]
  | _ :: _, _ :: _, h, 0 => h
  | _ :: _, _ :: _, h, n + 1 => F2.drop h.2 n
theorem F2.of_map {f : β → α} (hf : ∀ y, R (f y) y) : ∀ ys : List β, F2 R (ys.map f) ys
  | [] => trivial
  | y :: ys => ⟨hf y, F2.of_map hf ys⟩
theorem F2.rep {x : α} {y : β} (h : R x y) : ∀ n, F2 R (List.replicate n x) (List.replicate n y)
  | 0 => trivial
  | n + 1 => ⟨h, F2.rep h n⟩
end

def AL.R (g : Gh) : AL → Value → Prop
  | .unk, _ => True
  | .val x, v => v = x
  | .ptr b off, v => ∃ blk, g.bx[b]? = some blk ∧ v = .pointer (some ⟨blk, off, none⟩)
  | .sl r, v => g.rw[r]? = some v
  | .ept r sz i off, v => ∃ ad n c, g.rw[r]? = some (.slice (some ad) n c) ∧ 0 ≤ i ∧ i < n ∧ v = .pointer (some (ad.add (i.toNat * sz + off)))
  | .vw r sz lo hi, v => ∃ A n c A', g.rw[r]? = some (.slice A n c) ∧ 0 ≤ lo ∧ lo ≤ hi ∧ hi ≤ n ∧ n ≤ c ∧ (lo.toNat < c → A' = A.map (·.add (lo.toNat * sz))) ∧ (lo = 0 → A' = A) ∧ v = .slice A' (hi.toNat - lo.toNat) (c - lo.toNat)
def A1.R (g : Gh) : A1 → Value → Prop
  | .one x, v => x.R g v
  | .agg xs, v => ∃ cs, v = .agg cs ∧ F2 (AL.R g) xs cs.toList
def AV.R (g : Gh) : AV → Value → Prop
  | .s1 x, v => x.R g v
  | .tup xs, v => ∃ vs, v = .tuple vs ∧ F2 (A1.R g) xs vs.toList

/-- More structs, more rows: what was said stays said. -/
structure Gh.le (g g' : Gh) : Prop where
  bx : ∀ {i x : Nat}, g.bx[i]? = some x → g'.bx[i]? = some x
  rw : ∀ {i : Nat} {x : Value}, g.rw[i]? = some x → g'.rw[i]? = some x
  w0 : g'.w0 = g.w0
theorem Gh.le.refl (g : Gh) : g.le g := ⟨fun h => h, fun h => h, rfl⟩
theorem Gh.le.trans {g g' g'' : Gh} (h : g.le g') (k : g'.le g'') : g.le g'' := ⟨fun x => k.bx (h.bx x), fun x => k.rw (h.rw x), k.w0.trans h.w0⟩
theorem AL.R_le {g g' : Gh} (hg : g.le g') : ∀ {x : AL} {v : Value}, x.R g v → x.R g' v
  | .unk, _, _ => trivial
  | .val _, _, h => h
  | .ptr _ _, _, ⟨blk, h, e⟩ => ⟨blk, hg.bx h, e⟩
  | .sl _, _, h => hg.rw h
  | .ept _ _ _ _, _, ⟨ad, n, c, h, h0, h1, e⟩ => ⟨ad, n, c, hg.rw h, h0, h1, e⟩
  | .vw _ _ _ _, _, ⟨A, n, c, A', h, h0, h1, h2, h3, h4, h5, e⟩ => ⟨A, n, c, A', hg.rw h, h0, h1, h2, h3, h4, h5, e⟩
theorem A1.R_le {g g' : Gh} (hg : g.le g') : ∀ {x : A1} {v : Value}, x.R g v → x.R g' v
  | .one _, _, h => AL.R_le hg h
  | .agg _, _, ⟨cs, e, h⟩ => ⟨cs, e, h.imp fun _ _ => AL.R_le hg⟩
theorem AV.R_le {g g' : Gh} (hg : g.le g') : ∀ {x : AV} {v : Value}, x.R g v → x.R g' v
  | .s1 _, _, h => A1.R_le hg h
  | .tup _, _, ⟨vs, e, h⟩ => ⟨vs, e, h.imp fun _ _ => A1.R_le hg⟩

/-! ### The state and the machine -/
def RowRel (g : Gh) (w : World) (r : Nat) (row : Row) (v : Value) : Prop :=
  match row.md with
  | .ro => ∃ A c, v = .slice A row.xs.length c ∧ row.xs.length ≤ c ∧ row.s.kd.C g.w0 A row.xs.length row.xs
  | .own => Own row.s row.e w g.w0.heap.size g.tag r [] v row.xs
  | .dead => True
structure Mem (bs : List (TypeId × List AL)) (rs : List Row) (g : Gh) (w : World) : Prop where
  bl : bs.length = g.bx.length
  box : ∀ {b : Nat} {t : TypeId} {cs : List AL} {blk : Nat}, bs[b]? = some (t, cs) → g.bx[b]? = some blk → ∃ vs : Array Value, w.heap[blk]? = some (Obj.cells vs t (0, 0)) ∧ F2 (AL.R g) cs vs.toList
  free : ∀ {b blk : Nat}, g.bx[b]? = some blk → g.tag blk = none ∧ g.w0.heap.size ≤ blk
  inj : ∀ {b b' blk : Nat}, g.bx[b]? = some blk → g.bx[b']? = some blk → b = b'
  rl : rs.length = g.rw.length
  row : ∀ {r : Nat} {row : Row} {v : Value}, rs[r]? = some row → g.rw[r]? = some v → RowRel g w r row v
  below : Below g.w0.heap.size g.w0 w
structure Rel (st : St) (g : Gh) (a : Act) (w : World) : Prop where
  tmps : F2 (AV.R g) st.tmps a.tmps.toList
  defers : a.defers = []
  mem : Mem st.boxes st.rows g w

theorem AL.get_of {g : Gh} {xs : List AV} {vs : List Value} (h : F2 (AV.R g) xs vs) (t : Nat) : (xs.getD t (.s1 (.one .unk))).R g (vs.getD t undef) := by
  rw [List.getD_eq_getElem?_getD, List.getD_eq_getElem?_getD]
  cases hx : xs[t]? with
  | none => exact trivial
  | some x =>
    obtain ⟨v, hv, hr⟩ := h.get hx
    rw [hv]
    exact hr

/-- The rows' blocks and the world: what lies in no written block stays. -/
theorem Mem.keep {bs : List (TypeId × List AL)} {rs : List Row} {g : Gh} {w w1 : World} (h : Mem bs rs g w) (hb : Below w.heap.size w w1) : Mem bs rs g w1 := by
  refine ⟨h.bl, fun {b t cs blk} hb' hx => ?_, h.free, h.inj, h.rl, fun {r row v} hr hv => ?_, ⟨hb.os.trans h.below.os, hb.tape.trans h.below.tape, hb.output.trans h.below.output, Nat.le_trans h.below.size hb.size, fun k hk => (hb.block k (Nat.lt_of_lt_of_le hk h.below.size)).trans (h.below.block k hk)⟩⟩
  · obtain ⟨vs, hh, hf⟩ := h.box hb' hx
    exact ⟨vs, (hb.block blk (Array.getElem?_eq_some_iff.1 hh).1).trans hh, hf⟩
  · have := h.row hr hv
    unfold RowRel at this ⊢
    split
    · rename_i hm; rw [hm] at this; exact this
    · rename_i hm; rw [hm] at this; exact Own.step this fun k m hk _ => hb.block k hk
    · trivial
/-- The blocks' tags may be told anew where nothing lies yet. -/
theorem RowRel.retag {g : Gh} {w : World} {r : Nat} {row : Row} {v : Value} (h : RowRel g w r row v) {bx : List Nat} {rw : List Value} {tag : Lab} (ht : ∀ k m, k < w.heap.size → g.tag k = some (r, m) → tag k = some (r, m)) : RowRel ⟨bx, rw, tag, g.w0⟩ w r row v := by
  unfold RowRel at h ⊢
  split
  · rename_i hm; rw [hm] at h; exact h
  · rename_i hm; rw [hm] at h; exact Own.move h (fun k m hk _ hl => ⟨rfl, ht k m hk hl⟩) (Nat.le_refl _)
  · trivial
theorem get_append_some {α : Type} {xs : List α} {y : α} {i : Nat} {x : α} (h : xs[i]? = some x) : (xs ++ [y])[i]? = some x := by
  have hi : i < xs.length := (List.getElem?_eq_some_iff.1 h).1
  rw [List.getElem?_append_left hi, h]
theorem get_append_inv {α : Type} {xs : List α} {y : α} {i : Nat} {x : α} (h : (xs ++ [y])[i]? = some x) : xs[i]? = some x ∨ (i = xs.length ∧ x = y) := by
  rcases Nat.lt_or_ge i xs.length with hi | hi
  · rw [List.getElem?_append_left hi] at h; exact .inl h
  · rw [List.getElem?_append_right hi] at h
    have : i - xs.length = 0 := by
      rcases Nat.eq_zero_or_pos (i - xs.length) with h0 | h0
      · exact h0
      · rw [List.getElem?_eq_none (by simp only [List.length_cons, List.length_nil]; omega)] at h
        cases h
    rw [this] at h
    simp at h
    exact .inr ⟨by omega, h.symm⟩
/-- A new struct of the call's own. -/
theorem Mem.addBox {bs : List (TypeId × List AL)} {rs : List Row} {g : Gh} {w : World} (h : Mem bs rs g w) (t : TypeId) (cs : List AL) (vs : Array Value) (hf : F2 (AL.R g) cs vs.toList) :
    ∃ g', g.le g' ∧ g'.bx = g.bx ++ [w.heap.size] ∧ Mem (bs ++ [(t, cs)]) rs g' (w.alloc (.cells vs t)) := by
  have hw := h.keep (below_alloc (Below.refl _ w) (.cells vs t))
  have hlt : ∀ {b blk : Nat}, g.bx[b]? = some blk → blk < w.heap.size := by
    intro b blk hb
    have hbl : b < bs.length := by rw [h.bl]; exact (List.getElem?_eq_some_iff.1 hb).1
    obtain ⟨vs', hh, _⟩ := h.box (List.getElem?_eq_getElem hbl) hb
    exact (Array.getElem?_eq_some_iff.1 hh).1
  have hle : g.le ⟨g.bx ++ [w.heap.size], g.rw, fun k => if k = w.heap.size then none else g.tag k, g.w0⟩ := ⟨get_append_some, fun h => h, rfl⟩
  refine ⟨_, hle, rfl, by simp [h.bl], fun {b t' cs' blk} hb hx => ?_, fun {b blk} hb => ?_, fun {b b' blk} h1 h2 => ?_, h.rl, fun {r row v} hr hv => ?_, hw.below⟩
  · rcases get_append_inv hb with hb | ⟨hb, he⟩
    · have hbl : b < g.bx.length := by rw [← h.bl]; exact (List.getElem?_eq_some_iff.1 hb).1
      rcases get_append_inv hx with hx | ⟨hx, _⟩
      · obtain ⟨vs', hh, hf'⟩ := hw.box hb hx
        exact ⟨vs', hh, hf'.imp fun _ _ => AL.R_le hle⟩
      · omega
    · rcases get_append_inv hx with hx | ⟨_, hx⟩
      · have := (List.getElem?_eq_some_iff.1 hx).1
        have := h.bl
        omega
      · injection he with he1 he2
        subst he1; subst he2; subst hx
        exact ⟨vs, heap_alloc_new w _, hf.imp fun _ _ => AL.R_le hle⟩
  · rcases get_append_inv hb with hb | ⟨_, hb⟩
    · have := hlt hb
      exact ⟨by show (if blk = w.heap.size then none else g.tag blk) = none; rw [if_neg (by omega)]; exact (h.free hb).1, (h.free hb).2⟩
    · subst hb
      exact ⟨by simp, h.below.size⟩
  · rcases get_append_inv h1 with h1 | ⟨h1, e1⟩ <;> rcases get_append_inv h2 with h2 | ⟨h2, e2⟩
    · exact h.inj h1 h2
    · have := hlt h1; omega
    · have := hlt h2; omega
    · omega
  · have := (h.row hr hv).retag (bx := g.bx ++ [w.heap.size]) (rw := g.rw) (tag := fun k => if k = w.heap.size then none else g.tag k) (fun k m hk ht => by show (if k = w.heap.size then none else g.tag k) = some (r, m); rw [if_neg (by omega)]; exact ht)
    unfold RowRel at this ⊢
    split
    · rename_i hm; rw [hm] at this; exact this
    · rename_i hm; rw [hm] at this; exact Own.step this fun k m hk _ => (below_alloc (Below.refl _ w) _).block k hk
    · trivial
end Go.Proofs.Ytpfjklmobjjgpaa.Sim
