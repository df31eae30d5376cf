/- A walk by reckoning: the abstract state of a call (what its slots, its own structs and its own rows hold), and what it says of the machine's. -/
import Derived.Test.YtmbcnpbgcfiafaaGreatVmO
import Derived.Test.YtmbcnpbgcfiafaaGreatVmTb
namespace Go.Proofs.YtmbcnpbgcfiafaaGreat.Vm
open Go Go.RowKit Go.Proofs.YtmbcnpbgcfiafaaGreatW.PrintWords
set_option linter.unusedVariables false
set_option linter.unusedSimpArgs false

inductive AL where
  | unk
  | val (v : Value)
  | ptr (b off : Nat)
  | sl (r : Nat)
  | ept (r sz : Nat) (i : Int) (off : Nat)
  | vw (r sz : Nat) (lo hi : Int)
  | fn (f : FuncId) (caps : List (Nat × Nat))
  | al (r : Nat)
  | err (b : Bool)
  | hs
inductive A1 where
  | one (x : AL)
  | agg (xs : List AL)
inductive AV where
  | s1 (x : A1)
  | tup (xs : List A1)
inductive Md where
  | ro
  | rop
  | own
  | brw (q : Nat)
  | sub (q sz i off : Nat)
  | roh (h : HD)
  | dead
def Md.root (r : Nat) : Md → Nat
  | .brw q => q
  | .sub q _ _ _ => q
  | _ => r
def Md.isRo : Md → Bool
  | .ro => true
  | .rop => true
  | .roh _ => true
  | _ => false
structure Row where
  e : TypeId
  s : Sh
  xs : List s.den
  md : Md
structure St where
  tmps : List AV
  boxes : List (TypeId × List AL)
  rows : List Row
structure Gh where
  bx : List Nat
  rw : List Value
  tag : Lab
  wz : World
  lent : Nat → Bool
  w0 : World
  rz : World
def Gh.fz (g : Gh) (k : Nat) : Option Obj :=
  match g.wz.heap[k]? with
  | some (.cells c e f) => some (.cells c e f)
  | some o => if g.lent k = true then none else some o
  | none => none
def TabF (g : Gh) : Prop := ∀ x ∈ tabL, ∃ cs t f, x.2 cs ∧ g.fz x.1 = some (.cells cs.toArray t f)
structure Stab (g : Gh) (w : World) : Prop where
  tab : TabF g
  os : w.os = g.w0.os
  tape : w.tape = g.w0.tape
  output : w.output = g.w0.output
  size : g.w0.heap.size ≤ w.heap.size
  fz : ∀ {k : Nat} {o : Obj}, g.fz k = some o → w.heap[k]? = some o
  rd : ∀ {k : Nat} {c : Array Value} {e : TypeId} {f : Nat × Nat}, g.rz.heap[k]? = some (.cells c e f) → g.fz k = some (.cells c e f)

def F2 {α β : Type} (R : α → β → Prop) : List α → List β → Prop
  | [], [] => True
  | x :: xs, y :: ys => R x y ∧ F2 R xs ys
  | _, _ => False
section
variable {α β : Type} {R R' : α → β → Prop}
theorem F2.length : ∀ {xs : List α} {ys : List β}, F2 R xs ys → xs.length = ys.length
  | [], [], _ => rfl
  | _ :: _, _ :: _, h => by simp [F2.length h.2]
theorem F2.get : ∀ {xs : List α} {ys : List β}, F2 R xs ys → ∀ {i : Nat} {x : α}, xs[i]? = some x → ∃ y, ys[i]? = some y ∧ R x y
  | [], [], _, i, x, h => by simp at h
  | a :: xs, b :: ys, h, 0, x, hx => by simp at hx; subst hx; exact ⟨b, rfl, h.1⟩
  | a :: xs, b :: ys, h, i + 1, x, hx => by simp at hx; simpa using F2.get h.2 hx
theorem F2.imp (hR : ∀ x y, R x y → R' x y) : ∀ {xs : List α} {ys : List β}, F2 R xs ys → F2 R' xs ys
  | [], [], _ => trivial
  | _ :: _, _ :: _, h => ⟨hR _ _ h.1, F2.imp hR h.2⟩
theorem F2.set : ∀ {xs : List α} {ys : List β}, F2 R xs ys → ∀ (i : Nat) {x : α} {y : β}, R x y → F2 R (xs.set i x) (ys.set i y)
  | [], [], _, i, _, _, _ => by simp [F2]
  | _ :: _, _ :: _, h, 0, _, _, hr => ⟨hr, h.2⟩
  | _ :: _, _ :: _, h, i + 1, _, _, hr => ⟨h.1, F2.set h.2 i hr⟩
theorem F2.append : ∀ {xs : List α} {ys : List β}, F2 R xs ys → ∀ {xs' : List α} {ys' : List β}, F2 R xs' ys' → F2 R (xs ++ xs') (ys ++ ys')
  | [], [], _, _, _, h' => h'
  | _ :: _, _ :: _, h, _, _, h' => ⟨h.1, F2.append h.2 h'⟩
theorem F2.take : ∀ {xs : List α} {ys : List β}, F2 R xs ys → ∀ n, F2 R (xs.take n) (ys.take n)
  | [], [], _, n => by simp [F2]
  | _ :: _, _ :: _, h, 0 => by simp [F2]
  | _ :: _, _ :: _, h, n + 1 => ⟨h.1, F2.take h.2 n⟩
theorem F2.drop : ∀ {xs : List α} {ys : List β}, F2 R xs ys → ∀ n, F2 R (xs.drop n) (ys.drop n)
  | [], [], _, n => by simp [F2]
  | _ :: _, _ :: _, h, 0 => h
  | _ :: _, _ :: _, h, n + 1 => F2.drop h.2 n
theorem F2.of_map {f : β → α} (hf : ∀ y, R (f y) y) : ∀ ys : List β, F2 R (ys.map f) ys
  | [] => trivial
  | y :: ys => ⟨hf y, F2.of_map hf ys⟩
theorem F2.rep {x : α} {y : β} (h : R x y) : ∀ n, F2 R (List.replicate n x) (List.replicate n y)
  | 0 => trivial
  | n + 1 => ⟨h, F2.rep h n⟩
end

def AL.R (g : Gh) : AL → Value → Prop
  | .unk, _ => True
  | .val x, v => v = x
  | .ptr b off, v => ∃ blk, g.bx[b]? = some blk ∧ v = .pointer (some ⟨blk, off, none⟩)
  | .sl r, v => g.rw[r]? = some v
  | .ept r sz i off, v => ∃ ad n c, g.rw[r]? = some (.slice (some ad) n c) ∧ 0 ≤ i ∧ i < n ∧ v = .pointer (some (ad.add (i.toNat * sz + off)))
  | .vw r sz lo hi, v => ∃ A n c A', g.rw[r]? = some (.slice A n c) ∧ 0 ≤ lo ∧ lo ≤ hi ∧ hi ≤ n ∧ n ≤ c ∧ (lo.toNat < c → A' = A.map (·.add (lo.toNat * sz))) ∧ (lo = 0 → A' = A) ∧ v = .slice A' (hi.toNat - lo.toNat) (c - lo.toNat)
  | .al r, v => ∃ A m n c, g.rw[r]? = some (.slice A m c) ∧ m ≤ n ∧ n ≤ c ∧ v = .slice A n c
  | .err b, v => (b = false → v = .nilIface) ∧ (b = true → ∃ t p, v = .iface t p)
  | .hs, v => ∃ A n c, v = .slice A n c
  | .fn f caps, v => ∃ us : Array Value, v = .func (.func f) #[] us ∧ F2 (fun (x : Nat × Nat) u => ∃ blk, g.bx[x.1]? = some blk ∧ u = .pointer (some ⟨blk, x.2, none⟩)) caps us.toList
def A1.R (g : Gh) : A1 → Value → Prop
  | .one x, v => x.R g v
  | .agg xs, v => ∃ cs, v = .agg cs ∧ F2 (AL.R g) xs cs.toList
def AV.R (g : Gh) : AV → Value → Prop
  | .s1 x, v => x.R g v
  | .tup xs, v => ∃ vs, v = .tuple vs ∧ F2 (A1.R g) xs vs.toList

theorem fz_none {g g' : Gh} (h : ∀ {k : Nat} {o : Obj}, g.fz k = some o → g'.fz k = some o) {k : Nat} (hn : g'.fz k = none) : g.fz k = none := by
  cases hf : g.fz k with
  | none => rfl
  | some o => rw [h hf] at hn; cases hn
structure Gh.le (g g' : Gh) : Prop where
  bx : ∀ {i x : Nat}, g.bx[i]? = some x → g'.bx[i]? = some x
  rw : ∀ {i : Nat} {x : Value}, g.rw[i]? = some x → g'.rw[i]? = some x
  w0 : g'.w0 = g.w0
  fz : ∀ {k : Nat} {o : Obj}, g.fz k = some o → g'.fz k = some o
  rz : ∀ {k : Nat} {c : Array Value} {e : TypeId} {f : Nat × Nat}, g.rz.heap[k]? = some (.cells c e f) → g'.rz.heap[k]? = some (.cells c e f)
  rn : ∀ {k : Nat} {c : Array Value} {e : TypeId} {f : Nat × Nat}, g'.rz.heap[k]? = some (.cells c e f) → g.rz.heap[k]? = some (.cells c e f) ∨ g.fz k = none
theorem Gh.le.refl (g : Gh) : g.le g := ⟨fun h => h, fun h => h, rfl, fun h => h, fun h => h, fun h => .inl h⟩
theorem Gh.le.trans {g g' g'' : Gh} (h : g.le g') (k : g'.le g'') : g.le g'' := ⟨fun x => k.bx (h.bx x), fun x => k.rw (h.rw x), k.w0.trans h.w0, fun x => k.fz (h.fz x), fun x => k.rz (h.rz x), fun x => by
  rcases k.rn x with y | y
  · exact h.rn y
  · exact .inr (fz_none h.fz y)⟩
structure Gh.ext (N : Nat × Nat) (g g' : Gh) : Prop where
  bx : ∀ {i x : Nat}, i < N.1 → g.bx[i]? = some x → g'.bx[i]? = some x
  rw : ∀ {i : Nat} {x : Value}, i < N.2 → g.rw[i]? = some x → g'.rw[i]? = some x
  w0 : g'.w0 = g.w0
  fz : ∀ {k : Nat} {o : Obj}, g.fz k = some o → g'.fz k = some o
  rz : ∀ {k : Nat} {c : Array Value} {e : TypeId} {f : Nat × Nat}, g.rz.heap[k]? = some (.cells c e f) → g'.rz.heap[k]? = some (.cells c e f)
  rn : ∀ {k : Nat} {c : Array Value} {e : TypeId} {f : Nat × Nat}, g'.rz.heap[k]? = some (.cells c e f) → g.rz.heap[k]? = some (.cells c e f) ∨ g.fz k = none
theorem Gh.ext.refl (N : Nat × Nat) (g : Gh) : g.ext N g := ⟨fun _ h => h, fun _ h => h, rfl, fun h => h, fun h => h, fun h => .inl h⟩
theorem Gh.ext.trans {N : Nat × Nat} {g g' g'' : Gh} (h : g.ext N g') (k : g'.ext N g'') : g.ext N g'' := ⟨fun i x => k.bx i (h.bx i x), fun i x => k.rw i (h.rw i x), k.w0.trans h.w0, fun x => k.fz (h.fz x), fun x => k.rz (h.rz x), fun x => by
  rcases k.rn x with y | y
  · exact h.rn y
  · exact .inr (fz_none h.fz y)⟩
theorem Gh.le.ext {N : Nat × Nat} {g g' : Gh} (h : g.le g') : g.ext N g' := ⟨fun _ x => h.bx x, fun _ x => h.rw x, h.w0, h.fz, h.rz, h.rn⟩
theorem Stab.mono {g g' : Gh} {w : World} (h : Stab g' w) (hw : g'.w0 = g.w0) (hf : ∀ k, g'.fz k = g.fz k) (hz : g'.rz = g.rz) : Stab g w :=
  ⟨fun x hx => by
    obtain ⟨cs, t, f, h0, h1⟩ := h.tab x hx
    exact ⟨cs, t, f, h0, (hf x.1).symm.trans h1⟩, hw ▸ h.os, hw ▸ h.tape, hw ▸ h.output, hw ▸ h.size, fun {k o} x => h.fz ((hf k).trans x), fun {k c e f} x => (hf k).symm.trans (h.rd (hz ▸ x))⟩
theorem AL.R_le {g g' : Gh} (hg : g.le g') : ∀ {x : AL} {v : Value}, x.R g v → x.R g' v
  | .unk, _, _ => trivial
  | .val _, _, h => h
  | .ptr _ _, _, ⟨blk, h, e⟩ => ⟨blk, hg.bx h, e⟩
  | .sl _, _, h => hg.rw h
  | .ept _ _ _ _, _, ⟨ad, n, c, h, h0, h1, e⟩ => ⟨ad, n, c, hg.rw h, h0, h1, e⟩
  | .vw _ _ _ _, _, ⟨A, n, c, A', h, h0, h1, h2, h3, h4, h5, e⟩ => ⟨A, n, c, A', hg.rw h, h0, h1, h2, h3, h4, h5, e⟩
  | .al _, _, ⟨A, m, n, c, h, h1, h2, e⟩ => ⟨A, m, n, c, hg.rw h, h1, h2, e⟩
  | .err _, _, h => h
  | .hs, _, h => h
  | .fn _ _, _, ⟨us, e, h⟩ => ⟨us, e, h.imp fun _ _ ⟨blk, hb, e⟩ => ⟨blk, hg.bx hb, e⟩⟩
theorem A1.R_le {g g' : Gh} (hg : g.le g') : ∀ {x : A1} {v : Value}, x.R g v → x.R g' v
  | .one _, _, h => AL.R_le hg h
  | .agg _, _, ⟨cs, e, h⟩ => ⟨cs, e, h.imp fun _ _ => AL.R_le hg⟩
theorem AV.R_le {g g' : Gh} (hg : g.le g') : ∀ {x : AV} {v : Value}, x.R g v → x.R g' v
  | .s1 _, _, h => A1.R_le hg h
  | .tup _, _, ⟨vs, e, h⟩ => ⟨vs, e, h.imp fun _ _ => A1.R_le hg⟩

def RowRel (g : Gh) (w : World) (r : Nat) (row : Row) (v : Value) : Prop :=
  match row.md with
  | .ro => ∃ A c, v = .slice A row.xs.length c ∧ row.xs.length ≤ c ∧ row.s.kd.C g.rz A row.xs.length row.xs
  | .rop => ∃ A c, v = .slice A row.xs.length c ∧ row.xs.length ≤ c ∧ row.s.kd.C g.rz A row.xs.length row.xs
  | .own => Own row.s row.e g.rz w 0 g.tag r [] v row.xs
  | .brw q => ∃ p, Own row.s row.e g.rz w 0 g.tag q p v row.xs
  | .sub q sz i off => Own row.s row.e g.rz w 0 g.tag q [i, off] v row.xs ∧ ∃ blk n c, g.rw[q]? = some (.slice (some ⟨blk, 0, none⟩) n c) ∧ g.tag blk = some (q, []) ∧ i < n ∧ w.cell? ((⟨blk, 0, none⟩ : Addr).add (i * sz + off)) = some v
  | .roh h => (∃ A c, v = .slice A row.xs.length c ∧ row.xs.length ≤ c ∧ row.s.kd.C g.rz A row.xs.length row.xs) ∧ v = h.v
  | .dead => ∃ A n c, v = .slice A n c
theorem Own.slice {s : Sh} {e : TypeId} {z w : World} {base : Nat} {lab : Lab} {r : Nat} {p : List Nat} {v : Value} {xs : List s.den} (h : Own s e z w base lab r p v xs) : ∃ A n c, v = .slice A n c := by
  obtain ⟨_, inner, h2, _⟩ := h
  obtain ⟨A, c, e⟩ := own_slice h2
  exact ⟨A, _, c, e⟩
theorem RowRel.slice {g : Gh} {w : World} {r : Nat} {row : Row} {v : Value} (h : RowRel g w r row v) : ∃ A n c, v = .slice A n c := by
  unfold RowRel at h
  split at h
  · obtain ⟨A, c, e, _⟩ := h; exact ⟨A, _, c, e⟩
  · obtain ⟨A, c, e, _⟩ := h; exact ⟨A, _, c, e⟩
  · exact h.slice
  · obtain ⟨p, h⟩ := h; exact h.slice
  · exact h.1.slice
  · obtain ⟨⟨A, c, e, _⟩, _⟩ := h; exact ⟨A, _, c, e⟩
  · exact h
structure Mem (bs : List (TypeId × List AL)) (rs : List Row) (g : Gh) (w : World) : Prop where
  bl : bs.length = g.bx.length
  box : ∀ {b : Nat} {t : TypeId} {cs : List AL} {blk : Nat}, bs[b]? = some (t, cs) → g.bx[b]? = some blk → ∃ vs : Array Value, w.heap[blk]? = some (Obj.cells vs t (0, 0)) ∧ F2 (AL.R g) cs vs.toList
  free : ∀ {b blk : Nat}, g.bx[b]? = some blk → g.tag blk = none ∧ g.fz blk = none
  inj : ∀ {b b' blk : Nat}, g.bx[b]? = some blk → g.bx[b']? = some blk → b = b'
  rl : rs.length = g.rw.length
  row : ∀ {r : Nat} {row : Row} {v : Value}, rs[r]? = some row → g.rw[r]? = some v → RowRel g w r row v
  st : Stab g w
  dom : ∀ {k : Nat} {x : Nat × List Nat}, g.tag k = some x → g.fz k = none
structure Rel (st : St) (g : Gh) (a : Act) (w : World) : Prop where
  tmps : F2 (AV.R g) st.tmps a.tmps.toList
  defers : a.defers = []
  mem : Mem st.boxes st.rows g w

theorem AL.get_of {g : Gh} {xs : List AV} {vs : List Value} (h : F2 (AV.R g) xs vs) (t : Nat) : (xs.getD t (.s1 (.one .unk))).R g (vs.getD t undef) := by
  rw [List.getD_eq_getElem?_getD, List.getD_eq_getElem?_getD]
  cases hx : xs[t]? with
  | none => exact trivial
  | some x =>
    obtain ⟨v, hv, hr⟩ := h.get hx
    rw [hv]
    exact hr

theorem cells_mono_of {w w1 : World} (h : ∀ {k : Nat} {c : Array Value} {e : TypeId} {f : Nat × Nat}, w.heap[k]? = some (.cells c e f) → w1.heap[k]? = some (.cells c e f)) {a : Addr} {u : Value} (hc : w.cell? a = some u) : w1.cell? a = some u := by
  unfold World.cell? at hc ⊢
  split at hc
  · rename_i c e f hh
    rw [h hh]
    exact hc
  · cases hc
theorem fz_some {g : Gh} {k : Nat} {c : Array Value} {e : TypeId} {f : Nat × Nat} (h : g.wz.heap[k]? = some (.cells c e f)) : g.fz k = some (.cells c e f) := by
  unfold Gh.fz
  rw [h]
theorem some_fz {g : Gh} {k : Nat} {o : Obj} (h : g.fz k = some o) : g.wz.heap[k]? = some o := by
  unfold Gh.fz at h
  split at h
  · rename_i hh
    rw [hh]
    exact h
  · rename_i hh
    rw [hh]
    split at h
    · cases h
    · exact h
  · cases h
theorem rz_cell {g g' : Gh} (hf : ∀ {k : Nat} {c : Array Value} {e : TypeId} {f : Nat × Nat}, g.rz.heap[k]? = some (.cells c e f) → g'.rz.heap[k]? = some (.cells c e f)) {a : Addr} {u : Value} (hc : g.rz.cell? a = some u) : g'.rz.cell? a = some u :=
  cells_mono_of (fun h => hf h) hc
theorem Stab.cell {g : Gh} {w : World} (h : Stab g w) {a : Addr} {u : Value} (hc : g.rz.cell? a = some u) : w.cell? a = some u :=
  cells_mono_of (fun hk => h.fz (h.rd hk)) hc
theorem Stab.below {g : Gh} {w w1 : World} (h : Stab g w) (hb : Below w.heap.size w w1) : Stab g w1 :=
  ⟨h.tab, hb.os.trans h.os, hb.tape.trans h.tape, hb.output.trans h.output, Nat.le_trans h.size hb.size, fun {k o} x => by
    have := h.fz x
    exact (hb.block k (Array.getElem?_eq_some_iff.1 this).1).trans this, h.rd⟩
theorem add_block (a : Addr) (n : Nat) : (a.add n).block = a.block := by unfold Addr.add; split <;> rfl
theorem cell_lt {w : World} {blk o n : Nat} {u : Value} (h : w.cell? ((⟨blk, o, none⟩ : Addr).add n) = some u) : blk < w.heap.size := by
  unfold World.cell? at h
  rw [add_block] at h
  split at h
  · rename_i hh
    exact (Array.getElem?_eq_some_iff.1 hh).1
  · cases h
theorem cell_same {w w1 : World} {blk o n : Nat} (h : w1.heap[blk]? = w.heap[blk]?) : w1.cell? ((⟨blk, o, none⟩ : Addr).add n) = w.cell? ((⟨blk, o, none⟩ : Addr).add n) := by
  unfold World.cell?
  rw [add_block, h]
theorem RowRel.move {g g' : Gh} {w w1 : World} {r : Nat} {row : Row} {v : Value} (h : RowRel g w r row v) (hw : g'.w0 = g.w0) (hr : ∀ {i : Nat} {x : Value}, g.rw[i]? = some x → g'.rw[i]? = some x) (hf : ∀ {k : Nat} {c : Array Value} {e : TypeId} {f : Nat × Nat}, g.rz.heap[k]? = some (.cells c e f) → g'.rz.heap[k]? = some (.cells c e f))
    (hm : ∀ k m, row.md.isRo = false → k < w.heap.size → g.tag k = some (row.md.root r, m) → g'.tag k = some (row.md.root r, m) ∧ w1.heap[k]? = w.heap[k]?) : RowRel g' w1 r row v := by
  unfold RowRel at h ⊢
  split
  · rename_i e; rw [e] at h
    obtain ⟨A, c, h1, h2, h3⟩ := h
    exact ⟨A, c, h1, h2, row.s.C_cells_mono (fun a u => rz_cell (fun {k c e f} => hf)) h3⟩
  · rename_i e; rw [e] at h
    obtain ⟨A, c, h1, h2, h3⟩ := h
    exact ⟨A, c, h1, h2, row.s.C_cells_mono (fun a u => rz_cell (fun {k c e f} => hf)) h3⟩
  · rename_i e; rw [e] at h hm
    exact Own.move h (fun k m hk _ hl => ⟨(hm k m rfl hk hl).2, (hm k m rfl hk hl).1⟩) (Nat.le_refl _) (fun a u => rz_cell (fun {k c e f} => hf))
  · rename_i q e; rw [e] at h hm
    obtain ⟨p, h⟩ := h
    exact ⟨p, Own.move h (fun k m hk _ hl => ⟨(hm k _ rfl hk hl).2, (hm k _ rfl hk hl).1⟩) (Nat.le_refl _) (fun a u => rz_cell (fun {k c e f} => hf))⟩
  · rename_i q sz i off e; rw [e] at h hm
    obtain ⟨h, blk, n, c, h1, h2, h3, h4⟩ := h
    have hk : blk < w.heap.size := cell_lt h4
    exact ⟨Own.move h (fun k m hk _ hl => ⟨(hm k _ rfl hk hl).2, (hm k _ rfl hk hl).1⟩) (Nat.le_refl _) (fun a u => rz_cell (fun {k c e f} => hf)), blk, n, c, hr h1, (hm blk [] rfl hk h2).1, h3, (cell_same (hm blk [] rfl hk h2).2).trans h4⟩
  · rename_i hd e; rw [e] at h
    obtain ⟨⟨A, c, h1, h2, h3⟩, h4⟩ := h
    exact ⟨⟨A, c, h1, h2, row.s.C_cells_mono (fun a u => rz_cell (fun {k c e f} => hf)) h3⟩, h4⟩
  · rename_i e; rw [e] at h; exact h
theorem Mem.keep {bs : List (TypeId × List AL)} {rs : List Row} {g : Gh} {w w1 : World} (h : Mem bs rs g w) (hb : Below w.heap.size w w1) : Mem bs rs g w1 := by
  refine ⟨h.bl, fun {b t cs blk} hb' hx => ?_, h.free, h.inj, h.rl, fun {r row v} hr hv => ?_, h.st.below hb, h.dom⟩
  · obtain ⟨vs, hh, hf⟩ := h.box hb' hx
    exact ⟨vs, (hb.block blk (Array.getElem?_eq_some_iff.1 hh).1).trans hh, hf⟩
  · exact (h.row hr hv).move rfl (fun x => x) (fun x => x) fun k m _ hk hl => ⟨hl, hb.block k hk⟩
theorem get_append_some {α : Type} {xs : List α} {y : α} {i : Nat} {x : α} (h : xs[i]? = some x) : (xs ++ [y])[i]? = some x := by
  have hi : i < xs.length := (List.getElem?_eq_some_iff.1 h).1
  rw [List.getElem?_append_left hi, h]
theorem get_append_inv {α : Type} {xs : List α} {y : α} {i : Nat} {x : α} (h : (xs ++ [y])[i]? = some x) : xs[i]? = some x ∨ (i = xs.length ∧ x = y) := by
  rcases Nat.lt_or_ge i xs.length with hi | hi
  · rw [List.getElem?_append_left hi] at h; exact .inl h
  · rw [List.getElem?_append_right hi] at h
    have : i - xs.length = 0 := by
      rcases Nat.eq_zero_or_pos (i - xs.length) with h0 | h0
      · exact h0
      · rw [List.getElem?_eq_none (by simp only [List.length_cons, List.length_nil]; omega)] at h
        cases h
    rw [this] at h
    simp at h
    exact .inr ⟨by omega, h.symm⟩
theorem Mem.bx_lt {bs : List (TypeId × List AL)} {rs : List Row} {g : Gh} {w : World} (h : Mem bs rs g w) {b blk : Nat} (hb : g.bx[b]? = some blk) : blk < w.heap.size := by
  have hbl : b < bs.length := by rw [h.bl]; exact (List.getElem?_eq_some_iff.1 hb).1
  obtain ⟨vs', hh, _⟩ := h.box (List.getElem?_eq_getElem hbl) hb
  exact (Array.getElem?_eq_some_iff.1 hh).1
theorem Mem.fz_lt {bs : List (TypeId × List AL)} {rs : List Row} {g : Gh} {w : World} (h : Mem bs rs g w) {k : Nat} {o : Obj} (hk : g.fz k = some o) : k < w.heap.size := (Array.getElem?_eq_some_iff.1 (h.st.fz hk)).1
theorem Mem.fz_new {bs : List (TypeId × List AL)} {rs : List Row} {g : Gh} {w : World} (h : Mem bs rs g w) {k : Nat} (hk : w.heap.size ≤ k) : g.fz k = none := by
  cases hf : g.fz k with
  | none => rfl
  | some o => have := h.fz_lt hf; omega
theorem Mem.addBox {bs : List (TypeId × List AL)} {rs : List Row} {g : Gh} {w : World} (h : Mem bs rs g w) (t : TypeId) (cs : List AL) (vs : Array Value) (hf : F2 (AL.R g) cs vs.toList) :
    ∃ g', g.le g' ∧ g'.bx = g.bx ++ [w.heap.size] ∧ Mem (bs ++ [(t, cs)]) rs g' (w.alloc (.cells vs t)) := by
  have hw := h.keep (below_alloc (Below.refl _ w) (.cells vs t))
  have hle : g.le ⟨g.bx ++ [w.heap.size], g.rw, fun k => if k = w.heap.size then none else g.tag k, g.wz, g.lent, g.w0, g.rz⟩ := ⟨get_append_some, fun h => h, rfl, fun h => h, fun h => h, fun h => .inl h⟩
  refine ⟨_, hle, rfl, by simp [h.bl], fun {b t' cs' blk} hb hx => ?_, fun {b blk} hb => ?_, fun {b b' blk} h1 h2 => ?_, h.rl, fun {r row v} hr hv => ?_, hw.st.mono rfl (fun _ => rfl) rfl, fun {k x} hk => ?_⟩
  · rcases get_append_inv hb with hb | ⟨hb, he⟩
    · have hbl : b < g.bx.length := by rw [← h.bl]; exact (List.getElem?_eq_some_iff.1 hb).1
      rcases get_append_inv hx with hx | ⟨hx, _⟩
      · obtain ⟨vs', hh, hf'⟩ := hw.box hb hx
        exact ⟨vs', hh, hf'.imp fun _ _ => AL.R_le hle⟩
      · omega
    · rcases get_append_inv hx with hx | ⟨_, hx⟩
      · have := (List.getElem?_eq_some_iff.1 hx).1
        have := h.bl
        omega
      · injection he with he1 he2
        subst he1; subst he2; subst hx
        exact ⟨vs, heap_alloc_new w _, hf.imp fun _ _ => AL.R_le hle⟩
  · rcases get_append_inv hb with hb | ⟨_, hb⟩
    · have := h.bx_lt hb
      exact ⟨by show (if blk = w.heap.size then none else g.tag blk) = none; rw [if_neg (by omega)]; exact (h.free hb).1, (h.free hb).2⟩
    · subst hb
      exact ⟨by simp, h.fz_new (Nat.le_refl _)⟩
  · rcases get_append_inv h1 with h1 | ⟨h1, e1⟩ <;> rcases get_append_inv h2 with h2 | ⟨h2, e2⟩
    · exact h.inj h1 h2
    · have := h.bx_lt h1; omega
    · have := h.bx_lt h2; omega
    · omega
  · exact (h.row hr hv).move rfl (fun h => h) (fun h => h) fun k m _ hk ht => ⟨by show (if k = w.heap.size then none else g.tag k) = _; rw [if_neg (by omega)]; exact ht, (below_alloc (Below.refl _ w) _).block k hk⟩
  · by_cases e : k = w.heap.size
    · subst e; exact h.fz_new (Nat.le_refl _)
    · have hk : (if k = w.heap.size then none else g.tag k) = some x := hk
      rw [if_neg e] at hk
      exact h.dom hk
end Go.Proofs.YtmbcnpbgcfiafaaGreat.Vm
