/- A walk by reckoning: a row inside of an element is lent: it is taken out of the element, and put back. -/
import Derived.Test.YtmbcnpbgcfiafaaGreatVmY
namespace Go.Proofs.YtmbcnpbgcfiafaaGreat.Vm
open Go Go.RowKit Go.Proofs.YtmbcnpbgcfiafaaGreatW.PrintWords
set_option linter.unusedVariables false
set_option linter.unusedSimpArgs false

def St.subOf (st : St) (muts : List Nat) (avs : List AV) : Option Nat :=
  (lentL muts 0 (avs.flatMap AV.all)).findSome? fun r =>
    match st.rows[r]? with
    | some row =>
      match row.md with
      | .sub _ _ _ _ => some r
      | _ => none
    | none => none
structure Hole where
  r : Nat
  q : Nat
  i : Nat
  off : Nat
  row : Row
def St.detach (st : St) (r : Nat) : Option (St × Hole) :=
  match st.rows[r]? with
  | some row =>
    match row.md with
    | .sub q sz i off =>
      match st.rows[q]? with
      | some prow =>
        match prow.md with
        | .own => if prow.s.sz = sz ∧ r ≠ q then some (⟨st.tmps, st.boxes, (killed [q] 0 st.rows).set r { row with md := .own }⟩, ⟨r, q, i, off, prow⟩) else none
        | _ => none
      | none => none
    | _ => none
  | none => none
def St.attach (st : St) (H : Hole) : Option St :=
  match H.row.s.put st (H.row.xs.getD H.i H.row.s.dflt) 0 H.off 1 [.sl H.r] with
  | some (y, mv) =>
    if mvOk1 mv = true ∧ (mv.map (·.1)).contains H.q = false then
      some ⟨st.tmps, st.boxes, (killed (mv.map (·.1)) 0 st.rows).set H.q ⟨H.row.e, H.row.s, H.row.xs.set H.i y, .own⟩⟩
    else none
  | none => none

def labTake (q i off r : Nat) (lab : Lab) : Lab := fun k =>
  match lab k with
  | some (q', i' :: o' :: m) => if q' = q ∧ i' = i ∧ o' = off then some (r, m) else some (q', i' :: o' :: m)
  | x => x
section
variable {q i off r k : Nat} {lab : Lab}
theorem labTake_hit {m : List Nat} (h : lab k = some (q, i :: off :: m)) : labTake q i off r lab k = some (r, m) := by
  unfold labTake
  rw [h]
  simp
theorem labTake_miss {x : Nat × List Nat} (h : lab k = some x) (hx : ∀ m, x ≠ (q, i :: off :: m)) : labTake q i off r lab k = some x := by
  unfold labTake
  rw [h]
  split
  · rename_i q' i' o' m he
    injection he with he
    subst he
    rw [if_neg]
    rintro ⟨rfl, rfl, rfl⟩
    exact hx m rfl
  · rfl
theorem labTake_none (h : lab k = none) : labTake q i off r lab k = none := by
  unfold labTake
  rw [h]
theorem labTake_some {x : Nat × List Nat} (h : labTake q i off r lab k = some x) : ∃ y, lab k = some y := by
  cases hl : lab k with
  | none => rw [labTake_none hl] at h; cases h
  | some y => exact ⟨y, rfl⟩
end
section
variable {st : St} {g : Gh} {w : World} (hm : Mem st.boxes st.rows g w)
include hm
theorem detach_rel {r : Nat} {st1 : St} {H : Hole} (h : st.detach r = some (st1, H)) :
    ∃ v blk n c, Mem st1.boxes st1.rows ⟨g.bx, g.rw, labTake H.q H.i H.off r g.tag, g.wz, g.lent, g.w0, g.rz⟩ w ∧ st1.tmps = st.tmps ∧ H.r = r ∧ r ≠ H.q ∧
      g.rw[r]? = some v ∧ g.rw[H.q]? = some (.slice (some ⟨blk, 0, none⟩) n c) ∧ H.i < n ∧ w.cell? ((⟨blk, 0, none⟩ : Addr).add (H.i * H.row.s.sz + H.off)) = some v ∧
      Own H.row.s H.row.e g.rz w 0 g.tag H.q [] (.slice (some ⟨blk, 0, none⟩) n c) H.row.xs ∧ st1.rows[H.q]? = some { H.row with md := .dead } := by
  unfold St.detach at h
  split at h
  · rename_i row hrow
    split at h
    · rename_i q sz i off hmd
      split at h
      · rename_i prow hprow
        split at h
        · rename_i hpmd
          split at h
          · rename_i hc
            obtain ⟨hsz, hne⟩ := hc
            injection h with h
            injection h with h1 h2
            subst h1; subst h2
            have hlt : r < g.rw.length := by rw [← hm.rl]; exact (List.getElem?_eq_some_iff.1 hrow).1
            have hv := List.getElem?_eq_getElem hlt
            have hR := hm.row hrow hv
            unfold RowRel at hR
            rw [hmd] at hR
            obtain ⟨hOr, blk, n, c, hq, hblk, hin, hcell⟩ := hR
            have hO := hm.row hprow hq
            unfold RowRel at hO
            rw [hpmd] at hO
            have hkl : (killed [q] 0 st.rows).length = st.rows.length := killed_length _ _ _
            refine ⟨g.rw[r], blk, n, c, ⟨hm.bl, fun {b t cs bk} h1 h2 => ?_, fun {b bk} h1 => ⟨labTake_none (hm.free h1).1, (hm.free h1).2⟩, hm.inj, by simp [hkl, hm.rl], fun {r' row' v'} h1 h2 => ?_, hm.st.mono rfl (fun _ => rfl) rfl, fun {k x} hk => ?_⟩, rfl, rfl, hne, hv, hq, hin, by rw [hsz]; exact hcell, hO, ?_⟩
            · obtain ⟨vs, hh, hF⟩ := hm.box h1 h2
              exact ⟨vs, hh, hF.imp fun _ _ => AL.R_le ⟨fun h => h, fun h => h, rfl, fun h => h, fun h => h, fun h => .inl h⟩⟩
            · by_cases e : r' = r
              · subst e
                rw [List.getElem?_set_self (by rw [hkl]; exact (List.getElem?_eq_some_iff.1 hrow).1)] at h1
                injection h1 with h1
                subst h1
                have h2' : g.rw[r']? = some v' := h2
                rw [hv] at h2'
                injection h2' with h2'
                subst h2'
                unfold RowRel
                exact Own.move hOr (fun k m _ _ hk => ⟨rfl, labTake_hit hk⟩) (Nat.le_refl _) (fun _ _ h => h)
              · rw [List.getElem?_set_ne (Ne.symm e)] at h1
                obtain ⟨row0, h3, h4⟩ := killed_get _ 0 st.rows h1
                rcases h4 with h4 | ⟨hc, rfl⟩
                · unfold RowRel
                  rw [h4]
                  exact (hm.row h3 h2).slice
                · refine (hm.row h3 h2).move rfl (fun h => h) (fun h => h) fun k m hro hk hl => ⟨labTake_miss hl fun m' he => ?_, rfl⟩
                  have := hc hro
                  injection he with he _
                  rw [Nat.zero_add, he] at this
                  simp at this
            · obtain ⟨y, hy⟩ := labTake_some hk
              exact hm.dom hy
            · show ((killed [q] 0 st.rows).set r _)[q]? = _
              rw [List.getElem?_set_ne hne]
              have hlq : q < (killed [q] 0 st.rows).length := by rw [hkl]; exact (List.getElem?_eq_some_iff.1 hprow).1
              have h5 := List.getElem?_eq_getElem hlq
              have h6 := killed_at [q] 0 st.rows hprow
              rw [h6]
              simp [dies, hpmd, Md.isRo, Md.root]
          · cases h
        · cases h
      · cases h
    · cases h
  · cases h
end
theorem OE_moveR {z z1 w w1 : World} {lab lab' : Lab} {r : Nat} {q : List Nat} (lo hi : Nat) (hm : ∀ k d m, k < w.heap.size → lo ≤ d → d < hi → lab k = some (r, q ++ d :: m) → w1.heap[k]? = w.heap[k]? ∧ lab' k = some (r, q ++ d :: m)) (hz : Cle z z1) :
    ∀ (s : Sh) (o : Nat) (x : s.den) (cs : List Value), lo ≤ o → o + s.sz ≤ hi → OE z w 0 lab r s q o x cs → OE z1 w1 0 lab' r s q o x cs
  | .int _, _, _, _, _, _, h => h
  | .bool, _, _, _, _, _, h => h
  | .str, _, _, _, _, _, h => h
  | .sl e s, o, xs, cs, h1, h2, h => by
    obtain ⟨v, hv, ho⟩ := OE_sl.1 h
    refine OE_sl.2 ⟨v, hv, Own.move ho (fun k m hk _ hl => ?_) (Nat.le_refl _) hz⟩
    have h3 : o < hi := by simp only [Sh.sz] at h2; omega
    have := hm k o m hk h1 h3 (by simpa using hl)
    simpa using this
  | .rs e s, o, xs, cs, h1, h2, h => (Sh.rs e s).K_cells_mono hz (x := xs) h
  | .hr e s, o, x, cs, h1, h2, h => ⟨(Sh.rs e s).K_cells_mono hz (x := x.2) h.1, h.2⟩
  | .hv, _, _, _, _, _, h => h
  | .pair a b, o, x, cs, h1, h2, h => by
    obtain ⟨c0, c1, e, h3, h4⟩ := h
    have h5 : o + (a.sz + b.sz) ≤ hi := h2
    exact ⟨c0, c1, e, OE_moveR lo hi hm hz a o x.1 c0 h1 (by omega) h3, OE_moveR lo hi hm hz b (o + a.sz) x.2 c1 (by omega) (by omega) h4⟩
theorem put1_OE {st : St} {g : Gh} {zf w w2 : World} (hm : Mem st.boxes st.rows g w2) (hzf : Cle zf g.rz) {lab lab' : Lab} {r i k0 r' : Nat} {u : Value} (hu : g.rw[r']? = some u)
    (hfr : ∀ k d m, k < w.heap.size → d ≠ k0 → lab k = some (r, [i] ++ d :: m) → w2.heap[k]? = w.heap[k]? ∧ lab' k = some (r, [i] ++ d :: m)) :
    ∀ (s : Sh) (x : s.den) (o off : Nat) (old : List Value) (y : s.den) (mv : List (Nat × Nat)), s.put st x o off 1 [.sl r'] = some (y, mv) → old[off]? = some u → o + off = k0 → OE zf w 0 lab r s [i] o x old → Moves g w2 w2 lab' r i mv →
      OE g.rz w2 0 lab' r s [i] o y old
  | .int k, x, o, off, old, y, mv, h, hold, hk, ho, hv => by
    have h' : (if off = 0 ∧ 1 = 1 then (mkInt k [.sl r']).map fun y => (y.1, y.2.2) else none) = some (y, mv) := h
    split at h' <;> cases h'
  | .bool, x, o, off, old, y, mv, h, hold, hk, ho, hv => by
    have h' : (if off = 0 ∧ 1 = 1 then (mkBool [.sl r']).map fun y => (y.1, y.2.2) else none) = some (y, mv) := h
    split at h' <;> cases h'
  | .str, x, o, off, old, y, mv, h, hold, hk, ho, hv => by
    have h' : (if off = 0 ∧ 1 = 1 then (mkStr [.sl r']).map fun y => (y.1, y.2.2) else none) = some (y, mv) := h
    split at h' <;> cases h'
  | .sl e s, x, o, off, old, y, mv, h, hold, hk, ho, hv => by
    have h' : (if off = 0 ∧ 1 = 1 then ((Sh.sl e s).mk st o [.sl r']).map fun y => (y.1, y.2.2) else none) = some (y, mv) := h
    split at h'
    · rename_i hc
      obtain ⟨rfl, _⟩ := hc
      obtain ⟨z, hz, he⟩ := Option.map_eq_some_iff.1 h'
      obtain ⟨z1, z2, z3⟩ := z
      simp only [Prod.mk.injEq] at he
      obtain ⟨rfl, rfl⟩ := he
      have h1 := (mk_OE hm (.sl e s) o [.sl r'] [u] z1 z2 z3 hz ⟨hu, trivial⟩ hv).1
      have hl := OE_len (.sl e s) _ _ _ _ ho
      have : old = [u] := by
        match old, hl, hold with
        | [a], _, hold => simp at hold; rw [hold]
      subst this
      exact h1
    · cases h'
  | .rs e s, x, o, off, old, y, mv, h, hold, hk, ho, hv => by
    have h' : (if off = 0 ∧ 1 = 1 then ((Sh.rs e s).mk st o [.sl r']).map fun y => (y.1, y.2.2) else none) = some (y, mv) := h
    split at h'
    · rename_i hc
      obtain ⟨rfl, _⟩ := hc
      obtain ⟨z, hz, he⟩ := Option.map_eq_some_iff.1 h'
      obtain ⟨z1, z2, z3⟩ := z
      simp only [Prod.mk.injEq] at he
      obtain ⟨rfl, rfl⟩ := he
      have h1 := (mk_OE hm (.rs e s) o [.sl r'] [u] z1 z2 z3 hz ⟨hu, trivial⟩ hv).1
      have hl := OE_len (.rs e s) _ _ _ _ ho
      have : old = [u] := by
        match old, hl, hold with
        | [a], _, hold => simp at hold; rw [hold]
      subst this
      exact h1
    · cases h'
  | .hr e s, x, o, off, old, y, mv, h, hold, hk, ho, hv => by
    have h' : (if off = 0 ∧ 1 = 1 then ((Sh.hr e s).mk st o [.sl r']).map fun y => (y.1, y.2.2) else none) = some (y, mv) := h
    split at h'
    · rename_i hc
      obtain ⟨rfl, _⟩ := hc
      obtain ⟨z, hz, he⟩ := Option.map_eq_some_iff.1 h'
      obtain ⟨z1, z2, z3⟩ := z
      simp only [Prod.mk.injEq] at he
      obtain ⟨rfl, rfl⟩ := he
      have h1 := (mk_OE hm (.hr e s) o [.sl r'] [u] z1 z2 z3 hz ⟨hu, trivial⟩ hv).1
      have hl := OE_len (.hr e s) _ _ _ _ ho
      have : old = [u] := by
        match old, hl, hold with
        | [a], _, hold => simp at hold; rw [hold]
      subst this
      exact h1
    · cases h'
  | .hv, x, o, off, old, y, mv, h, hold, hk, ho, hv => by
    have h' : (if off = 0 ∧ 1 = 1 then (mkHv [.sl r']).map fun y => (y.1, y.2.2) else none) = some (y, mv) := h
    split at h' <;> cases h'
  | .pair a b, x, o, off, old, y, mv, h, hold, hk, ho, hv => by
    have h' : (if off = 0 ∧ 1 = a.sz + b.sz then ((Sh.pair a b).mk st o [.sl r']).map fun y => (y.1, y.2.2)
      else if off + 1 ≤ a.sz then (a.put st x.1 o off 1 [.sl r']).map fun y => ((y.1, x.2), y.2)
      else if a.sz ≤ off then (b.put st x.2 (o + a.sz) (off - a.sz) 1 [.sl r']).map fun y => ((x.1, y.1), y.2)
      else none) = some (y, mv) := h
    have ha := a.sz_pos
    have hb := b.sz_pos
    rw [if_neg (by omega)] at h'
    obtain ⟨c0, c1, rfl, h0, h1⟩ := ho
    have l0 := OE_len a _ _ _ _ h0
    have l1 := OE_len b _ _ _ _ h1
    split at h'
    · rename_i hle
      obtain ⟨z, hz, he⟩ := Option.map_eq_some_iff.1 h'
      obtain ⟨z1, z2⟩ := z
      have he1 : (z1, x.2) = y := congrArg Prod.fst he
      have he2 : z2 = mv := congrArg Prod.snd he
      subst he1; subst he2
      rw [List.getElem?_append_left (by omega)] at hold
      refine ⟨c0, c1, rfl, put1_OE hm hzf hu hfr a x.1 o off c0 z1 z2 hz hold hk h0 hv, ?_⟩
      exact OE_moveR (o + a.sz) (o + a.sz + b.sz) (fun k d m hk' h2 h3 hl => hfr k d m hk' (by omega) hl) hzf b (o + a.sz) x.2 c1 (by omega) (by omega) h1
    · split at h'
      · rename_i hge
        obtain ⟨z, hz, he⟩ := Option.map_eq_some_iff.1 h'
        obtain ⟨z1, z2⟩ := z
        have he1 : (x.1, z1) = y := congrArg Prod.fst he
        have he2 : z2 = mv := congrArg Prod.snd he
        subst he1; subst he2
        rw [List.getElem?_append_right (by omega), l0] at hold
        refine ⟨c0, c1, rfl, ?_, put1_OE hm hzf hu hfr b x.2 (o + a.sz) (off - a.sz) c1 z1 z2 hz hold (by omega) h1 hv⟩
        exact OE_moveR o (o + a.sz) (fun k d m hk' h2 h3 hl => hfr k d m hk' (by omega) hl) hzf a o x.1 c0 (by omega) (by omega) h0
      · cases h'
section
variable {st : St} {g : Gh} {w w2 : World} (hm : Mem st.boxes st.rows g w2)
include hm
theorem attach_rel {st3 : St} {H : Hole} (h : st.attach H = some st3) {zf : World} (hzf : Cle zf g.rz) {T : Lab} {v : Value} {blk n c : Nat} (hv : g.rw[H.r]? = some v) (hq : g.rw[H.q]? = some (.slice (some ⟨blk, 0, none⟩) n c)) (hin : H.i < n) (hcell : w.cell? ((⟨blk, 0, none⟩ : Addr).add (H.i * H.row.s.sz + H.off)) = some v)
    (hO : Own H.row.s H.row.e zf w 0 T H.q [] (.slice (some ⟨blk, 0, none⟩) n c) H.row.xs)
    (hfr : ∀ k m, k < w.heap.size → T k = some (H.q, m) → (∀ m', m ≠ H.i :: H.off :: m') → w2.heap[k]? = w.heap[k]? ∧ g.tag k = some (H.q, m)) :
    ∃ g3, g.le g3 ∧ Mem st3.boxes st3.rows g3 w2 ∧ st3.tmps = st.tmps := by
  unfold St.attach at h
  split at h
  · rename_i y mv hput
    split at h
    · rename_i hc
      obtain ⟨hok, hnq⟩ := hc
      injection h with h
      subst h
      obtain ⟨hvo, inner, hown, hel⟩ := hO
      rcases hown.2 with ⟨he, _⟩ | ⟨gb, cap', cur, he, hbg, hh, hc1, hc2, hcs, htk⟩
      · cases he
      injection he with he1 he2 he3
      injection he1 with he1
      injection he1 with he1
      subst he1; subst he2; subst he3
      have hlab : T blk = some (H.q, []) := hvo blk rfl
      have hblk : blk < w.heap.size := cell_lt hcell
      have hsz := H.row.s.sz_pos
      have hstay0 : ∀ k m, g.tag k = some (H.q, m) → labPut H.q H.i mv g.tag k = some (H.q, m) := by
        intro k m hl
        unfold labPut
        rw [hl]
        simp only [lookup_none1 hnq]
      have hstay : ∀ k m, k < w.heap.size → T k = some (H.q, m) → (∀ m', m ≠ H.i :: H.off :: m') → w2.heap[k]? = w.heap[k]? ∧ labPut H.q H.i mv g.tag k = some (H.q, m) :=
        fun k m hk hl hne => ⟨(hfr k m hk hl hne).1, hstay0 k m (hfr k m hk hl hne).2⟩
      have hmove : Moves g w2 w2 (labPut H.q H.i mv g.tag) H.q H.i mv := by
        intro q o hq k m hk hl
        refine ⟨rfl, ?_⟩
        unfold labPut
        rw [hl]
        simp only [mvOk1_get hok hq]
        rfl
      have hx : H.row.xs[H.i]? = some (H.row.xs.getD H.i H.row.s.dflt) := by
        rw [List.getD_eq_getElem?_getD, List.getElem?_eq_getElem hin]
        rfl
      have hgo : ((inner.drop (H.i * H.row.s.sz)).take H.row.s.sz)[H.off]? = some v := by
        have hlen := OE_len _ _ _ _ _ (hel H.i _ hx)
        have hoff : H.off < H.row.s.sz := put_lt _ _ _ _ _ hput
        obtain ⟨u, hu⟩ : ∃ u, ((inner.drop (H.i * H.row.s.sz)).take H.row.s.sz)[H.off]? = some u := ⟨_, List.getElem?_eq_getElem (by rw [hlen]; exact hoff)⟩
        rw [hu]
        have hu2 := hu
        rw [List.getElem?_take, if_pos hoff, List.getElem?_drop] at hu2
        have := own_cells ⟨hown.1, .inr ⟨blk, c, cur, rfl, hbg, hh, hc1, hc2, hcs, htk⟩⟩ _ _ hu2
        rw [hcell] at this
        exact this.symm
      have hnew := put1_OE (w := w) (lab := T) (lab' := labPut H.q H.i mv g.tag) (k0 := H.off) hm hzf hv (fun k d m hk hd hl => hstay k _ hk hl (by
        intro m' he
        injection he with _ he
        injection he with he _
        exact hd he)) H.row.s _ 0 H.off _ y mv hput hgo (Nat.zero_add _) (hel H.i _ hx) hmove
      refine ⟨⟨g.bx, g.rw, labPut H.q H.i mv g.tag, g.wz, g.lent, g.w0, g.rz⟩, ⟨fun h => h, fun h => h, rfl, fun h => h, fun h => h, fun h => .inl h⟩, ⟨hm.bl, fun {b t cs bk} h1 h2 => ?_, fun {b bk} h1 => ⟨?_, (hm.free h1).2⟩, hm.inj, by simp [killed_length, hm.rl], fun {r' row' v'} h1 h2 => ?_, hm.st.mono rfl (fun _ => rfl) rfl, fun {k x} hk => ?_⟩, rfl⟩
      · obtain ⟨vs, hh', hF⟩ := hm.box h1 h2
        exact ⟨vs, hh', hF.imp fun _ _ => AL.R_le ⟨fun h => h, fun h => h, rfl, fun h => h, fun h => h, fun h => .inl h⟩⟩
      · show labPut H.q H.i mv g.tag bk = none
        unfold labPut
        rw [(hm.free h1).1]
      · by_cases e : r' = H.q
        · subst e
          have hlt : H.q < (killed (mv.map (·.1)) 0 st.rows).length := by rw [killed_length, hm.rl]; exact (List.getElem?_eq_some_iff.1 hq).1
          rw [List.getElem?_set_self hlt] at h1
          injection h1 with h1
          subst h1
          have h2' : g.rw[H.q]? = some v' := h2
          rw [hq] at h2'
          injection h2' with h2'
          subst h2'
          unfold RowRel
          refine ⟨fun k hk => ?_, inner, ⟨?_, .inr ⟨blk, c, cur, by rw [List.length_set], hbg, ?_, by rw [List.length_set]; exact hc1, hc2, hcs, by rw [List.length_set]; exact htk⟩⟩, fun j x hj => ?_⟩
          · obtain rfl : k = blk := by simpa [Value.ownBlock] using hk.symm
            exact (hstay k [] hblk hlab (fun m' he => by cases he)).2
          · rw [List.length_set]; exact hown.1
          · rw [(hstay blk [] hblk hlab (fun m' he => by cases he)).1]; exact hh
          · by_cases ej : j = H.i
            · subst ej
              rw [List.getElem?_set_self hin] at hj
              injection hj with hj
              subst hj
              exact hnew
            · rw [List.getElem?_set_ne (Ne.symm ej)] at hj
              exact OE_move (q := [j]) (q' := [j]) (fun k m hk _ hl => hstay k _ hk hl (by
                intro m' he
                injection he with he _
                exact ej he)) (Nat.le_refl _) hzf H.row.s [] 0 x _ (hel j x hj)
        · rw [List.getElem?_set_ne (Ne.symm e)] at h1
          obtain ⟨row0, h3, h4⟩ := killed_get _ 0 st.rows h1
          rcases h4 with h4 | ⟨hc, rfl⟩
          · unfold RowRel
            rw [h4]
            exact (hm.row h3 h2).slice
          · refine (hm.row h3 h2).move rfl (fun h => h) (fun h => h) fun k m hro hk hl => ⟨?_, rfl⟩
            show labPut H.q H.i mv g.tag k = _
            unfold labPut
            rw [hl]
            rw [Nat.zero_add] at hc
            simp only [lookup_none1 (hc hro)]
      · have hk' : labPut H.q H.i mv g.tag k = some x := hk
        unfold labPut at hk'
        cases hl : g.tag k with
        | none => rw [hl] at hk'; cases hk'
        | some y => exact hm.dom hl
    · cases h
  · cases h
end
end Go.Proofs.YtmbcnpbgcfiafaaGreat.Vm
