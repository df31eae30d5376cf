/- A walk by reckoning: a new row of the call's own in the state; append. -/
import Derived.Test.YtmbcnpbgcfiafaaGreatVmI
namespace Go.Proofs.YtmbcnpbgcfiafaaGreat.Vm
open Go Go.RowKit Go.Proofs.YtmbcnpbgcfiafaaGreatW.PrintWords
set_option linter.unusedVariables false
set_option linter.unusedSimpArgs false

def Md.rootOf : Md → Option Nat
  | .brw q => some q
  | _ => none
def dies (ids : List Nat) (n : Nat) (md : Md) : Bool := !md.isRo && ids.contains (md.root n)
def killed (ids : List Nat) : Nat → List Row → List Row
  | _, [] => []
  | n, r :: rs => (if dies ids n r.md = true then { r with md := .dead } else r) :: killed ids (n + 1) rs
theorem killed_length (ids : List Nat) : ∀ (n : Nat) (rs : List Row), (killed ids n rs).length = rs.length
  | _, [] => rfl
  | n, r :: rs => by simp [killed, killed_length ids (n + 1) rs]
theorem killed_get (ids : List Nat) : ∀ (n : Nat) (rs : List Row) {i : Nat} {row : Row}, (killed ids n rs)[i]? = some row → ∃ row0, rs[i]? = some row0 ∧ (row.md = .dead ∨ ((row0.md.isRo = false → ids.contains (row0.md.root (n + i)) = false) ∧ row = row0))
  | _, [], i, row, h => by simp [killed] at h
  | n, r :: rs, 0, row, h => by
    simp only [killed, List.getElem?_cons_zero, Option.some.injEq] at h
    refine ⟨r, rfl, ?_⟩
    unfold dies at h
    split at h
    · rename_i hc; exact .inl (by rw [← h])
    · rename_i hc; exact .inr ⟨fun h0 => by simpa [h0] using hc, h.symm⟩
  | n, r :: rs, i + 1, row, h => by
    simp only [killed, List.getElem?_cons_succ] at h
    obtain ⟨row0, h1, h2⟩ := killed_get ids (n + 1) rs h
    exact ⟨row0, by simpa using h1, by rw [show n + (i + 1) = n + 1 + i from by omega]; exact h2⟩
theorem killed_at (ids : List Nat) : ∀ (n : Nat) (rs : List Row) {i : Nat} {row : Row}, rs[i]? = some row → (killed ids n rs)[i]? = some (if dies ids (n + i) row.md = true then { row with md := .dead } else row)
  | _, [], i, row, h => by simp at h
  | n, r :: rs, 0, row, h => by
    simp at h
    subst h
    simp [killed]
  | n, r :: rs, i + 1, row, h => by
    simp at h
    have := killed_at ids (n + 1) rs h
    rw [show n + (i + 1) = n + 1 + i from by omega]
    simpa [killed] using this
theorem Mem.turnE {bs : List (TypeId × List AL)} {rs : List Row} {g : Gh} {w w1 : World} (h : Mem bs rs g w) (ids : List Nat) (lab' : Lab) (v : Value) (row : Row) (hmd : row.md = .own)
    (hb : Stab g w1) (hdom : ∀ k x, lab' k = some x → g.fz k = none) (hkeep : ∀ k, k < w.heap.size → (∀ r m, g.tag k = some (r, m) → ids.contains r = false) → w1.heap[k]? = w.heap[k]? ∧ lab' k = g.tag k)
    (hnew : Own row.s row.e g.rz w1 0 lab' rs.length [] v row.xs) :
    Mem bs (killed ids 0 rs ++ [row]) ⟨g.bx, g.rw ++ [v], lab', g.wz, g.lent, g.w0, g.rz⟩ w1 := by
  have hle : g.le ⟨g.bx, g.rw ++ [v], lab', g.wz, g.lent, g.w0, g.rz⟩ := ⟨fun h => h, get_append_some, rfl, fun h => h, fun h => h, fun h => .inl h⟩
  have hbox : ∀ {b blk : Nat}, g.bx[b]? = some blk → w1.heap[blk]? = w.heap[blk]? ∧ lab' blk = none := by
    intro b blk hb'
    have h0 := (h.free hb').1
    have := hkeep blk (h.bx_lt hb') (fun r m hr => by rw [h0] at hr; cases hr)
    rw [h0] at this
    exact this
  refine ⟨h.bl, fun {b t cs blk} h1 h2 => ?_, fun {b blk} h1 => ⟨(hbox h1).2, (h.free h1).2⟩, h.inj, by simp [killed_length, h.rl], fun {r row' v'} h1 h2 => ?_, hb.mono rfl (fun _ => rfl) rfl, fun {k x} hk => hdom k x hk⟩
  · obtain ⟨vs, hh, hF⟩ := h.box h1 h2
    exact ⟨vs, by rw [(hbox h2).1]; exact hh, hF.imp fun _ _ => AL.R_le hle⟩
  · rcases get_append_inv h1 with h1 | ⟨e1, e2⟩
    · have hlt : r < g.rw.length := by rw [← h.rl, ← killed_length ids 0 rs]; exact (List.getElem?_eq_some_iff.1 h1).1
      rcases get_append_inv h2 with h2 | ⟨e, _⟩
      · obtain ⟨row0, h3, h4⟩ := killed_get ids 0 rs h1
        rcases h4 with h4 | ⟨hc, rfl⟩
        · unfold RowRel
          rw [h4]
          exact (h.row h3 h2).slice
        · exact (h.row h3 h2).move rfl get_append_some (fun h => h) fun k m h0 hk hl => by
            have := hkeep k hk (fun r' m' hr => by rw [hl] at hr; injection hr with hr; injection hr with hr; subst hr; simpa using hc h0)
            exact ⟨this.2.trans hl, this.1⟩
      · omega
    · rcases get_append_inv h2 with h2 | ⟨_, e3⟩
      · have := (List.getElem?_eq_some_iff.1 h2).1
        rw [killed_length] at e1
        have := h.rl
        omega
      · rw [killed_length] at e1
        subst e1; subst e2; subst e3
        unfold RowRel
        rw [hmd]
        exact hnew
theorem Mem.turn {bs : List (TypeId × List AL)} {rs : List Row} {g : Gh} {w w1 : World} (h : Mem bs rs g w) (ids : List Nat) (lab' : Lab) (v : Value) (row : Row) (hmd : row.md = .own)
    (hb : Stab g w1) (hdom : ∀ k x, lab' k = some x → g.fz k = none) (hkeep : ∀ k, k < w.heap.size → (∀ r m, g.tag k = some (r, m) → ids.contains r = false) → w1.heap[k]? = w.heap[k]? ∧ lab' k = g.tag k)
    (hnew : Own row.s row.e g.rz w1 0 lab' rs.length [] v row.xs) :
    ∃ g', g.le g' ∧ g'.rw = g.rw ++ [v] ∧ Mem bs (killed ids 0 rs ++ [row]) g' w1 :=
  ⟨⟨g.bx, g.rw ++ [v], lab', g.wz, g.lent, g.w0, g.rz⟩, ⟨fun h => h, get_append_some, rfl, fun h => h, fun h => h, fun h => .inl h⟩, rfl, h.turnE ids lab' v row hmd hb hdom hkeep hnew⟩

def Sh.flat : Sh → Bool
  | .sl _ _ => false
  | .rs _ _ => false
  | .hr _ _ => false
  | .hv => false
  | .pair a b => a.flat && b.flat
  | _ => true
theorem flat_OE {z w w1 : World} {base : Nat} {lab : Lab} {r : Nat} : ∀ (s : Sh), s.flat = true → ∀ (p : List Nat) (o : Nat) (x : s.den) (cs : List Value), s.kd.K w x cs → OE z w1 base lab r s p o x cs
  | .int _, _, _, _, _, _, h => h
  | .bool, _, _, _, _, _, h => h
  | .str, _, _, _, _, _, h => h
  | .sl _ _, h, _, _, _, _, _ => by cases h
  | .rs _ _, h, _, _, _, _, _ => by cases h
  | .hr _ _, h, _, _, _, _, _ => by cases h
  | .hv, h, _, _, _, _, _ => by cases h
  | .pair a b, h, p, o, x, cs, hK => by
    simp only [Sh.flat, Bool.and_eq_true] at h
    obtain ⟨c0, c1, e, h0, h1⟩ : ∃ c0 c1, cs = c0 ++ c1 ∧ a.kd.K w x.1 c0 ∧ b.kd.K w x.2 c1 := hK
    exact ⟨c0, c1, e, flat_OE a h.1 _ _ _ _ h0, flat_OE b h.2 _ _ _ _ h1⟩

theorem append0 {P : Program} {t ty e : TypeId} {i : TypeInfo} (ht : P.underlying t = some (.slice e)) (hi : P.info? e = some i) {A B : Option Addr} {n c d : Nat} (hn : n ≤ c) (w : World) :
    (Builtin.append_ #[t, t] ty #[.slice A n c, .slice B 0 d]).run P w = .ok (.slice A n c) w := by
  unfold Builtin.append_
  simp only [List.getElem?_toArray, List.getElem?_cons_zero, List.getElem?_cons_succ, Sem.run_bind, run_underlying ht, Result.andThen_ok]
  cases A <;> cases B <;> simp [sizeOf, typeInfo, hi, Builtin.lenOf, hn, Builtin.firstCells, loadCells, loadCellsFrom, storeCells]
section
variable {wz w w1 : World} {base : Nat} {lab : Lab}
theorem C_cells {s : Sh} {A : Option Addr} {xs : List s.den} (h : s.kd.C w A xs.length xs) (hp : 0 < xs.length) : ∃ (ad : Addr) (cs : List Value), A = some ad ∧ cs.length = xs.length * s.sz ∧ (∀ (i : Nat) (x : s.den), xs[i]? = some x → s.kd.K w x ((cs.drop (i * s.sz)).take s.sz)) ∧ ∀ j u, cs[j]? = some u → w.cell? (ad.add j) = some u := by
  obtain ⟨ad, rfl, _⟩ := h.2.2 hp
  obtain ⟨inner, hr, hc⟩ := ReadsRow.inner_ h
  rw [s.kd_sz] at hr
  exact ⟨ad, inner, rfl, hr.1, hr.2, hc⟩
theorem segs_one {α : Type} {sz : Nat} (hp : 0 < sz) {xs : List α} {cs : List Value} (hl : cs.length = xs.length * sz) (h : ∀ (i : Nat) (x : α), xs[i]? = some x → ∀ u ∈ (cs.drop (i * sz)).take sz, u.oneCell' = true) : ∀ u ∈ cs, u.oneCell' = true := by
  intro u hu
  obtain ⟨j, hj, rfl⟩ := List.getElem_of_mem hu
  have hdm := Nat.div_add_mod j sz
  have hmod := Nat.mod_lt j hp
  have hd : j / sz < xs.length := by rw [Nat.div_lt_iff_lt_mul hp]; omega
  refine h (j / sz) _ (List.getElem?_eq_getElem hd) _ ?_
  rw [List.mem_take_iff_getElem]
  have e : j / sz * sz + j % sz = j := by rw [Nat.mul_comm]; exact hdm
  refine ⟨j % sz, by rw [List.length_drop]; omega, ?_⟩
  rw [List.getElem_drop]
  congr 1
def relab (n r1 len : Nat) (q : Option Nat) (size : Nat) (lab : Lab) : Lab := fun k =>
  if k < size then
    match lab k with
    | some (r, m) =>
      if r = r1 then some (n, m)
      else if q = some r then
        match m with
        | j :: m' => some (n, (len + j) :: m')
        | [] => some (r, [])
      else some (r, m)
    | none => none
  else some (n, [])
theorem append_run {P : Program} {t ty e : TypeId} {i : TypeInfo} {z : Value} {s : Sh} (ht : P.underlying t = some (.slice e)) (hi : P.info? e = some i) (hz : i.zero = some z) (hsz : i.size = s.sz) (hzs : z.cells.size = s.sz) (hb0 : 0 < i.bytes)
    {r1 n : Nat} {q : Option Nat} {v x : Value} {xs ys : List s.den} (hv : Own s e wz w base lab r1 [] v xs) {B : Option Addr} {d : Nat} (hx : x = .slice B ys.length d) (hC : s.kd.C w B ys.length ys)
    (hbase : base ≤ w.heap.size) (hlen : (xs.length + ys.length) * i.bytes ≤ 140737488355328)
    (hsrc : s.flat = true ∨ (∃ q0, q = some q0 ∧ q0 ≠ r1 ∧ Own s e wz w base lab q0 [] x ys) ∨ (s.shal = true ∧ s.kd.C wz B ys.length ys ∧ Cle wz w)) :
    ∃ v' w', (Builtin.append_ #[t, t] ty #[v, x]).run P w = .ok v' w' ∧ w.grownBy w' v.ownBlock ∧ Own s e wz w' base (relab n r1 xs.length q w.heap.size lab) n [] v' (xs ++ ys) := by
  subst hx
  obtain ⟨hvo, inner, hown, hel⟩ := hv
  have hp := s.sz_pos
  -- the names of the old row's elements
  have old : ∀ (w' : World), (∀ k, k < w.heap.size → some k ≠ v.ownBlock → w'.heap[k]? = w.heap[k]?) → ∀ (j : Nat) (y : s.den) (cs : List Value), OE wz w base lab r1 s ([] ++ [j]) 0 y cs → OE wz w' base (relab n r1 xs.length q w.heap.size lab) n s ([] ++ [j]) 0 y cs := by
    intro w' hk j y cs h
    refine OE_move (q := [j]) (q' := [j]) (fun k m hlt _ hl => ⟨hk k hlt fun he => ?_, ?_⟩) (Nat.le_refl _) (fun _ _ h => h) s [] 0 y cs h
    · have := hvo k he.symm
      rw [hl] at this
      injection this with this
      injection this with _ this
      cases this
    · unfold relab
      rw [if_pos hlt, hl]
      simp
  rcases Nat.eq_zero_or_pos ys.length with h0 | hpos
  · have hy : ys = [] := List.eq_nil_of_length_eq_zero h0
    subst hy
    obtain ⟨A, c, hA⟩ := own_slice hown
    have hle := own_le (hA ▸ hown)
    refine ⟨v, w, ?_, ⟨rfl, rfl, rfl, Nat.le_refl _, fun _ _ _ => rfl⟩, fun k hk => ?_, inner, by simpa using hown, fun j y hj => ?_⟩
    · rw [hA]
      exact append0 ht hi hle w
    · have := hvo k hk
      unfold relab
      rw [if_pos (own_lt hown k hk), this]
      simp
    · rw [List.append_nil] at hj
      exact old w (fun _ _ _ => rfl) j y _ (hel j y hj)
  · obtain ⟨ad, cy, rfl, hcl, hck, hcell⟩ := C_cells hC hpos
    have hone : ∀ u ∈ cy, u.oneCell' = true := segs_one hp hcl fun j y hj => s.kd.K_one (hck j y hj)
    have hn : xs.length + ys.length ≤ 140737488355328 := Nat.le_trans (Nat.le_mul_of_pos_right _ hb0) hlen
    obtain ⟨v', w', hr, hown', hg, _, hat⟩ := run_append_own_at (P := P) (w := w) base t ty e i z s.sz i.bytes ht hi hz hsz rfl hzs hp v xs.length inner hown ad ys.length d cy hcl hcell hone (by simp only [maxLen]; omega) hlen hbase
    refine ⟨v', w', hr, hg, fun k hk => ?_, inner ++ cy, by rw [List.length_append]; exact hown', fun j y hj => ?_⟩
    · rcases hat with hat | hat
      · rw [hat] at hk
        have := hvo k hk
        unfold relab
        rw [if_pos (own_lt hown k hk), this]
        simp
      · rw [hat] at hk
        injection hk with hk
        unfold relab
        rw [if_neg (by omega)]
    · rcases Nat.lt_or_ge j xs.length with hlt | hge
      · rw [List.getElem?_append_left hlt] at hj
        have hin : (inner ++ cy).drop (j * s.sz) = inner.drop (j * s.sz) ++ cy := by
          rw [List.drop_append_of_le_length]
          rw [hown.1]
          exact Nat.mul_le_mul_right _ (by omega)
        have htk : ((inner.drop (j * s.sz)) ++ cy).take s.sz = (inner.drop (j * s.sz)).take s.sz := by
          rw [List.take_append_of_le_length]
          rw [List.length_drop, hown.1]
          have : j * s.sz + s.sz ≤ xs.length * s.sz := by rw [← Nat.succ_mul]; exact Nat.mul_le_mul_right _ hlt
          omega
        rw [hin, htk]
        exact old w' (fun k hk hne => hg.block k hk hne) j y _ (hel j y hj)
      · rw [List.getElem?_append_right hge] at hj
        have hin : (inner ++ cy).drop (j * s.sz) = cy.drop ((j - xs.length) * s.sz) := by
          rw [List.drop_append, List.drop_of_length_le (by rw [hown.1]; exact Nat.mul_le_mul_right _ hge), List.nil_append, hown.1, Nat.sub_mul]
        rw [hin]
        rcases hsrc with hf | ⟨q0, rfl, hne, hq⟩ | ⟨hsh, hCz, hcle⟩
        · exact flat_OE s hf _ _ _ _ (hck _ y hj)
        · obtain ⟨hqo, innq, hownq, helq⟩ := hq
          obtain ⟨gq, capq, heq, _, _⟩ := hownq.form hpos
          injection heq with heq
          injection heq with heq
          subst heq
          have hcq : innq = cy := by
            apply List.ext_getElem?
            intro idx
            have h1 : innq.length = cy.length := by rw [hownq.1, hcl]
            rcases Nat.lt_or_ge idx innq.length with hi1 | hi1
            · have h2 := hownq.cells (g := gq) rfl idx _ (List.getElem?_eq_getElem hi1)
              have h3 := hcell idx _ (List.getElem?_eq_getElem (show idx < cy.length by omega))
              rw [h2] at h3
              injection h3 with h3
              rw [List.getElem?_eq_getElem hi1, List.getElem?_eq_getElem (show idx < cy.length by omega), h3]
            · rw [List.getElem?_eq_none hi1, List.getElem?_eq_none (by omega)]
          subst hcq
          have h5 := helq (j - xs.length) y hj
          refine OE_move (q := [j - xs.length]) (q' := [j]) (fun k m hlt _ hl => ⟨hg.block k hlt fun he => ?_, ?_⟩) (Nat.le_refl _) (fun _ _ h => h) s [] 0 y _ h5
          · have := hvo k he.symm
            rw [hl] at this
            injection this with this
            injection this with this _
            exact hne this
          · unfold relab
            rw [if_pos hlt, hl]
            simp only [List.cons_append, List.nil_append, if_neg hne, if_true]
            rw [show xs.length + (j - xs.length) = j from by omega]
        · obtain ⟨ad2, cy2, he, hcl2, hck2, hcell2⟩ := C_cells hCz hpos
          injection he with he
          subst he
          have hcq : cy2 = cy := by
            apply List.ext_getElem?
            intro idx
            rcases Nat.lt_or_ge idx cy2.length with hi1 | hi1
            · have h2 := hcle _ _ (hcell2 idx _ (List.getElem?_eq_getElem hi1))
              have h3 := hcell idx _ (List.getElem?_eq_getElem (show idx < cy.length by omega))
              rw [h2] at h3
              injection h3 with h3
              rw [List.getElem?_eq_getElem hi1, List.getElem?_eq_getElem (show idx < cy.length by omega), h3]
            · rw [List.getElem?_eq_none hi1, List.getElem?_eq_none (by omega)]
          subst hcq
          exact (OE_shal s hsh _ _ _ _).2 (hck2 _ y hj)
end
end Go.Proofs.YtmbcnpbgcfiafaaGreat.Vm
