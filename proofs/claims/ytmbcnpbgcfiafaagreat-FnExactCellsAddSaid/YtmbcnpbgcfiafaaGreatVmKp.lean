/- A walk by reckoning: a row whose elements lie here by their heads is lent, and its elements may be moved about there. -/
import Derived.Test.YtmbcnpbgcfiafaaGreatVmCl
namespace Go.Proofs.YtmbcnpbgcfiafaaGreat.Vm
open Go Go.RowKit Go.Proofs.YtmbcnpbgcfiafaaGreatW.PrintWords
set_option linter.unusedVariables false
set_option linter.unusedSectionVars false
set_option linter.unusedSimpArgs false

def Sh.kp : Sh → Bool
  | .sl _ _ => false
  | .rs _ _ => false
  | .hv => false
  | .pair a b => a.kp && b.kp
  | _ => true
def Sh.kvs : Sh → Sh
  | .hr _ _ => .hv
  | .pair a b => .pair a.kvs b.kvs
  | s => s
def Sh.kdv : (s : Sh) → s.den → s.kvs.den
  | .int _, x => x
  | .bool, x => x
  | .str, x => x
  | .sl _ _, x => x
  | .rs _ _, x => x
  | .hr _ _, x => x.1
  | .hv, x => x
  | .pair a b, x => (a.kdv x.1, b.kdv x.2)
def Sh.klike : (s : Sh) → s.den → s.den → Prop
  | .hr _ _, x, y => x = y
  | .pair a b, x, y => a.klike x.1 y.1 ∧ b.klike x.2 y.2
  | .int _, _, _ => True
  | .bool, _, _ => True
  | .str, _, _ => True
  | .sl _ _, _, _ => True
  | .rs _ _, _, _ => True
  | .hv, _, _ => True
theorem Sh.kvs_sz : ∀ s : Sh, s.kvs.sz = s.sz
  | .int _ | .bool | .str | .sl _ _ | .rs _ _ | .hr _ _ | .hv => rfl
  | .pair a b => by show a.kvs.sz + b.kvs.sz = a.sz + b.sz; rw [a.kvs_sz, b.kvs_sz]
open Classical in
noncomputable def keep {ρ : Type} (s : Sh) (zs ys : List s.den) (k : Option ρ) : Option ρ := if ∀ y ∈ ys, ∃ z ∈ zs, s.klike y z then k else none
theorem keep_some {ρ : Type} {s : Sh} {zs ys : List s.den} {k : Option ρ} {r : ρ} (h : keep s zs ys k = some r) : (∀ y ∈ ys, ∃ z ∈ zs, s.klike y z) ∧ k = some r := by
  unfold keep at h
  split at h
  · rename_i ho; exact ⟨ho, h⟩
  · cases h
theorem keep_eq {ρ : Type} {s : Sh} {zs ys : List s.den} {k : Option ρ} (h : ∀ y ∈ ys, ∃ z ∈ zs, s.klike y z) : keep s zs ys k = k := by
  unfold keep
  rw [if_pos h]
section
variable {z z1 w w1 : World} {lab lab1 : Lab} {r r1 : Nat} {p p1 : List Nat} {base base1 : Nat}
theorem kdv_OE : ∀ (s : Sh) (o o1 : Nat) (x : s.den) (cs : List Value), s.kp = true → OE z w base lab r s p o x cs → OE z1 w1 base1 lab1 r1 s.kvs p1 o1 (s.kdv x) cs
  | .int _, _, _, _, _, _, h => h
  | .bool, _, _, _, _, _, h => h
  | .str, _, _, _, _, _, h => h
  | .sl _ _, _, _, _, _, hp, _ => by cases hp
  | .rs _ _, _, _, _, _, hp, _ => by cases hp
  | .hv, _, _, _, _, hp, _ => by cases hp
  | .hr _ _, _, _, _, _, _, h => h.2
  | .pair a b, o, o1, x, cs, hp, h => by
    obtain ⟨c0, c1, rfl, h0, h1⟩ := h
    have hp' : (a.kp && b.kp) = true := hp
    rw [Bool.and_eq_true] at hp'
    exact ⟨c0, c1, rfl, kdv_OE a o o1 x.1 c0 hp'.1 h0, kdv_OE b (o + a.sz) (o1 + a.kvs.sz) x.2 c1 hp'.2 h1⟩
theorem kp_OE (hz : Cle z z1) : ∀ (s : Sh) (o o1 : Nat) (x : s.den) (cs : List Value), s.kp = true → OE z w base lab r s p o x cs → OE z1 w1 base1 lab1 r1 s p1 o1 x cs
  | .int _, _, _, _, _, _, h => h
  | .bool, _, _, _, _, _, h => h
  | .str, _, _, _, _, _, h => h
  | .sl _ _, _, _, _, _, hp, _ => by cases hp
  | .rs _ _, _, _, _, _, hp, _ => by cases hp
  | .hv, _, _, _, _, hp, _ => by cases hp
  | .hr e s, _, _, x, _, _, h => ⟨(Sh.rs e s).K_cells_mono hz (x := x.2) h.1, h.2⟩
  | .pair a b, o, o1, x, cs, hp, h => by
    obtain ⟨c0, c1, rfl, h0, h1⟩ := h
    have hp' : (a.kp && b.kp) = true := hp
    rw [Bool.and_eq_true] at hp'
    exact ⟨c0, c1, rfl, kp_OE hz a o o1 x.1 c0 hp'.1 h0, kp_OE hz b (o + a.sz) (o1 + a.sz) x.2 c1 hp'.2 h1⟩
theorem keep_OE {z2 w2 : World} {lab2 : Lab} {r2 base2 : Nat} {p2 : List Nat} (hz : Cle z z2) : ∀ (s : Sh) (o o1 o2 : Nat) (x y : s.den) (cs0 cs : List Value), s.kp = true → OE z w base lab r s p o x cs0 → OE z1 w1 base1 lab1 r1 s.kvs p1 o1 (s.kdv y) cs → s.klike y x → OE z2 w2 base2 lab2 r2 s p2 o2 y cs
  | .int _, _, _, _, _, _, _, _, _, _, h, _ => h
  | .bool, _, _, _, _, _, _, _, _, _, h, _ => h
  | .str, _, _, _, _, _, _, _, _, _, h, _ => h
  | .sl _ _, _, _, _, _, _, _, _, hp, _, _, _ => by cases hp
  | .rs _ _, _, _, _, _, _, _, _, hp, _, _, _ => by cases hp
  | .hv, _, _, _, _, _, _, _, hp, _, _, _ => by cases hp
  | .hr e s, _, _, _, x, y, cs0, cs, _, h0, h1, hl => by
    have hl' : y = x := hl
    subst hl'
    have h1' : cs = [y.1.v] := h1
    have h2 : cs0 = [y.1.v] := h0.2
    subst h1'
    subst h2
    exact ⟨(Sh.rs e s).K_cells_mono hz (x := y.2) h0.1, rfl⟩
  | .pair a b, o, o1, o2, x, y, cs0, cs, hp, h0, h1, hl => by
    obtain ⟨c0, c1, rfl, h3, h4⟩ := h0
    obtain ⟨d0, d1, rfl, h5, h6⟩ := h1
    have hp' : (a.kp && b.kp) = true := hp
    rw [Bool.and_eq_true] at hp'
    exact ⟨d0, d1, rfl, keep_OE hz a o o1 o2 x.1 y.1 c0 d0 hp'.1 h3 h5 hl.1, keep_OE hz b _ _ _ x.2 y.2 c1 d1 hp'.2 h4 h6 hl.2⟩
end
def St.byKv (st : St) (r : Nat) (row : Row) : St := ⟨st.tmps, st.boxes, (killed [r] 0 st.rows).set r ⟨row.e, row.s.kvs, row.xs.map row.s.kdv, .own⟩⟩
def kFind (s : Sh) : Nat → List Row → Option (Nat × TypeId × List s.den)
  | _, [] => none
  | n, row :: rs =>
    match row.md with
    | .own =>
      match rowAs row s with
      | some ys => some (n, row.e, ys)
      | none => kFind s (n + 1) rs
    | _ => kFind s (n + 1) rs
theorem kFind_some {s : Sh} : ∀ {rs : List Row} {n : Nat} {j : Nat} {e : TypeId} {ys : List s.den}, kFind s n rs = some (j, e, ys) → n ≤ j ∧ rs[j - n]? = some ⟨e, s, ys, .own⟩
  | [], n, j, e, ys, h => by cases h
  | row :: rs, n, j, e, ys, h => by
    unfold kFind at h
    have next : kFind s (n + 1) rs = some (j, e, ys) → n ≤ j ∧ (row :: rs)[j - n]? = some ⟨e, s, ys, .own⟩ := by
      intro h
      obtain ⟨h1, h2⟩ := kFind_some h
      refine ⟨by omega, ?_⟩
      rw [show j - n = (j - (n + 1)) + 1 from by omega, List.getElem?_cons_succ]
      exact h2
    split at h
    · rename_i hmd
      split at h
      · rename_i ys' hys
        simp only [Option.some.injEq, Prod.mk.injEq] at h
        obtain ⟨rfl, rfl, rfl⟩ := h
        obtain ⟨hs, hx⟩ := rowAs_eq hys
        refine ⟨Nat.le_refl _, ?_⟩
        rw [Nat.sub_self, List.getElem?_cons_zero]
        obtain ⟨e, s', xs, md⟩ := row
        have hs' : s' = s := hs
        subst hs'
        have hmd' : md = .own := hmd
        subst hmd'
        have hx' : ys' = xs := hx
        subst hx'
        rfl
      · exact next h
    · exact next h
theorem byKv_mem {st : St} {g : Gh} {w : World} (hm : Mem st.boxes st.rows g w) {r : Nat} {row : Row} (hrow : st.rows[r]? = some row) (hmd : row.md = .own) (hp : row.s.kp = true) {v : Value} (hv : g.rw[r]? = some v) : Mem st.boxes (st.byKv r row).rows g w := by
  have hlt : r < st.rows.length := (List.getElem?_eq_some_iff.1 hrow).1
  have h1 : Mem st.boxes (killed [r] 0 st.rows) g w := hm.weaker (killed_length ..) fun {i row'} h => by
    obtain ⟨row0, h2, h3⟩ := killed_get [r] 0 st.rows h
    rcases h3 with h3 | ⟨_, h3⟩
    · exact .inl h3
    · subst h3
      exact .inr h2
  refine h1.setRow r _ fun v' hv' => ?_
  rw [hv] at hv'
  injection hv' with hv'
  subst hv'
  have ho := hm.row hrow hv
  unfold RowRel at ho ⊢
  rw [hmd] at ho
  obtain ⟨h2, inner, h3, h4⟩ := ho
  refine ⟨h2, inner, ?_, fun j y hy => ?_⟩
  · show w.ownsRow 0 row.e row.s.kvs.sz v (row.xs.map row.s.kdv).length inner
    rw [List.length_map, row.s.kvs_sz]
    exact h3
  · rw [List.getElem?_map, Option.map_eq_some_iff] at hy
    obtain ⟨x, hx, rfl⟩ := hy
    show OE _ _ _ _ _ row.s.kvs _ _ _ ((inner.drop (j * row.s.kvs.sz)).take row.s.kvs.sz)
    rw [row.s.kvs_sz]
    exact kdv_OE row.s 0 0 x _ hp (h4 j x hx)
theorem byKv_at {st : St} {r : Nat} {row : Row} (hrow : st.rows[r]? = some row) : (st.byKv r row).rows[r]? = some ⟨row.e, row.s.kvs, row.xs.map row.s.kdv, .own⟩ := by
  show ((killed [r] 0 st.rows).set r _)[r]? = _
  rw [List.getElem?_set_self (by rw [killed_length]; exact (List.getElem?_eq_some_iff.1 hrow).1)]
section
variable {st : St} {g : Gh} {w w' : World} (hm : Mem st.boxes st.rows g w) {r : Nat} {row : Row} (hrow : st.rows[r]? = some row) (hmd : row.md = .own) (hp : row.s.kp = true) {v : Value} (hv : g.rw[r]? = some v)
  {muts : List Nat} {avs : List AV} {m : Mini} (hmi : (st.byKv r row).mini muts avs = some m)
include hm hrow hmd hp hv hmi
theorem over_kv {i : Nat} (hi : m.R.idxOf? r = some i) {hsv : List Value} (hm2 : Mem m.boxes m.rows (g.over w m hsv) w) :
    Mem m.boxes (m.rows.set i ⟨row.e, row.s, row.xs, .own⟩) (g.over w m hsv) w ∧ ownN (m.rows.set i ⟨row.e, row.s, row.xs, .own⟩) = ownN m.rows := by
  obtain ⟨hB, hR, lr, r1, r2, hlr, _, _, hrows⟩ := mini_some hmi
  obtain ⟨hll, hlg⟩ := lentRows_get hlr
  have hiR := idx_get hi
  obtain ⟨row1, md1, h1, h2, h3⟩ := hlg hiR
  rw [byKv_at hrow] at h1
  injection h1 with h1
  subst h1
  simp only [Md.lend, Option.some.injEq] at h2
  subst h2
  have hat : m.rows[i]? = some ⟨row.e, row.s.kvs, row.xs.map row.s.kdv, .own⟩ := by
    rw [hrows, List.getElem?_append_left (List.getElem?_eq_some_iff.1 h3).1]
    exact h3
  refine ⟨hm2.setRow i _ fun v' hv' => ?_, ownN_set hat rfl rfl⟩
  have hv2 : v' = v := by
    have h4 : ((m.R.map fun r => g.rw.getD r undef) ++ hsv)[i]? = some v' := hv'
    rw [List.getElem?_append_left (by rw [List.length_map]; exact (List.getElem?_eq_some_iff.1 hiR).1), List.getElem?_map, hiR] at h4
    simp only [Option.map_some, Option.some.injEq] at h4
    rw [← h4]
    rw [List.getD_eq_getElem?_getD, hv]
    rfl
  subst hv2
  have ho := hm.row hrow hv
  unfold RowRel at ho ⊢
  rw [hmd] at ho
  obtain ⟨h4, inner, h5, h6⟩ := ho
  refine ⟨fun k hk => ?_, inner, h5, fun j x hx => ?_⟩
  · show (g.tag k).bind _ = _
    rw [h4 k hk]
    simp only [Option.bind_some, hi, Option.map_some]
  · show OE (wzOf g w m) w 0 _ i row.s ([] ++ [j]) 0 x _
    exact kp_OE (fun a u => cell_wz (st := st.byKv r row) (byKv_mem hm hrow hmd hp hv) (fun k hk => wzOf_get k hk)) row.s 0 0 x _ hp (h6 j x hx)
theorem back_kv {hsv : List Value} (hfull : Full (g.over w m hsv) w) (hlen : m.boxes.length = m.B.length) (hown : ownN m.rows = m.R.length) {res : Res} {g1 : Gh} {vs : List Value}
    (hext : (g.over w m hsv).ext (m.boxes.length, ownN m.rows) g1) (hm3 : Mem res.boxes res.rows g1 w') (hF1 : F2 (A1.R g1) res.rets vs) {j : Nat} {e' : TypeId} {ys : List row.s.den} (hj : kFind row.s 0 res.rows = some (j, e', ys)) (hk : ∀ y ∈ ys, ∃ z ∈ row.xs, row.s.klike y z)
    {st' : St} {rets : List A1} (hb : (st.byKv r row).backAt m { res with rows := res.rows.set j ⟨e', row.s.kvs, ys.map row.s.kdv, .own⟩ } = some (st', rets)) {q : Nat} (hq : st'.rows[q]? = some ⟨e', row.s.kvs, ys.map row.s.kdv, .own⟩) :
    ∃ g', g.le g' ∧ st'.tmps = st.tmps ∧ Mem st'.boxes (st'.rows.set q ⟨e', row.s, ys, .own⟩) g' w' ∧ F2 (A1.R g') rets vs := by
  obtain ⟨_, hjr⟩ := kFind_some hj
  rw [Nat.sub_zero] at hjr
  have hm3' : Mem res.boxes (res.rows.set j ⟨e', row.s.kvs, ys.map row.s.kdv, .own⟩) g1 w' := hm3.setRow j _ fun v' hv' => by
    have ho := hm3.row hjr hv'
    unfold RowRel at ho ⊢
    obtain ⟨h2, inner, h3, h4⟩ := ho
    refine ⟨h2, inner, ?_, fun i y hy => ?_⟩
    · show w'.ownsRow 0 e' row.s.kvs.sz v' (ys.map row.s.kdv).length inner
      rw [List.length_map, row.s.kvs_sz]
      exact h3
    · rw [List.getElem?_map, Option.map_eq_some_iff] at hy
      obtain ⟨x, hx, rfl⟩ := hy
      show OE _ _ _ _ _ row.s.kvs _ _ _ ((inner.drop (i * row.s.kvs.sz)).take row.s.kvs.sz)
      rw [row.s.kvs_sz]
      exact kdv_OE row.s 0 0 x _ hp (h4 i x hx)
  have hmk := byKv_mem hm hrow hmd hp hv
  obtain ⟨g', hg', hle, htm, hm', hF', _, _⟩ := back_rel3 (st := st.byKv r row) (res := { res with rows := res.rows.set j ⟨e', row.s.kvs, ys.map row.s.kdv, .own⟩ }) hmk hmi hfull hlen hown hext hm3' hF1 hb
  refine ⟨g', hle, htm, hm'.setRow q _ fun v' hv' => ?_, hF'⟩
  have ho := hm.row hrow hv
  unfold RowRel at ho
  rw [hmd] at ho
  obtain ⟨_, inner0, _, h6⟩ := ho
  have hoq := hm'.row hq hv'
  unfold RowRel at hoq ⊢
  obtain ⟨h2, inner, h3, h4⟩ := hoq
  refine ⟨h2, inner, ?_, fun i y hy => ?_⟩
  · have h3' : w'.ownsRow 0 e' row.s.kvs.sz v' (ys.map row.s.kdv).length inner := h3
    rw [List.length_map, row.s.kvs_sz] at h3'
    exact h3'
  · obtain ⟨z, hz, hl⟩ := hk y (List.mem_of_getElem? hy)
    obtain ⟨i0, hi0⟩ := List.getElem?_of_mem hz
    have h7 := h4 i (row.s.kdv y) (by show (ys.map row.s.kdv)[i]? = _; rw [List.getElem?_map, hy]; rfl)
    have h8 : OE g'.rz w' 0 g'.tag q row.s.kvs ([] ++ [i]) 0 (row.s.kdv y) ((inner.drop (i * row.s.kvs.sz)).take row.s.kvs.sz) := h7
    rw [row.s.kvs_sz] at h8
    exact keep_OE (fun a u => rz_cell (fun {k c e f} x => hle.rz x)) row.s 0 0 0 z y _ _ hp (h6 i0 z hi0) h8 hl
end
def qOf (R : List Nat) (L : Nat) (j : Nat) : Option Nat :=
  if j < R.length then
    match R[j]? with
    | some q => if R.idxOf? q = some j then some q else none
    | none => none
  else some (L + (j - R.length))
theorem setRows_at {R : List Nat} {news : List Row} : ∀ (rs : List Row) (n i : Nat) {r0 : Row}, rs[i]? = some r0 → (setRows R news n rs)[i]? = some (match R.idxOf? (n + i) with
    | some k => ((news[k]?).getD r0).orOld r0
    | none => r0)
  | [], n, i, r0, h => by simp at h
  | r :: rs, n, 0, r0, h => by
    simp at h
    subst h
    rfl
  | r :: rs, n, i + 1, r0, h => by
    simp at h
    have := setRows_at (R := R) (news := news) rs (n + 1) i h
    rw [show n + (i + 1) = n + 1 + i from by omega]
    simpa [setRows] using this
theorem backAt_rows {st : St} {m : Mini} {res : Res} {y : St × List A1} (hb : st.backAt m res = some y) : y.1.rows = setRows m.R (res.rows.take m.R.length) 0 (killed m.R 0 st.rows) ++ res.rows.drop m.R.length := by
  unfold St.backAt at hb
  split at hb
  · have := Option.some.inj hb
    rw [← this]
  · cases hb
theorem back_row {st : St} {muts : List Nat} {avs : List AV} {m : Mini} (hmi : st.mini muts avs = some m) {res : Res} {st' : St} {rets : List A1} (hb : st.backAt m res = some (st', rets)) {j q : Nat} {row : Row} (hq : qOf m.R st.rows.length j = some q) (hj : res.rows[j]? = some row) (hmd : row.md = .own) : st'.rows[q]? = some row := by
  have hrows : st'.rows = _ := backAt_rows hb
  rw [hrows]
  obtain ⟨_, hR, lr, _, _, hlr, _, _, _⟩ := mini_some hmi
  obtain ⟨hll, hlg⟩ := lentRows_get hlr
  generalize m.R = R at *
  generalize res.rows = rr at *
  clear hb hmi hrows
  have hlen : (setRows R (rr.take R.length) 0 (killed R 0 st.rows)).length = st.rows.length := by rw [setRows_get.1, killed_length]
  unfold qOf at hq
  by_cases hjl : j < R.length
  · rw [if_pos hjl] at hq
    cases hq' : R[j]? with
    | none => rw [hq'] at hq; cases hq
    | some q' =>
      rw [hq'] at hq
      simp only at hq
      by_cases hidx : R.idxOf? q' = some j
      · rw [if_pos hidx] at hq
        have hq := Option.some.inj hq
        subst hq
        obtain ⟨row1, md1, h1, _, _⟩ := hlg hq'
        have hlt : q' < st.rows.length := (List.getElem?_eq_some_iff.1 h1).1
        rw [List.getElem?_append_left (by rw [hlen]; exact hlt), setRows_at _ 0 q' (killed_at R 0 st.rows h1), Nat.zero_add, hidx]
        have h2 : (rr.take R.length)[j]? = some row := by rw [List.getElem?_take, if_pos hjl]; exact hj
        show some ((((rr.take R.length)[j]?).getD _).orOld _) = _
        rw [h2, Option.getD_some]
        unfold Row.orOld
        rw [hmd]
      · rw [if_neg hidx] at hq
        cases hq
  · rw [if_neg hjl] at hq
    have hq := Option.some.inj hq
    subst hq
    rw [List.getElem?_append_right (by rw [hlen]; omega), hlen, List.getElem?_drop]
    rw [show R.length + (st.rows.length + (j - R.length) - st.rows.length) = j from by omega]
    exact hj
end Go.Proofs.YtmbcnpbgcfiafaaGreat.Vm
