/- A walk by reckoning, third part: memory that is read, the call's own structs written, new rows. -/
import Derived.Test.YtmbcnpbgcfiafaaGreatVmB
import Derived.Laws.CopyRow
namespace Go.Proofs.YtmbcnpbgcfiafaaGreat.Vm
open Go Go.RowKit Go.Proofs.YtmbcnpbgcfiafaaGreatW.PrintWords
set_option linter.unusedVariables false
set_option linter.unusedSimpArgs false

theorem add2 (a : Addr) (i j : Nat) : (a.add i).add j = a.add (i + j) := by
  unfold Addr.add
  by_cases h1 : i = 0 <;> by_cases h2 : j = 0 <;> simp [h1, h2, Nat.add_assoc]
theorem RowRel.same {g g' : Gh} {w : World} {r : Nat} {row : Row} {v : Value} (h : RowRel g w r row v) (ht : g'.tag = g.tag) (hf : g'.rz = g.rz) (hw : g'.w0 = g.w0) (hr : ∀ {i : Nat} {x : Value}, g.rw[i]? = some x → g'.rw[i]? = some x) : RowRel g' w r row v :=
  h.move hw hr (fun {k c e f} x => by rw [hf]; exact x) fun k m _ _ hl => ⟨by rw [ht]; exact hl, rfl⟩
theorem Mem.addRow {bs : List (TypeId × List AL)} {rs : List Row} {g : Gh} {w : World} (h : Mem bs rs g w) (row : Row) (v : Value) (hr : RowRel g w rs.length row v) :
    ∃ g', g.le g' ∧ g'.rw = g.rw ++ [v] ∧ g'.tag = g.tag ∧ g'.rz = g.rz ∧ Mem bs (rs ++ [row]) g' w := by
  have hle : g.le ⟨g.bx, g.rw ++ [v], g.tag, g.wz, g.lent, g.w0, g.rz⟩ := ⟨fun h => h, get_append_some, rfl, fun h => h, fun h => h, fun h => .inl h⟩
  refine ⟨_, hle, rfl, rfl, rfl, h.bl, fun {b t cs blk} hb hx => ?_, h.free, h.inj, by simp [h.rl], fun {r row' v'} hr' hv' => ?_, h.st.mono rfl (fun _ => rfl) rfl, h.dom⟩
  · obtain ⟨vs, hh, hf⟩ := h.box hb hx
    exact ⟨vs, hh, hf.imp fun _ _ => AL.R_le hle⟩
  · rcases get_append_inv hr' with hr' | ⟨e1, e2⟩
    · have : r < g.rw.length := by rw [← h.rl]; exact (List.getElem?_eq_some_iff.1 hr').1
      rcases get_append_inv hv' with hv' | ⟨e, _⟩
      · exact (h.row hr' hv').same rfl rfl rfl get_append_some
      · omega
    · rcases get_append_inv hv' with hv' | ⟨_, e3⟩
      · have := (List.getElem?_eq_some_iff.1 hv').1
        have := h.rl
        omega
      · subst e1; subst e2; subst e3; exact hr.same rfl rfl rfl get_append_some
def LvRel (w : World) : Lv → Value → Prop
  | .sc v, u => u = v
  | .row e s xs, u => ∃ A c, u = .slice A xs.length c ∧ xs.length ≤ c ∧ s.kd.C w A xs.length xs
  | .ror e s xs, u => ∃ A c, u = .slice A xs.length c ∧ xs.length ≤ c ∧ s.kd.C w A xs.length xs
  | .hor h e s xs, u => (∃ A c, u = .slice A xs.length c ∧ xs.length ≤ c ∧ s.kd.C w A xs.length xs) ∧ u = h.v
theorem Sh.leaf_rel {w : World} : ∀ (s : Sh) (x : s.den) (c : List Value), s.kd.K w x c → ∀ (o : Nat) (l : Lv), s.leaf x o = some l → ∃ u, c[o]? = some u ∧ LvRel w l u
  | .int k, x, c, h, 0, l, hl => by
    obtain rfl : c = [.int k x] := h
    simp only [Sh.leaf, Option.some.injEq] at hl
    subst hl
    exact ⟨_, rfl, rfl⟩
  | .bool, x, c, h, 0, l, hl => by
    obtain rfl : c = [.bool x] := h
    simp only [Sh.leaf, Option.some.injEq] at hl
    subst hl
    exact ⟨_, rfl, rfl⟩
  | .str, x, c, h, 0, l, hl => by
    obtain rfl : c = [.string x] := h
    simp only [Sh.leaf, Option.some.injEq] at hl
    subst hl
    exact ⟨_, rfl, rfl⟩
  | .sl e s, x, c, h, 0, l, hl => by
    obtain ⟨A, n, rfl, h1, h2⟩ : ∃ A n, c = [.slice A (List.length x) n] ∧ List.length x ≤ n ∧ s.kd.C w A (List.length x) x := h
    simp only [Sh.leaf, Option.some.injEq] at hl
    subst hl
    exact ⟨_, rfl, A, n, rfl, h1, h2⟩
  | .rs e s, x, c, h, 0, l, hl => by
    obtain ⟨A, n, rfl, h1, h2⟩ : ∃ A n, c = [.slice A (List.length x) n] ∧ List.length x ≤ n ∧ s.kd.C w A (List.length x) x := h
    simp only [Sh.leaf, Option.some.injEq] at hl
    subst hl
    exact ⟨_, rfl, A, n, rfl, h1, h2⟩
  | .hr e s, x, c, h, 0, l, hl => by
    obtain ⟨⟨A, n, rfl, h1, h2⟩, h3⟩ : (∃ A n, c = [.slice A (List.length x.2) n] ∧ List.length x.2 ≤ n ∧ s.kd.C w A (List.length x.2) x.2) ∧ c = [x.1.v] := h
    simp only [Sh.leaf, Option.some.injEq] at hl
    subst hl
    exact ⟨_, rfl, ⟨A, n, rfl, h1, h2⟩, by injection h3⟩
  | .hv, x, c, h, 0, l, hl => by
    obtain rfl : c = [x.v] := h
    simp only [Sh.leaf, Option.some.injEq] at hl
    subst hl
    exact ⟨_, rfl, rfl⟩
  | .pair a b, x, c, h, o, l, hl => by
    obtain ⟨c0, c1, rfl, h0, h1⟩ : ∃ c0 c1, c = c0 ++ c1 ∧ a.kd.K w x.1 c0 ∧ b.kd.K w x.2 c1 := h
    have hs : c0.length = a.sz := by rw [← a.kd_sz]; exact a.kd.K_len h0
    simp only [Sh.leaf] at hl
    split at hl
    · obtain ⟨u, hu, hr⟩ := Sh.leaf_rel a x.1 c0 h0 o l hl
      exact ⟨u, by rw [List.getElem?_append_left (by omega)]; exact hu, hr⟩
    · obtain ⟨u, hu, hr⟩ := Sh.leaf_rel b x.2 c1 h1 _ l hl
      exact ⟨u, by rw [List.getElem?_append_right (by omega), hs]; exact hu, hr⟩
  | .int _, x, c, h, _ + 1, l, hl | .bool, x, c, h, _ + 1, l, hl | .str, x, c, h, _ + 1, l, hl | .sl _ _, x, c, h, _ + 1, l, hl | .rs _ _, x, c, h, _ + 1, l, hl | .hr _ _, x, c, h, _ + 1, l, hl | .hv, x, c, h, _ + 1, l, hl => by simp [Sh.leaf] at hl
theorem OE_leaf {z w : World} {base : Nat} {lab : Lab} {r : Nat} : ∀ (s : Sh) (p : List Nat) (o : Nat) (x : s.den) (c : List Value), OE z w base lab r s p o x c → ∀ (k : Nat) (l : Lv), s.leaf x k = some l →
    ∃ u, c[k]? = some u ∧ (∀ v, l = .sc v → u = v) ∧ (∀ e s' xs, l = .row e s' xs → Own s' e z w base lab r (p ++ [o + k]) u xs) ∧ (∀ e s' xs, l = .ror e s' xs → ∃ A c, u = .slice A xs.length c ∧ xs.length ≤ c ∧ s'.kd.C z A xs.length xs) ∧ ∀ hd e s' xs, l = .hor hd e s' xs → (∃ A c, u = .slice A xs.length c ∧ xs.length ≤ c ∧ s'.kd.C z A xs.length xs) ∧ u = hd.v
  | .int k, p, o, x, c, h, 0, l, hl => by
    obtain rfl : c = [.int k x] := h
    simp only [Sh.leaf, Option.some.injEq] at hl
    subst hl
    exact ⟨_, rfl, (fun v e => by injection e), (fun e s' xs h => by cases h), (fun e s' xs h => by cases h), (fun _ _ _ _ h => by cases h)⟩
  | .bool, p, o, x, c, h, 0, l, hl => by
    obtain rfl : c = [.bool x] := h
    simp only [Sh.leaf, Option.some.injEq] at hl
    subst hl
    exact ⟨_, rfl, (fun v e => by injection e), (fun e s' xs h => by cases h), (fun e s' xs h => by cases h), (fun _ _ _ _ h => by cases h)⟩
  | .str, p, o, x, c, h, 0, l, hl => by
    obtain rfl : c = [.string x] := h
    simp only [Sh.leaf, Option.some.injEq] at hl
    subst hl
    exact ⟨_, rfl, (fun v e => by injection e), (fun e s' xs h => by cases h), (fun e s' xs h => by cases h), (fun _ _ _ _ h => by cases h)⟩
  | .sl e s, p, o, x, c, h, 0, l, hl => by
    obtain ⟨v, rfl, ho⟩ := OE_sl.1 h
    simp only [Sh.leaf, Option.some.injEq] at hl
    subst hl
    exact ⟨_, rfl, (fun v e => by cases e), (fun e' s' xs h => by cases h; exact ho), (fun e' s' xs h => by cases h), (fun _ _ _ _ h => by cases h)⟩
  | .rs e s, p, o, x, c, h, 0, l, hl => by
    obtain ⟨A, n, rfl, h1, h2⟩ : ∃ A n, c = [.slice A (List.length x) n] ∧ List.length x ≤ n ∧ s.kd.C z A (List.length x) x := h
    simp only [Sh.leaf, Option.some.injEq] at hl
    subst hl
    exact ⟨_, rfl, (fun v e => by cases e), (fun e' s' xs h => by cases h), (fun e' s' xs h => by cases h; exact ⟨A, n, rfl, h1, h2⟩), (fun _ _ _ _ h => by cases h)⟩
  | .hr e s, p, o, x, c, h, 0, l, hl => by
    obtain ⟨⟨A, n, rfl, h1, h2⟩, h3⟩ : (∃ A n, c = [.slice A (List.length x.2) n] ∧ List.length x.2 ≤ n ∧ s.kd.C z A (List.length x.2) x.2) ∧ c = [x.1.v] := h
    simp only [Sh.leaf, Option.some.injEq] at hl
    subst hl
    exact ⟨_, rfl, (fun v e => by cases e), (fun e' s' xs h => by cases h), (fun e' s' xs h => by cases h), (fun _ _ _ _ h => by cases h; exact ⟨⟨A, n, rfl, h1, h2⟩, by injection h3⟩)⟩
  | .hv, p, o, x, c, h, 0, l, hl => by
    obtain rfl : c = [x.v] := h
    simp only [Sh.leaf, Option.some.injEq] at hl
    subst hl
    exact ⟨_, rfl, (fun v e => by injection e), (fun e s' xs h => by cases h), (fun e s' xs h => by cases h), (fun _ _ _ _ h => by cases h)⟩
  | .pair a b, p, o, x, c, h, k, l, hl => by
    obtain ⟨c0, c1, rfl, h0, h1⟩ := h
    have hs : c0.length = a.sz := OE_len a _ _ _ _ h0
    simp only [Sh.leaf] at hl
    split at hl
    · obtain ⟨u, hu, h2, h3⟩ := OE_leaf a p o x.1 c0 h0 k l hl
      exact ⟨u, by rw [List.getElem?_append_left (by omega)]; exact hu, h2, h3⟩
    · rename_i hk
      obtain ⟨u, hu, h2, h3, h4⟩ := OE_leaf b p (o + a.sz) x.2 c1 h1 (k - a.sz) l hl
      exact ⟨u, by rw [List.getElem?_append_right (by omega), hs]; exact hu, h2, fun e s' xs he => by have := h3 e s' xs he; rwa [show o + a.sz + (k - a.sz) = o + k from by omega] at this, h4⟩
  | .int _, p, o, x, c, h, _ + 1, l, hl | .bool, p, o, x, c, h, _ + 1, l, hl | .str, p, o, x, c, h, _ + 1, l, hl | .sl _ _, p, o, x, c, h, _ + 1, l, hl | .rs _ _, p, o, x, c, h, _ + 1, l, hl | .hr _ _, p, o, x, c, h, _ + 1, l, hl | .hv, p, o, x, c, h, _ + 1, l, hl => by simp [Sh.leaf] at hl
theorem RowRel.reads {g : Gh} {w : World} {r : Nat} {row : Row} {v : Value} (h : RowRel g w r row v) (hb : Stab g w) (hm : row.md ≠ .dead) :
    ∃ A c, v = .slice A row.xs.length c ∧ row.xs.length ≤ c ∧ row.s.kd.C w A row.xs.length row.xs ∧ True := by
  unfold RowRel at h
  split at h
  · obtain ⟨A, c, h1, h2, h3⟩ := h
    exact ⟨A, c, h1, h2, row.s.C_cells_mono (fun _ _ => hb.cell) h3, trivial⟩
  · obtain ⟨A, c, h1, h2, h3⟩ := h
    exact ⟨A, c, h1, h2, row.s.C_cells_mono (fun _ _ => hb.cell) h3, trivial⟩
  · obtain ⟨A, c, h1, h2, h3⟩ := Own.reads h (fun _ _ => hb.cell)
    exact ⟨A, c, h1, h2, h3, trivial⟩
  · obtain ⟨p, h⟩ := h
    obtain ⟨A, c, h1, h2, h3⟩ := Own.reads h (fun _ _ => hb.cell)
    exact ⟨A, c, h1, h2, h3, trivial⟩
  · obtain ⟨A, c, h1, h2, h3⟩ := Own.reads h.1 (fun _ _ => hb.cell)
    exact ⟨A, c, h1, h2, h3, trivial⟩
  · obtain ⟨⟨A, c, h1, h2, h3⟩, _⟩ := h
    exact ⟨A, c, h1, h2, row.s.C_cells_mono (fun _ _ => hb.cell) h3, trivial⟩
  · rename_i he; exact absurd he hm
def LvR (g : Gh) (w : World) (cm : Md) : Lv → Value → Prop
  | .sc v, u => u = v
  | .row e s xs, u => ∀ n, RowRel g w n ⟨e, s, xs, cm⟩ u
  | .ror e s xs, u => ∀ n, RowRel g w n ⟨e, s, xs, .ro⟩ u
  | .hor h e s xs, u => ∀ n, RowRel g w n ⟨e, s, xs, .roh h⟩ u
def LeafsR (g : Gh) (w : World) (cm : Nat → Md) (s : Sh) (x : s.den) (c : List Value) : Prop := ∀ (o : Nat) (l : Lv), s.leaf x o = some l → ∃ u, c[o]? = some u ∧ LvR g w (cm o) l u
theorem LeafsR.same {g g' : Gh} {w : World} {cm : Nat → Md} {s : Sh} {x : s.den} {c : List Value} (h : LeafsR g w cm s x c) (ht : g'.tag = g.tag) (hf : g'.rz = g.rz) (hw : g'.w0 = g.w0) (hrw : ∀ {i : Nat} {x : Value}, g.rw[i]? = some x → g'.rw[i]? = some x) : LeafsR g' w cm s x c := fun o l hl => by
  obtain ⟨u, hu, hr⟩ := h o l hl
  refine ⟨u, hu, ?_⟩
  cases l with
  | sc v => exact hr
  | row e s xs => exact fun n => (hr n).same ht hf hw hrw
  | ror e s xs => exact fun n => (hr n).same ht hf hw hrw
  | hor h e s xs => exact fun n => (hr n).same ht hf hw hrw
theorem lvs_rel {cm : Nat → Md} {s : Sh} {x : s.den} {c : List Value} {w : World} : ∀ (n : Nat) (st : St) (g : Gh) (off : Nat) (ys : List AL) (st' : St), Mem st.boxes st.rows g w → LeafsR g w cm s x c → st.lvs cm s x off n = some (ys, st') →
    ∃ g', g.le g' ∧ Mem st'.boxes st'.rows g' w ∧ st'.tmps = st.tmps ∧ st'.boxes = st.boxes ∧ F2 (AL.R g') ys ((c.drop off).take n) ∧ ys.length = n
  | 0, st, g, off, ys, st', hm, hK, h => by
    simp only [St.lvs, Option.some.injEq, Prod.mk.injEq] at h
    obtain ⟨rfl, rfl⟩ := h
    exact ⟨g, .refl g, hm, rfl, rfl, by simp [F2], rfl⟩
  | n + 1, st, g, off, ys, st', hm, hK, h => by
    simp only [St.lvs] at h
    split at h
    · cases h
    · rename_i l hl
      split at h
      · cases h
      · rename_i ys1 st2 hys
        simp only [Option.some.injEq, Prod.mk.injEq] at h
        obtain ⟨rfl, rfl⟩ := h
        obtain ⟨u, hu, hr⟩ := hK off l hl
        have hd : (c.drop off).take (n + 1) = u :: (c.drop (off + 1)).take n := by
          have : off < c.length := (List.getElem?_eq_some_iff.1 hu).1
          rw [List.drop_eq_getElem_cons this, List.take_succ_cons]
          congr 1
          exact (List.getElem?_eq_some_iff.1 hu).2
        have key : ∃ g1, g.le g1 ∧ Mem (st.lv (cm off) l).2.boxes (st.lv (cm off) l).2.rows g1 w ∧ (st.lv (cm off) l).2.tmps = st.tmps ∧ (st.lv (cm off) l).2.boxes = st.boxes ∧ (st.lv (cm off) l).1.R g1 u ∧ LeafsR g1 w cm s x c := by
          cases l with
          | sc v => exact ⟨g, .refl g, hm, rfl, rfl, hr, hK⟩
          | row e s' xs =>
            obtain ⟨g1, hle, hrw, ht, hf, hm1⟩ := hm.addRow ⟨e, s', xs, cm off⟩ u (hr _)
            refine ⟨g1, hle, hm1, rfl, rfl, ?_, hK.same ht hf hle.w0 hle.rw⟩
            show g1.rw[st.rows.length]? = some u
            rw [hrw, hm.rl]
            simp
          | ror e s' xs =>
            obtain ⟨g1, hle, hrw, ht, hf, hm1⟩ := hm.addRow ⟨e, s', xs, .ro⟩ u (hr _)
            refine ⟨g1, hle, hm1, rfl, rfl, ?_, hK.same ht hf hle.w0 hle.rw⟩
            show g1.rw[st.rows.length]? = some u
            rw [hrw, hm.rl]
            simp
          | hor hd e s' xs =>
            obtain ⟨g1, hle, hrw, ht, hf, hm1⟩ := hm.addRow ⟨e, s', xs, .roh hd⟩ u (hr _)
            refine ⟨g1, hle, hm1, rfl, rfl, ?_, hK.same ht hf hle.w0 hle.rw⟩
            show g1.rw[st.rows.length]? = some u
            rw [hrw, hm.rl]
            simp
        obtain ⟨g1, hle1, hm1, ht1, hb1, hyr, hK1⟩ := key
        obtain ⟨g2, hle2, hm2, ht2, hb2, hF, hlen⟩ := lvs_rel n _ g1 (off + 1) ys1 st2 hm1 hK1 hys
        exact ⟨g2, hle1.trans hle2, hm2, ht2.trans ht1, hb2.trans hb1, by rw [hd]; exact ⟨AL.R_le hle2 hyr, hF⟩, by simp [hlen]⟩

section
variable (P : Program)
def shapeOf (t : TypeId) : Option (Option Nat) :=
  match P.underlying t with
  | some (.struct _) => (P.info? t).map fun i => some i.size
  | some (.array _ _) => (P.info? t).map fun i => some i.size
  | some _ => some none
  | none => none
def sizeA (t : TypeId) : Option Nat := (P.info? t).map (·.size)
end
variable {P : Program}
theorem isAgg_run {t : TypeId} {x : Option Nat} (h : shapeOf P t = some x) (w : World) : (isAgg t).run P w = .ok x.isSome w := by
  unfold shapeOf at h
  unfold isAgg
  cases hu : P.underlying t with
  | none => rw [hu] at h; cases h
  | some d =>
    rw [hu] at h
    rw [Sem.run_bind, run_underlying hu w]
    cases d <;> simp only [Option.map_eq_some_iff, Option.some.injEq] at h <;> first
      | (obtain ⟨i, _, rfl⟩ := h; rfl)
      | (subst h; rfl)
def mkV (sh : Option Nat) (us : List Value) : Value :=
  match sh with
  | some _ => .agg us.toArray
  | none => us.headD undef
theorem load_run {t : TypeId} {x : Option Nat} (h : shapeOf P t = some x) {w : World} {ad : Addr} {cs : List Value} (hl : cs.length = x.getD 1) (hc : ∀ j v, cs[j]? = some v → w.cell? (ad.add j) = some v) :
    (loadVar t ad).run P w = .ok (mkV x cs) w := by
  unfold loadVar mkV
  rw [Sem.run_bind, isAgg_run h]
  cases x with
  | none =>
    simp only [Option.getD_none] at hl
    match cs, hl with
    | [v], _ =>
      have : w.cell? ad = some v := by simpa [Addr.add] using hc 0 v rfl
      simp [run_load, this]
  | some n =>
    simp only [Option.getD_some] at hl
    have hi : ∃ i, P.info? t = some i ∧ i.size = n := by
      unfold shapeOf at h
      split at h
      · obtain ⟨i, h1, h2⟩ := Option.map_eq_some_iff.1 h; exact ⟨i, h1, by simpa using h2⟩
      · obtain ⟨i, h1, h2⟩ := Option.map_eq_some_iff.1 h; exact ⟨i, h1, by simpa using h2⟩
      · simp at h
      · cases h
    obtain ⟨i, h1, h2⟩ := hi
    have hr := run_loadCells_list (P := P) w ad cs hc
    rw [hl] at hr
    simp [Sem.run_bind, sizeOf, typeInfo, h1, h2, hr]
end Go.Proofs.YtmbcnpbgcfiafaaGreat.Vm
