/- A walk by reckoning: an append of what is read only for good, the rows inside shared. -/
import Derived.Test.YtmbcnpbgcfiafaaGreatVmRn
namespace Go.Proofs.YtmbcnpbgcfiafaaGreat.Vm
open Go Go.RowKit Go.Proofs.YtmbcnpbgcfiafaaGreatW.PrintWords
set_option linter.unusedVariables false
set_option linter.unusedSimpArgs false

theorem Sh.shar_size : ∀ s : Sh, s.shar.sz = s.sz
  | .int _ | .bool | .str | .sl _ _ | .rs _ _ | .hr _ _ | .hv => rfl
  | .pair a b => by show a.shar.sz + b.shar.sz = a.sz + b.sz; rw [a.shar_size, b.shar_size]
theorem Sh.to_kd {s t : Sh} (hs : s.hasR = false) (ht : t.hasR = false) (e : s.norm = t.norm) : ∃ h : t.den = s.den, HEq t.kd s.kd := by
  obtain ⟨h1, h2⟩ := s.norm_kd hs
  obtain ⟨h3, h4⟩ := t.norm_kd ht
  rw [e] at h1 h2
  exact ⟨h3.symm.trans h1, h4.symm.trans h2⟩
def rowSh (row : Row) (s : Sh) : Option (List s.den) :=
  match h1 : row.s.hasR, h2 : s.hasR, h3 : row.s.norm.beq s.norm with
  | false, false, true => some (cast (congrArg List (Sh.to_kd h1 h2 (Sh.beq_eq h3)).1.symm) row.xs)
  | _, _, _ => none
theorem rowSh_C {row : Row} {s : Sh} {xs : List s.den} (h : rowSh row s = some xs) {w : World} {A : Option Addr} {n : Nat} (hC : row.s.kd.C w A n row.xs) : s.kd.C w A n xs ∧ xs.length = row.xs.length := by
  unfold rowSh at h
  split at h
  · rename_i h1 h2 h3
    injection h with h
    subst h
    exact ⟨cast_C (Sh.to_kd h1 h2 (Sh.beq_eq h3)).1.symm (Sh.to_kd h1 h2 (Sh.beq_eq h3)).2 hC, cast_len (Sh.to_kd h1 h2 (Sh.beq_eq h3)).1.symm row.xs⟩
  · cases h
def srcS (st : St) (s : Sh) : AL → Option (List s.den)
  | .sl q =>
    match st.rows[q]? with
    | none => none
    | some row => if row.md.isRo = true then rowSh row s else none
  | .vw q sz lo hi =>
    match st.rows[q]? with
    | none => none
    | some row => if row.md.isRo = true then if s.sz = sz then (rowSh row s).map fun ys => (ys.take hi.toNat).drop lo.toNat else none else none
  | _ => none
section
variable (P : Program)
def headS (st : St) (e : TypeId) : AL → Option HeadA
  | .val (.slice none 0 0) => (shTy P 20 e).map fun s => ⟨s.shar, [], none⟩
  | .sl r =>
    match st.rows[r]? with
    | none => none
    | some row =>
      match row.md with
      | .own =>
        if row.e = e then
          match row.s.shal with
          | true => some ⟨row.s, row.xs, some r⟩
          | false =>
            match row.xs with
            | [] => some ⟨row.s.shar, [], some r⟩
            | _ :: _ => none
        else none
      | _ => none
  | _ => none
def appendS (st : St) (t : TypeId) (x y : AL) : Option (Nat × AL × St) :=
  match P.underlying t with
  | some (.slice e) =>
    match P.info? e, headS P st e x with
    | some i, some h =>
      match i.zero, srcS st h.s y with
      | some z, some ys =>
        if i.size = h.s.sz ∧ z.cells.size = h.s.sz ∧ 0 < i.bytes ∧ h.s.shal = true then
          some ((h.xs.length + ys.length) * i.bytes, .sl st.rows.length, { st with rows := killed h.r.toList 0 st.rows ++ [⟨e, h.s, h.xs ++ ys, .own⟩] })
        else none
      | _, _ => none
    | _, _ => none
  | _ => none
end
section
variable {P : Program} {st st' : St} {g : Gh} {a : Act} {w : World}
theorem srcS_rel (hm : Mem st.boxes st.rows g w) {s : Sh} {y : AL} {v : Value} (hy : y.R g v) {ys : List s.den} (h : srcS st s y = some ys) : ∃ B d, v = .slice B ys.length d ∧ s.kd.C g.rz B ys.length ys := by
  unfold srcS at h
  split at h
  · rename_i q
    split at h
    · cases h
    · rename_i row hrow
      split at h
      · rename_i hro
        obtain ⟨A, c, h1, h2, h3⟩ := row_rz hm hrow hy hro
        obtain ⟨h4, h5⟩ := rowSh_C h h3
        exact ⟨A, c, by rw [h1, h5], by rw [h5]; exact h4⟩
      · cases h
  · rename_i q sz lo hi
    split at h
    · cases h
    · rename_i row hrow
      obtain ⟨A, n, c, A', hv, h0, h1, h2, h3, h4, _, rfl⟩ := hy
      split at h
      · rename_i hro
        split at h
        · rename_i hsz
          obtain ⟨zs, hzs, rfl⟩ := Option.map_eq_some_iff.1 h
          subst hsz
          obtain ⟨B, d, he, h5, h6⟩ := row_rz hm hrow hv hro
          injection he with he1 he2 he3
          subst he1; subst he2; subst he3
          obtain ⟨h7, h8⟩ := rowSh_C hzs h6
          rw [← h8] at h7 h5
          obtain ⟨h9, h10⟩ := vw_reads (n := c) h7 h5 (lo := lo.toNat) (hi := hi.toNat) (by omega) (by omega) h4
          exact ⟨A', _, by rw [← h9], h10⟩
        · cases h
      · cases h
  · cases h
theorem headS_rel (hm : Mem st.boxes st.rows g w) {e : TypeId} {x : AL} {v : Value} (hx : x.R g v) {h : HeadA} (hh : headS P st e x = some h) : Own h.s e g.rz w 0 g.tag (h.r.getD st.rows.length) [] v h.xs ∧ (h.r = none → v.ownBlock = none) := by
  unfold headS at hh
  split at hh
  · obtain ⟨s, hs, rfl⟩ := Option.map_eq_some_iff.1 hh
    obtain rfl : v = .slice none 0 0 := hx
    exact ⟨Own.nil _ _ _ _ _ _ _ _, fun _ => rfl⟩
  · rename_i r
    split at hh
    · cases hh
    · rename_i row hrow
      split at hh
      · rename_i hmd
        split at hh
        · rename_i he
          subst he
          have h1 := hm.row hrow hx
          split at hh
          · injection hh with hh
            subst hh
            unfold RowRel at h1
            rw [hmd] at h1
            exact ⟨h1, fun e => by cases e⟩
          · split at hh
            · rename_i hxs
              injection hh with hh
              subst hh
              unfold RowRel at h1
              rw [hmd] at h1
              obtain ⟨e, s, xs, md⟩ := row
              simp only at hxs hmd
              subst hxs
              obtain ⟨h2, inner, h3, h4⟩ := h1
              exact ⟨⟨h2, inner, by
                show w.ownsRow 0 e s.shar.sz v 0 inner
                have h3 : w.ownsRow 0 e s.sz v 0 inner := h3
                rw [show s.shar.sz = s.sz from Sh.shar_size s]; exact h3, fun i x hx => by simp at hx⟩, fun e => by cases e⟩
            · cases hh
        · cases hh
      · cases hh
  · cases hh
theorem appendS_run (hm : Mem st.boxes st.rows g w) {t ty : TypeId} {x y : AL} {v u : Value} (hx : x.R g v) (hy : y.R g u) {b : Nat} {z : AL} (h : appendS P st t x y = some (b, z, st')) (hb : b ≤ 140737488355328) :
    ∃ g' w' v', g.le g' ∧ Mem st'.boxes st'.rows g' w' ∧ st'.tmps = st.tmps ∧ z.R g' v' ∧ (Builtin.append_ #[t, t] ty #[v, u]).run P w = .ok v' w' := by
  unfold appendS at h
  split at h
  · rename_i e hu
    split at h
    · rename_i i hd hi hhd
      split at h
      · rename_i zv ys hz hys
        split at h
        · rename_i hc
          obtain ⟨hc1, hc2, hc3, hc4⟩ := hc
          obtain ⟨hO, hn⟩ := headS_rel hm hx hhd
          obtain ⟨B, d, hB, hC⟩ := srcS_rel hm hy hys
          have hcle : Cle g.rz w := fun _ _ => hm.st.cell
          simp only [Option.some.injEq, Prod.mk.injEq] at h
          obtain ⟨rfl, rfl, rfl⟩ := h
          obtain ⟨g', w', v', h1, h2, h3, h4⟩ := append_fin (ty := ty) (ys := ys) hm hu hi hz hc1 hc2 hc3 hO hn hB (hd.s.C_cells_mono hcle hC) none hd.r.toList hb (.inr (.inr ⟨hc4, hC, hcle⟩)) (fun r hr => by simp [hr]) (fun r hr => by cases hr)
          exact ⟨g', w', v', h1, h2, rfl, h3, h4⟩
        · cases h
      · cases h
    · cases h
  · cases h
theorem appendS_rows {st st' : St} {t : TypeId} {x y : AL} {b : Nat} {z : AL} (h : appendS P st t x y = some (b, z, st')) : st'.boxes = st.boxes ∧ ∃ ids row, st'.rows = killed ids 0 st.rows ++ [row] := by
  unfold appendS at h
  split at h
  · split at h
    · split at h
      · split at h
        · simp only [Option.some.injEq, Prod.mk.injEq] at h
          obtain ⟨_, _, rfl⟩ := h
          exact ⟨rfl, _, _, rfl⟩
        · cases h
      · cases h
    · cases h
  · cases h
theorem appendA_rows {st st' : St} {t : TypeId} {x y : AL} {b : Nat} {z : AL} (h : appendA P st t x y = some (b, z, st')) : st'.boxes = st.boxes ∧ ∃ ids row, st'.rows = killed ids 0 st.rows ++ [row] := by
  unfold appendA at h
  split at h
  · split at h
    · split at h
      · split at h
        · split at h
          · simp only [Option.some.injEq, Prod.mk.injEq] at h
            obtain ⟨_, _, rfl⟩ := h
            exact ⟨rfl, _, _, rfl⟩
          · split at h
            · simp only [Option.some.injEq, Prod.mk.injEq] at h
              obtain ⟨_, _, rfl⟩ := h
              exact ⟨rfl, _, _, rfl⟩
            · cases h
        · cases h
      · cases h
    · cases h
  · cases h
def appendZ (P : Program) (st : St) (t : TypeId) (x y : AL) : Option (Nat × AL × St) :=
  match appendA P st t x y with
  | some z => some z
  | none => appendS P st t x y
theorem appendZ_run (hm : Mem st.boxes st.rows g w) {t ty : TypeId} {x y : AL} {v u : Value} (hx : x.R g v) (hy : y.R g u) {b : Nat} {z : AL} (h : appendZ P st t x y = some (b, z, st')) (hb : b ≤ 140737488355328) :
    ∃ g' w' v', g.le g' ∧ Mem st'.boxes st'.rows g' w' ∧ st'.tmps = st.tmps ∧ z.R g' v' ∧ (Builtin.append_ #[t, t] ty #[v, u]).run P w = .ok v' w' := by
  unfold appendZ at h
  split at h
  · rename_i z' hz
    injection h with h
    subst h
    exact appendA_run hm hx hy hz hb
  · exact appendS_run hm hx hy h hb
theorem appendZ_rows {st st' : St} {t : TypeId} {x y : AL} {b : Nat} {z : AL} (h : appendZ P st t x y = some (b, z, st')) : st'.boxes = st.boxes ∧ ∃ ids row, st'.rows = killed ids 0 st.rows ++ [row] := by
  unfold appendZ at h
  split at h
  · rename_i z' hz
    injection h with h
    subst h
    exact appendA_rows hz
  · exact appendS_rows h
end
end Go.Proofs.YtmbcnpbgcfiafaaGreat.Vm
