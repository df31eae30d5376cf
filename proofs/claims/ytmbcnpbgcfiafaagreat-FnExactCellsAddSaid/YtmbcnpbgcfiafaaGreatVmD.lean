/- A walk by reckoning, fourth part: one operation. -/
import Derived.Test.YtmbcnpbgcfiafaaGreatVmC
namespace Go.Proofs.YtmbcnpbgcfiafaaGreat.Vm
open Go Go.RowKit Go.Proofs.YtmbcnpbgcfiafaaGreatW.PrintWords
set_option linter.unusedVariables false
set_option linter.unusedSimpArgs false

def A1.cells : A1 → List AL
  | .one x => [x]
  | .agg xs => xs
def St.firm (st : St) : AL → Bool
  | .unk => false
  | .val v => v.oneCell'
  | .sl r =>
    match st.rows[r]? with
    | none => false
    | some row =>
      match row.md with
      | .dead => false
      | _ => true
  | .al _ => false
  | .err _ => false
  | .hs => true
  | _ => true
def mkA (sh : Option Nat) (ys : List AL) : A1 :=
  match sh with
  | some _ => .agg ys
  | none => .one (ys.headD .unk)
section
variable (P : Program)
def loadS (st : St) (t : TypeId) (x : AL) : Option (A1 × St) :=
  match shapeOf P t with
  | none => none
  | some sh =>
    match x with
    | .ptr b off =>
      match st.boxes[b]? with
      | none => none
      | some bc => if ((bc.2.drop off).take (sh.getD 1)).length = sh.getD 1 then some (mkA sh ((bc.2.drop off).take (sh.getD 1)), st) else none
    | .ept r sz i off =>
      match st.rows[r]? with
      | none => none
      | some row =>
        if row.s.sz = sz ∧ off + sh.getD 1 ≤ sz then
          match row.md.child r sz i.toNat with
          | none => none
          | some cm =>
            match st.lvs cm row.s (row.at_ i) off (sh.getD 1) with
            | none => none
            | some (ys, st') => some (mkA sh ys, st')
        else none
    | _ => none
def storeS (st : St) (t : TypeId) (x : AL) (v : A1) : Option St :=
  match sizeA P t with
  | none => none
  | some n =>
    match x with
    | .ptr b off =>
      match st.boxes[b]? with
      | none => none
      | some bc =>
        if v.cells.length = n ∧ off + n ≤ bc.2.length ∧ v.cells.all st.firm = true then
          some { st with boxes := st.boxes.set b (bc.1, bc.2.take off ++ v.cells ++ bc.2.drop (off + n)) }
        else none
    | _ => none
def fieldOff (s : TypeId) (f : Nat) : Option Nat :=
  match P.underlying s with
  | some (.struct fs) =>
    match fs[f]? with
    | none => none
    | some fd =>
      match P.info? fd.type with
      | none => none
      | some i => if i.size = 0 then none else some fd.offset
  | _ => none
end
variable {P : Program}
theorem Mem.slices {bs : List (TypeId × List AL)} {rs : List Row} {g : Gh} {w : World} (h : Mem bs rs g w) {i : Nat} {u : Value} (hu : g.rw[i]? = some u) : u.oneCell' = true ∨ ∃ row, rs[i]? = some row ∧ row.md = .dead := by
  have hi : i < rs.length := by rw [h.rl]; exact (List.getElem?_eq_some_iff.1 hu).1
  have hr := h.row (List.getElem?_eq_getElem hi) hu
  by_cases hm : rs[i].md = .dead
  · exact .inr ⟨_, List.getElem?_eq_getElem hi, hm⟩
  · obtain ⟨A, c, rfl, _⟩ := hr.reads h.st hm
    exact .inl rfl
theorem child_some {md : Md} {r sz i : Nat} {cm : Nat → Md} (h : md.child r sz i = some cm) : md ≠ .dead := by rintro rfl; cases h
theorem own_cells {w : World} {base : Nat} {e : TypeId} {size n : Nat} {ad : Addr} {m c : Nat} {xs : List Value} (h : w.ownsRow base e size (.slice (some ad) m c) n xs) : ∀ j u, xs[j]? = some u → w.cell? (ad.add j) = some u := by
  intro j u hu
  rcases h.2 with ⟨hv, _⟩ | ⟨g, cap, cur, hv, _⟩
  · cases hv
  · injection hv with h1 _ _
    injection h1 with h1
    subst h1
    exact h.cells (g := g) rfl _ u hu
theorem same_cells {w : World} {ad : Addr} {n m : Nat} {cs cs' : List Value} (h1 : cs.length = n) (h2 : cs'.length = n) (hc : ∀ j u, cs[j]? = some u → w.cell? (ad.add (m + j)) = some u) (hc' : ∀ j u, cs'[j]? = some u → w.cell? (ad.add (m + j)) = some u) : cs = cs' := by
  apply List.ext_getElem?
  intro j
  by_cases hj : j < n
  · have a := hc j _ (List.getElem?_eq_getElem (by omega))
    have b := hc' j _ (List.getElem?_eq_getElem (by omega))
    rw [a] at b
    rw [List.getElem?_eq_getElem (by omega), List.getElem?_eq_getElem (by omega)]
    exact b
  · rw [List.getElem?_eq_none (by omega), List.getElem?_eq_none (by omega)]
theorem Mem.elem {bs : List (TypeId × List AL)} {rs : List Row} {g : Gh} {w : World} (h : Mem bs rs g w) {r : Nat} {row : Row} (hr : rs[r]? = some row) (hm : row.md ≠ .dead) {ad : Addr} {n c : Nat} (hv : g.rw[r]? = some (.slice (some ad) n c)) {i : Int} (h0 : 0 ≤ i) (h1 : i < n) :
    n = row.xs.length ∧ ∃ cs : List Value, cs.length = row.s.sz ∧ row.s.kd.K w (row.at_ i) cs ∧ (∀ cm, row.md.child r row.s.sz i.toNat = some cm → LeafsR g w cm row.s (row.at_ i) cs) ∧ ∀ j u, cs[j]? = some u → w.cell? (ad.add (i.toNat * row.s.sz + j)) = some u := by
  have hR := h.row hr hv
  obtain ⟨A, c', he, hlc, hC, _⟩ := hR.reads h.st hm
  injection he with he1 he2 he3
  subst he1; subst he2
  refine ⟨rfl, ?_⟩
  obtain ⟨ad', cs, e1, hl, hK, hcell⟩ := Kd.C_get hC row.s.dflt i h0 h1
  injection e1 with e1
  subst e1
  rw [row.s.kd_sz] at hl hcell
  refine ⟨cs, hl, hK, fun cm hcm => ?_, hcell⟩
  have own : ∀ q p, Own row.s row.e g.rz w 0 g.tag q p (.slice (some ad) row.xs.length c) row.xs → ∀ o l, row.s.leaf (row.at_ i) o = some l → ∃ u, cs[o]? = some u ∧ (∀ v, l = .sc v → u = v) ∧ (∀ e s' xs, l = .row e s' xs → Own s' e g.rz w 0 g.tag q (p ++ [i.toNat] ++ [0 + o]) u xs) ∧ (∀ e s' xs, l = .ror e s' xs → ∃ A c, u = .slice A xs.length c ∧ xs.length ≤ c ∧ s'.kd.C g.rz A xs.length xs) ∧ ∀ hd e s' xs, l = .hor hd e s' xs → (∃ A c, u = .slice A xs.length c ∧ xs.length ≤ c ∧ s'.kd.C g.rz A xs.length xs) ∧ u = hd.v := by
    intro q p ho o l hl'
    obtain ⟨_, inner, h3, h4⟩ := ho
    have hi : i.toNat < row.xs.length := by omega
    have hx : row.xs[i.toNat]? = some (row.at_ i) := by
      unfold Row.at_
      rw [List.getD_eq_getElem?_getD, List.getElem?_eq_getElem hi]
      rfl
    have hOE := h4 i.toNat _ hx
    have hcs : (inner.drop (i.toNat * row.s.sz)).take row.s.sz = cs := by
      have hlen := OE_len _ _ _ _ _ hOE
      refine same_cells (w := w) (ad := ad) (m := i.toNat * row.s.sz) hlen hl (fun j u hu => ?_) hcell
      rw [List.getElem?_take] at hu
      split at hu
      · rw [List.getElem?_drop] at hu
        exact own_cells h3 _ _ hu
      · cases hu
    rw [hcs] at hOE
    exact OE_leaf _ _ _ _ _ hOE o l hl'
  have brw : ∀ q p, Own row.s row.e g.rz w 0 g.tag q p (.slice (some ad) row.xs.length c) row.xs → (cm = fun _ => .brw q) → LeafsR g w cm row.s (row.at_ i) cs := by
    intro q p ho hcm o l hl'
    subst hcm
    obtain ⟨u, hu, h5, h6, h60, h61⟩ := own q p ho o l hl'
    refine ⟨u, hu, ?_⟩
    cases l with
    | sc v => exact h5 v rfl
    | row e s' xs => exact fun n => ⟨_, h6 e s' xs rfl⟩
    | ror e s' xs => exact fun n => h60 e s' xs rfl
    | hor hd e s' xs => exact fun n => h61 hd e s' xs rfl
  unfold RowRel at hR
  split at hR
  · rename_i hmd
    obtain ⟨A, c1, he, _, hC0⟩ := hR
    injection he with he1 he2 he3
    subst he1
    rw [hmd] at hcm
    simp only [Md.child, Option.some.injEq] at hcm
    subst hcm
    obtain ⟨ad1, cs1, e1, hl1, hK1, hcell1⟩ := Kd.C_get hC0 row.s.dflt i h0 h1
    injection e1 with e1
    subst e1
    rw [row.s.kd_sz] at hl1 hcell1
    obtain rfl : cs1 = cs := same_cells (w := w) (ad := ad) (m := i.toNat * row.s.sz) hl1 hl (fun j u hu => h.st.cell (hcell1 j u hu)) hcell
    intro o l hl'
    obtain ⟨u, hu, hr'⟩ := row.s.leaf_rel _ _ hK1 o l hl'
    refine ⟨u, hu, ?_⟩
    cases l with
    | sc v => exact hr'
    | row e s' xs => exact fun n => hr'
    | ror e s' xs => exact fun n => hr'
    | hor hd e s' xs => exact fun n => hr'
  · rename_i hmd
    obtain ⟨A, c1, he, _, hC0⟩ := hR
    injection he with he1 he2 he3
    subst he1
    rw [hmd] at hcm
    simp only [Md.child, Option.some.injEq] at hcm
    subst hcm
    obtain ⟨ad1, cs1, e1, hl1, hK1, hcell1⟩ := Kd.C_get hC0 row.s.dflt i h0 h1
    injection e1 with e1
    subst e1
    rw [row.s.kd_sz] at hl1 hcell1
    obtain rfl : cs1 = cs := same_cells (w := w) (ad := ad) (m := i.toNat * row.s.sz) hl1 hl (fun j u hu => h.st.cell (hcell1 j u hu)) hcell
    intro o l hl'
    obtain ⟨u, hu, hr'⟩ := row.s.leaf_rel _ _ hK1 o l hl'
    refine ⟨u, hu, ?_⟩
    cases l with
    | sc v => exact hr'
    | row e s' xs => exact fun n => hr'
    | ror e s' xs => exact fun n => hr'
    | hor hd e s' xs => exact fun n => hr'
  · rename_i hmd
    rw [hmd] at hcm
    obtain rfl : cm = fun o => Md.sub r row.s.sz i.toNat o := by simpa [Md.child] using hcm.symm
    obtain ⟨gb, rfl, hgb⟩ : ∃ gb, ad = ⟨gb, 0, none⟩ ∧ g.tag gb = some (r, []) := by
      obtain ⟨hvo, inner, hown, _⟩ := hR
      rcases hown.2 with ⟨he, _⟩ | ⟨gb, cap', cur, he, _⟩
      · cases he
      · injection he with he1 _ _
        injection he1 with he1
        subst he1
        exact ⟨gb, rfl, hvo gb rfl⟩
    intro o l hl'
    obtain ⟨u, hu, h5, h6, h60, h61⟩ := own r [] hR o l hl'
    refine ⟨u, hu, ?_⟩
    cases l with
    | sc v => exact h5 v rfl
    | ror e s' xs => exact fun n => h60 e s' xs rfl
    | hor hd e s' xs => exact fun n => h61 hd e s' xs rfl
    | row e s' xs =>
      intro n
      have h7 := h6 e s' xs rfl
      rw [List.nil_append, Nat.zero_add] at h7
      exact ⟨h7, gb, _, c, hv, hgb, by omega, hcell o u hu⟩
  · rename_i q hmd
    obtain ⟨p, hR⟩ := hR
    rw [hmd] at hcm
    exact brw q p hR (by simpa [Md.child] using hcm.symm)
  · rename_i q sz' i' off' hmd
    rw [hmd] at hcm
    exact brw q _ hR.1 (by simpa [Md.child] using hcm.symm)
  · rename_i hd hmd
    obtain ⟨⟨A, c1, he, _, hC0⟩, _⟩ := hR
    injection he with he1 he2 he3
    subst he1
    rw [hmd] at hcm
    simp only [Md.child, Option.some.injEq] at hcm
    subst hcm
    obtain ⟨ad1, cs1, e1, hl1, hK1, hcell1⟩ := Kd.C_get hC0 row.s.dflt i h0 h1
    injection e1 with e1
    subst e1
    rw [row.s.kd_sz] at hl1 hcell1
    obtain rfl : cs1 = cs := same_cells (w := w) (ad := ad) (m := i.toNat * row.s.sz) hl1 hl (fun j u hu => h.st.cell (hcell1 j u hu)) hcell
    intro o l hl'
    obtain ⟨u, hu, hr'⟩ := row.s.leaf_rel _ _ hK1 o l hl'
    refine ⟨u, hu, ?_⟩
    cases l with
    | sc v => exact hr'
    | row e s' xs => exact fun n => hr'
    | ror e s' xs => exact fun n => hr'
    | hor hd e s' xs => exact fun n => hr'
  · rename_i hmd; exact absurd hmd hm
theorem mkA_rel {g : Gh} {sh : Option Nat} {ys : List AL} {us : List Value} (h : F2 (AL.R g) ys us) (hl : us.length = sh.getD 1) : (mkA sh ys).R g (mkV sh us) := by
  cases sh with
  | some n => exact ⟨us.toArray, rfl, by simpa using h⟩
  | none =>
    simp only [Option.getD_none] at hl
    have hl2 := h.length
    match us, hl, ys, hl2, h with
    | [u], _, [y], _, h => exact h.1
theorem loadS_sound {st : St} {g : Gh} {w : World} (hm : Mem st.boxes st.rows g w) {t : TypeId} {x : AL} {v : Value} (hx : x.R g v) {y : A1} {st' : St} (h : loadS P st t x = some (y, st')) :
    ∃ g' u, g.le g' ∧ Mem st'.boxes st'.rows g' w ∧ st'.tmps = st.tmps ∧ y.R g' u ∧ (Instr.loadAt t v).run P w = .ok u w := by
  unfold loadS at h
  split at h
  · cases h
  · rename_i sh hsh
    split at h
    · rename_i b off
      split at h
      · cases h
      · rename_i bc hbc
        split at h
        · rename_i hlen
          simp only [Option.some.injEq, Prod.mk.injEq] at h
          obtain ⟨rfl, rfl⟩ := h
          obtain ⟨blk, hblk, rfl⟩ := hx
          obtain ⟨bt, cs⟩ := bc
          obtain ⟨vs, hh, hF⟩ := hm.box hbc hblk
          have hF' := (hF.drop off).take (sh.getD 1)
          have hl' := hF'.length
          refine ⟨g, _, .refl g, hm, rfl, mkA_rel hF' (by rw [← hl']; exact hlen), ?_⟩
          simp only [Instr.loadAt, Instr.sureAddr, Sem.run_bind, Sem.run_pure, Result.andThen_ok]
          refine load_run hsh (by rw [← hl']; exact hlen) fun j u hj => ?_
          rw [add_at, cell_of_row w blk _ vs bt (0, 0) hh]
          rw [List.getElem?_take] at hj
          split at hj
          · rw [List.getElem?_drop] at hj
            simpa using hj
          · cases hj
        · cases h
    · rename_i r sz i off
      split at h
      · cases h
      · rename_i row hrow
        split at h
        · rename_i hsz
          obtain ⟨hsz, hoff⟩ := hsz
          have hmd : ∃ cm, row.md.child r sz i.toNat = some cm ∧ ∃ ys, st.lvs cm row.s (row.at_ i) off (sh.getD 1) = some (ys, st') ∧ y = mkA sh ys := by
            split at h
            · cases h
            · rename_i cm hd
              split at h
              · cases h
              · rename_i ys st1 hys
                simp only [Option.some.injEq, Prod.mk.injEq] at h
                obtain ⟨rfl, rfl⟩ := h
                exact ⟨cm, hd, ys, hys, rfl⟩
          obtain ⟨cm, hcm, ys, hys, rfl⟩ := hmd
          obtain ⟨ad, n, c, hv, h0, h1, rfl⟩ := hx
          obtain ⟨hn, cs, hcl, hK, hK0, hcell⟩ := hm.elem hrow (child_some hcm) hv h0 h1
          rw [← hsz] at hcm
          obtain ⟨g', hle, hm', ht, hb, hF, hyl⟩ := lvs_rel (sh.getD 1) st g off ys st' hm (hK0 cm hcm) hys
          have hl' := hF.length
          refine ⟨g', _, hle, hm', ht, mkA_rel hF (by rw [← hl']; exact hyl), ?_⟩
          simp only [Instr.loadAt, Instr.sureAddr, Sem.run_bind, Sem.run_pure, Result.andThen_ok]
          refine load_run hsh (by rw [← hl']; exact hyl) fun j u hj => ?_
          rw [add2, ← hsz, Nat.add_assoc]
          refine hcell _ u ?_
          rw [List.getElem?_take] at hj
          split at hj
          · rw [List.getElem?_drop] at hj
            exact hj
          · cases hj
        · cases h
    · cases h
theorem fieldOff_run {s : TypeId} {f o : Nat} (h : fieldOff P s f = some o) (ad : Addr) (w : World) : (Instr.fieldAt s (.pointer (some ad)) f).run P w = .ok (.pointer (some (ad.add o))) w := by
  unfold fieldOff at h
  split at h
  · rename_i fs hu
    split at h
    · cases h
    · rename_i fd hfd
      split at h
      · cases h
      · rename_i i hi
        split at h
        · cases h
        · rename_i hz
          simp only [Option.some.injEq] at h
          subst h
          simp [Instr.fieldAt, run_underlying hu, hfd, Instr.sureAddr, fieldPlace, sizeOf, typeInfo, hi, hz]
  · cases h
theorem F2.set3 {α β : Type} {R : α → β → Prop} {xs ys : List α} {us vs : List β} (h : F2 R xs us) (hy : F2 R ys vs) (o n : Nat) : F2 R (xs.take o ++ ys ++ xs.drop (o + n)) (us.take o ++ vs ++ us.drop (o + n)) :=
  ((h.take o).append hy).append (h.drop (o + n))
theorem vw_reads {w : World} {s : Sh} {A A' : Option Addr} {c n : Nat} {xs : List s.den} (hC : s.kd.C w A xs.length xs) (hc : xs.length ≤ c) {lo hi : Nat} (h1 : lo ≤ hi) (h2 : hi ≤ xs.length) (hA : lo < c → A' = A.map (·.add (lo * s.sz))) :
    hi - lo = ((xs.take hi).drop lo).length ∧ s.kd.C w A' ((xs.take hi).drop lo).length ((xs.take hi).drop lo) := by
  have hl : ((xs.take hi).drop lo).length = hi - lo := by rw [List.length_drop, List.length_take]; omega
  refine ⟨hl.symm, ?_⟩
  have := Kd.C_mid (c := c) hC h1 h2 hc
  by_cases e : c = lo
  · have h0 : (xs.take hi).drop lo = [] := List.eq_nil_of_length_eq_zero (by omega)
    rw [h0]
    exact ⟨rfl, by simp, fun h => absurd h (Nat.lt_irrefl 0)⟩
  · rw [if_neg e, s.kd_sz] at this
    rw [hA (by omega)]
    exact this
theorem Mem.setBox {bs : List (TypeId × List AL)} {rs : List Row} {g : Gh} {w : World} (h : Mem bs rs g w) {b blk : Nat} {bt : TypeId} {cs : List AL} {old : Array Value} (hb : bs[b]? = some (bt, cs)) (hblk : g.bx[b]? = some blk) (hh : w.heap[blk]? = some (.cells old bt (0, 0)))
    (cs' : List AL) (vs : Array Value) (hF : F2 (AL.R g) cs' vs.toList) : Mem (bs.set b (bt, cs')) rs g (w.setRow blk vs) := by
  have hother : ∀ k, k ≠ blk → (w.setRow blk vs).heap[k]? = w.heap[k]? := fun k hk => setRow_other w blk k vs hk
  refine ⟨by simp [h.bl], fun {b' t cs1 blk'} hb' hx => ?_, h.free, h.inj, h.rl, fun {r row v} hr hv => ?_, ⟨h.st.tab, h.st.os, h.st.tape, h.st.output, by rw [setRow_size]; exact h.st.size, fun {k o} hk => ?_, h.st.rd⟩, h.dom⟩
  · by_cases e : b' = b
    · subst e
      have hlt : b' < bs.length := (List.getElem?_eq_some_iff.1 hb).1
      rw [List.getElem?_set_self hlt] at hb'
      simp only [Option.some.injEq, Prod.mk.injEq] at hb'
      obtain ⟨rfl, rfl⟩ := hb'
      rw [hblk] at hx
      injection hx with hx
      subst hx
      exact ⟨vs, setRow_heap w blk old vs _ _ hh, hF⟩
    · rw [List.getElem?_set_ne (Ne.symm e)] at hb'
      obtain ⟨vs', hh', hF'⟩ := h.box hb' hx
      refine ⟨vs', ?_, hF'⟩
      rw [hother blk' (fun he => e (h.inj (he ▸ hx) hblk))]
      exact hh'
  · refine (h.row hr hv).move rfl (fun x => x) (fun x => x) fun k m _ _ hk => ⟨hk, hother k fun he => ?_⟩
    have := (h.free hblk).1
    rw [he, this] at hk
    cases hk
  · rw [hother k (fun he => by have := (h.free hblk).2; rw [he, this] at hk; cases hk)]
    exact h.st.fz hk
end Go.Proofs.YtmbcnpbgcfiafaaGreat.Vm
