/- A walk by reckoning: regions whose order is drawn, second part. -/
import Derived.Test.YtmbcnpbgcfiafaaGreatVmP
namespace Go.Proofs.YtmbcnpbgcfiafaaGreat.Vm
open Go Go.RowKit Go.Proofs.YtmbcnpbgcfiafaaGreatW.PrintWords
set_option linter.unusedVariables false
set_option linter.unusedSimpArgs false

def Ext (st st' : St) : Prop := (∃ bs, st'.boxes = st.boxes ++ bs) ∧ ∃ rs, st'.rows = st.rows ++ rs
theorem Ext.refl (st : St) : Ext st st := ⟨⟨[], by simp⟩, [], by simp⟩
theorem Ext.trans {st st1 st2 : St} (h : Ext st st1) (k : Ext st1 st2) : Ext st st2 := by
  obtain ⟨⟨b1, h1⟩, r1, h2⟩ := h
  obtain ⟨⟨b2, h3⟩, r2, h4⟩ := k
  exact ⟨⟨b1 ++ b2, by rw [h3, h1, List.append_assoc]⟩, r1 ++ r2, by rw [h4, h2, List.append_assoc]⟩
theorem Ext.put {st st' : St} (h : Ext st st') (d : Option Tmp) (x : AV) : Ext st (st'.put d x) := by
  unfold Ext
  rw [(put_mem d x).1, (put_mem d x).2]
  exact h
theorem Ext.box {st st' : St} (h : Ext st st') {b : Nat} {x : TypeId × List AL} (hx : st.boxes[b]? = some x) : st'.boxes[b]? = some x := by
  obtain ⟨⟨bs, e⟩, _⟩ := h
  rw [e, List.getElem?_append_left (List.getElem?_eq_some_iff.1 hx).1, hx]
theorem Ext.row {st st' : St} (h : Ext st st') {r : Nat} {x : Row} (hx : st.rows[r]? = some x) : st'.rows[r]? = some x := by
  obtain ⟨_, rs, e⟩ := h
  rw [e, List.getElem?_append_left (List.getElem?_eq_some_iff.1 hx).1, hx]
theorem Ext.tmps {st st' : St} {ts : List AV} (h : Ext st st') : Ext ⟨ts, st.boxes, st.rows⟩ st' := h

def AL.det : AL → Bool
  | .val _ => true
  | .ptr _ _ => true
  | .sl _ => true
  | _ => false
def AL.isVal : AL → Bool
  | .val _ => true
  | _ => false
theorem AL.det_eq {g g2 : Gh} (hg : g.le g2) {x : AL} (hd : x.det = true) {u v : Value} (hu : x.R g u) (hv : x.R g2 v) : v = u := by
  cases x with
  | val y => obtain rfl : u = y := hu; exact hv
  | ptr b off =>
    obtain ⟨blk, h1, rfl⟩ := hu
    obtain ⟨blk2, h2, rfl⟩ := hv
    have := hg.bx h1
    rw [h2] at this
    injection this with this
    rw [this]
  | sl r =>
    have h1 : g.rw[r]? = some u := hu
    have h2 : g2.rw[r]? = some v := hv
    have := hg.rw h1
    rw [h2] at this
    exact Option.some.inj this
  | unk => cases hd
  | ept r sz i off => cases hd
  | vw r sz lo hi => cases hd
  | fn f caps => cases hd
  | al r => cases hd
  | err b => cases hd
  | hs => cases hd
inductive Dep where
  | none
  | box (b : Nat)
  | row (r : Nat)
def Dep.isNone : Dep → Bool
  | .none => true
  | _ => false
def Dep.notBox (b : Nat) : Dep → Bool
  | .box c => decide (c ≠ b)
  | _ => true
def depOf (st : St) : AL → Dep
  | .ptr b _ => .box b
  | .ept r _ _ _ =>
    match st.rows[r]? with
    | some row =>
      match row.md with
      | .ro => .none
      | _ => .row r
    | none => .row r
  | _ => .row 0
def Agree (d : Dep) (st st2 : St) : Prop :=
  match d with
  | .none => True
  | .box b => ∀ x, st.boxes[b]? = some x → st2.boxes[b]? = some x
  | .row r => ∀ x, st.rows[r]? = some x → st2.rows[r]? = some x
theorem Agree.of_ext {d : Dep} {st st' : St} (h : Ext st st') : Agree d st st' := by
  cases d with
  | none => trivial
  | box b => exact fun x hx => h.box hx
  | row r => exact fun x hx => h.row hx
theorem Agree.trans {d : Dep} {st st' st2 : St} (h : Agree d st st') (k : Agree d st' st2) : Agree d st st2 := by
  cases d with
  | none => trivial
  | box b => exact fun x hx => k x (h x hx)
  | row r => exact fun x hx => k x (h x hx)
def Gh.fzle (g g2 : Gh) : Prop := ∀ {k : Nat} {o : Obj}, g.fz k = some o → g2.fz k = some o
section
variable (P : Program) {ρ : Type}
def detS (st : St) (t : TypeId) (x : AL) (y : A1) : Bool :=
  match x with
  | .ptr b off =>
    match st.boxes[b]?, shapeOf P t with
    | some bc, some sh => ((bc.2.drop off).take (sh.getD 1)).all AL.det
    | _, _ => false
  | .ept r _ _ _ =>
    match st.rows[r]? with
    | some row =>
      match row.md with
      | .ro => true
      | _ => y.cells.all AL.isVal
    | none => false
  | _ => false
end
section
variable {P : Program} {st st' : St} {g : Gh} {w : World}
theorem det_list {g2 : Gh} (hg : g.le g2) : ∀ {xs : List AL} {us vs : List Value}, xs.all AL.det = true → F2 (AL.R g) xs us → F2 (AL.R g2) xs vs → vs = us
  | [], [], [], _, _, _ => rfl
  | x :: xs, u :: us, v :: vs, hd, hu, hv => by
    simp only [List.all_cons, Bool.and_eq_true] at hd
    rw [AL.det_eq hg hd.1 hu.1 hv.1, det_list hg hd.2 hu.2 hv.2]
theorem lvs_ext {cm : Nat → Md} {s : Sh} {x : s.den} : ∀ (n : Nat) (st0 : St) (off : Nat) (ys : List AL) (st' : St), st0.lvs cm s x off n = some (ys, st') → Ext st0 st'
  | 0, st0, off, ys, st', h => by
    simp only [St.lvs, Option.some.injEq, Prod.mk.injEq] at h
    obtain ⟨_, rfl⟩ := h
    exact .refl _
  | n + 1, st0, off, ys, st', h => by
    simp only [St.lvs] at h
    split at h
    · cases h
    · rename_i l hl
      split at h
      · cases h
      · rename_i ys1 st2 hys
        simp only [Option.some.injEq, Prod.mk.injEq] at h
        obtain ⟨_, rfl⟩ := h
        refine Ext.trans ?_ (lvs_ext n _ _ ys1 st2 hys)
        cases l with
        | sc v => exact .refl _
        | row e s' xs => exact ⟨⟨[], by simp [St.lv]⟩, _, rfl⟩
        | ror e s' xs => exact ⟨⟨[], by simp [St.lv]⟩, _, rfl⟩
        | hor h e s' xs => exact ⟨⟨[], by simp [St.lv]⟩, _, rfl⟩
theorem lvs_vals {cm : Nat → Md} {s : Sh} {x : s.den} : ∀ (n : Nat) (st : St) (off : Nat) (ys : List AL) (st' : St), st.lvs cm s x off n = some (ys, st') → ys.all AL.isVal = true → ∀ (w w2 : World) (c c2 : List Value), s.kd.K w x c → s.kd.K w2 x c2 → (c.drop off).take n = (c2.drop off).take n
  | 0, st, off, ys, st', h, _, w, w2, c, c2, hK, hK2 => by simp
  | n + 1, st, off, ys, st', h, hv, w, w2, c, c2, hK, hK2 => by
    simp only [St.lvs] at h
    split at h
    · cases h
    · rename_i l hl
      split at h
      · cases h
      · rename_i ys1 st2 hys
        simp only [Option.some.injEq, Prod.mk.injEq] at h
        obtain ⟨rfl, rfl⟩ := h
        simp only [List.all_cons, Bool.and_eq_true] at hv
        obtain ⟨u, hu, hr⟩ := s.leaf_rel x c hK off l hl
        obtain ⟨u2, hu2, hr2⟩ := s.leaf_rel x c2 hK2 off l hl
        have key : u = u2 := by
          cases l with
          | sc v =>
            have h1 : u = v := hr
            have h2 : u2 = v := hr2
            rw [h1, h2]
          | row e s' xs => cases hv.1
          | ror e s' xs => cases hv.1
          | hor h e s' xs => cases hv.1
        have hd : ∀ (c : List Value) (u : Value), c[off]? = some u → (c.drop off).take (n + 1) = u :: (c.drop (off + 1)).take n := by
          intro c u hu
          have : off < c.length := (List.getElem?_eq_some_iff.1 hu).1
          rw [List.drop_eq_getElem_cons this, List.take_succ_cons]
          congr 1
          exact (List.getElem?_eq_some_iff.1 hu).2
        rw [hd c u hu, hd c2 u2 hu2, key, lvs_vals n _ (off + 1) ys1 st2 hys hv.2 w w2 c c2 hK hK2]
theorem mkA_cells {sh : Option Nat} {ys : List AL} (hl : ys.length = sh.getD 1) : (mkA sh ys).cells = ys := by
  cases sh with
  | some n => rfl
  | none =>
    match ys, hl with
    | [y], _ => rfl
theorem loadS_till (hm : Mem st.boxes st.rows g w) {t : TypeId} {x : AL} {v : Value} (hx : x.R g v) {y : A1} (h : loadS P st t x = some (y, st')) (hdet : detS P st t x y = true) :
    ∃ (u : Value) (D : World → Prop), (∃ g', g.le g' ∧ Mem st'.boxes st'.rows g' w ∧ st'.tmps = st.tmps ∧ y.R g' u) ∧ Ext st st' ∧ (∀ w1, D w1 → (Instr.loadAt t v).run P w1 = .ok u w1) ∧
      (∀ st2 g2 w2, Agree (depOf st x) st st2 → g.le g2 → Mem st2.boxes st2.rows g2 w2 → D w2) ∧ (depOf st x = .none → ∀ g2 w2, g.fzle g2 → Stab g2 w2 → D w2) := by
  have h0 := h
  unfold loadS at h
  split at h
  · cases h
  · rename_i sh hsh
    split at h
    · rename_i b off
      split at h
      · cases h
      · rename_i bc hbc
        split at h
        · rename_i hlen
          simp only [Option.some.injEq, Prod.mk.injEq] at h
          obtain ⟨rfl, rfl⟩ := h
          obtain ⟨blk, hblk, rfl⟩ := hx
          obtain ⟨bt, cs⟩ := bc
          obtain ⟨vs, hh, hF⟩ := hm.box hbc hblk
          have hF' := (hF.drop off).take (sh.getD 1)
          have hl' := hF'.length
          have hdt : ((cs.drop off).take (sh.getD 1)).all AL.det = true := by
            unfold detS at hdet
            simpa only [hbc, hsh] using hdet
          refine ⟨mkV sh ((vs.toList.drop off).take (sh.getD 1)), fun w1 => ∃ vs1 : Array Value, w1.heap[blk]? = some (Obj.cells vs1 bt (0, 0)) ∧ (vs1.toList.drop off).take (sh.getD 1) = (vs.toList.drop off).take (sh.getD 1), ⟨g, .refl g, hm, rfl, mkA_rel hF' (by rw [← hl']; exact hlen)⟩, .refl _, fun w1 hD => ?_, fun st2 g2 w2 he hg hm2 => ?_, fun h0 => by cases h0⟩
          · obtain ⟨vs1, hh1, he1⟩ := hD
            simp only [Instr.loadAt, Instr.sureAddr, Sem.run_bind, Sem.run_pure, Result.andThen_ok]
            refine load_run hsh (by rw [← hl']; exact hlen) fun j u hj => ?_
            rw [add_at, cell_of_row w1 blk _ vs1 bt (0, 0) hh1]
            rw [← he1, List.getElem?_take] at hj
            split at hj
            · rw [List.getElem?_drop] at hj
              simpa using hj
            · cases hj
          · obtain ⟨vs2, hh2, hF2⟩ := hm2.box (he _ hbc) (hg.bx hblk)
            exact ⟨vs2, hh2, det_list hg hdt hF' ((hF2.drop off).take (sh.getD 1))⟩
        · cases h
    · rename_i r sz i off
      split at h
      · cases h
      · rename_i row hrow
        split at h
        · rename_i hsz
          obtain ⟨hsz, hoff⟩ := hsz
          have hmd : ∃ cm, row.md.child r sz i.toNat = some cm ∧ ∃ ys, st.lvs cm row.s (row.at_ i) off (sh.getD 1) = some (ys, st') ∧ y = mkA sh ys := by
            split at h
            · cases h
            · rename_i cm hd
              split at h
              · cases h
              · rename_i ys st1 hys
                simp only [Option.some.injEq, Prod.mk.injEq] at h
                obtain ⟨rfl, rfl⟩ := h
                exact ⟨cm, hd, ys, hys, rfl⟩
          obtain ⟨cm, hcm, ys, hys, rfl⟩ := hmd
          obtain ⟨ad, n, c, hv, i0, i1, rfl⟩ := hx
          obtain ⟨hn, cs, hcl, hK, hLf, hcell⟩ := hm.elem hrow (child_some hcm) hv i0 i1
          have hcm' := hcm
          rw [← hsz] at hcm
          obtain ⟨g', hle, hm', ht, hb, hF, hlen⟩ := lvs_rel (sh.getD 1) st g off ys st' hm (hLf cm hcm) hys
          have hl : ((cs.drop off).take (sh.getD 1)).length = sh.getD 1 := by rw [List.length_take, List.length_drop, hcl]; omega
          have hro : row.md = .ro → ∀ g2 w2, g.fzle g2 → Stab g2 w2 → ∀ j u, ((cs.drop off).take (sh.getD 1))[j]? = some u → w2.cell? (ad.add (i.toNat * row.s.sz + (off + j))) = some u := fun hro g2 w2 hg hst2 j u hj => by
            have hR := hm.row hrow hv
            unfold RowRel at hR
            rw [hro] at hR
            obtain ⟨A, c1, he1, _, hC⟩ := hR
            injection he1 with he2 he3 he4
            subst he2
            obtain ⟨ad1, cs1, e1, hl1, hK1, hcell1⟩ := Kd.C_get hC row.s.dflt i i0 (by omega)
            injection e1 with e1
            subst e1
            rw [row.s.kd_sz] at hl1 hcell1
            obtain rfl : cs1 = cs := same_cells (w := w) (ad := ad) (m := i.toNat * row.s.sz) hl1 hcl (fun j u hu => hm.st.cell (hcell1 j u hu)) hcell
            refine cells_mono_of (fun {k c e f} hk => hst2.fz (hg (hm.st.rd hk))) (hcell1 (off + j) u ?_)
            rw [List.getElem?_take] at hj
            split at hj
            · rwa [List.getElem?_drop] at hj
            · cases hj
          refine ⟨mkV sh ((cs.drop off).take (sh.getD 1)), fun w1 => ∀ j u, ((cs.drop off).take (sh.getD 1))[j]? = some u → w1.cell? (ad.add (i.toNat * row.s.sz + (off + j))) = some u, ⟨g', hle, hm', ht, mkA_rel hF hl⟩, lvs_ext _ _ _ _ _ hys, fun w1 hw1 => ?_, fun st2 g2 w2 he hg hm2 j u hj => ?_, fun h0 g2 w2 hg hst2 => ?_⟩
          · simp only [Instr.loadAt, Instr.sureAddr, Sem.run_bind, Sem.run_pure, Result.andThen_ok]
            refine load_run hsh hl fun j u hj => ?_
            rw [add2, ← hsz, Nat.add_assoc]
            exact hw1 j u hj
          · by_cases hro' : row.md = .ro
            · exact hro hro' g2 w2 (fun {k o} => hg.fz) hm2.st j u hj
            · unfold detS at hdet
              simp only [hrow] at hdet
              have hdt : ys.all AL.isVal = true := by
                have h1 : (mkA sh ys).cells.all AL.isVal = true := hdet
                rwa [mkA_cells hlen] at h1
              have he' : Agree (.row r) st st2 := by
                unfold depOf at he
                simp only [hrow] at he
                exact he
              obtain ⟨hn2, cs2, hcl2, hK2, _, hcell2⟩ := hm2.elem (he' _ hrow) (child_some hcm) (hg.rw hv) i0 i1
              rw [lvs_vals _ st off ys st' hys hdt w w2 cs cs2 hK hK2] at hj
              refine hcell2 (off + j) u ?_
              rw [List.getElem?_take] at hj
              split at hj
              · rwa [List.getElem?_drop] at hj
              · cases hj
          · refine hro ?_ g2 w2 hg hst2
            unfold depOf at h0
            simp only [hrow] at h0
            split at h0
            · assumption
            · cases h0
        · cases h
    · cases h
end
end Go.Proofs.YtmbcnpbgcfiafaaGreat.Vm
