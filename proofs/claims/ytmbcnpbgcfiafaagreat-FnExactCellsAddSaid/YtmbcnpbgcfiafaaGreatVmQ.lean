/- A walk by reckoning: a call. -/
import Derived.Test.YtmbcnpbgcfiafaaGreatVmE
namespace Go.Proofs.YtmbcnpbgcfiafaaGreat.Vm
open Go Go.RowKit Go.Proofs.YtmbcnpbgcfiafaaGreatW.PrintWords
set_option linter.unusedVariables false
set_option linter.unusedSimpArgs false

def Lent (g : Gh) (B R : List Nat) (k : Nat) : Prop := (∃ r m, g.tag k = some (r, m) ∧ R.contains r = true) ∨ (∃ b, b ∈ B ∧ g.bx[b]? = some k)
def RoAs (wz : World) (row : Row) (v : Value) : Prop := row.md = .ro ∧ ∃ A c, v = .slice A row.xs.length c ∧ row.xs.length ≤ c ∧ row.s.kd.C wz A row.xs.length row.xs
structure Fits (g G : Gh) (B R : List Nat) (n : Nat) (hs : List Value) : Prop where
  bx : ∀ {b i x : Nat}, B.idxOf? b = some i → g.bx[b]? = some x → G.bx[i]? = some x
  rw : ∀ {r i : Nat} {v : Value}, R.idxOf? r = some i → g.rw[r]? = some v → G.rw[i]? = some v
  ro : ∀ {j : Nat} {v : Value}, hs[j]? = some v → G.rw[n + j]? = some v
theorem Fits.left {g G : Gh} {B R : List Nat} {n : Nat} {hs qs : List Value} (h : Fits g G B R n (hs ++ qs)) : Fits g G B R n hs :=
  ⟨h.bx, h.rw, fun {j v} hj => h.ro (by rw [List.getElem?_append_left (List.getElem?_eq_some_iff.1 hj).1]; exact hj)⟩
theorem Fits.right {g G : Gh} {B R : List Nat} {n m : Nat} {hs qs : List Value} (h : Fits g G B R n (hs ++ qs)) (hl : hs.length = m) : Fits g G B R (n + m) qs :=
  ⟨h.bx, h.rw, fun {j v} hj => by
    have := h.ro (j := m + j) (v := v) (by rw [List.getElem?_append_right (by omega), show m + j - hs.length = j from by omega]; exact hj)
    rwa [Nat.add_assoc]⟩
theorem F2.append_ {α β : Type} {R : α → β → Prop} {xs xs' : List α} {ys ys' : List β} (h : F2 R xs ys) (h' : F2 R xs' ys') : F2 R (xs ++ xs') (ys ++ ys') := h.append h'
section
variable {st : St} {g : Gh} {w wz : World} {B R : List Nat} (hm : Mem st.boxes st.rows g w) (hz : ∀ k, ¬ Lent g B R k → wz.heap[k]? = w.heap[k]?)
include hm hz
theorem own_wz {s : Sh} {e : TypeId} {q : Nat} {p : List Nat} {v : Value} {xs : List s.den} (h : Own s e g.rz w 0 g.tag q p v xs) (hq : R.contains q = false) : Own s e g.rz wz 0 g.tag q p v xs :=
  Own.move h (fun k m hk _ hl => ⟨hz k (by
    rintro (⟨r, m', h1, h2⟩ | ⟨b, _, h2⟩)
    · rw [hl] at h1
      injection h1 with h1
      injection h1 with h1
      rw [← h1, hq] at h2
      cases h2
    · rw [(hm.free h2).1] at hl
      cases hl), hl⟩) (Nat.le_refl _) (fun _ _ h => h)
theorem cell_wz {a : Addr} {u : Value} (hc : g.rz.cell? a = some u) : wz.cell? a = some u :=
  cells_mono_of (fun {k c e f} hk => by
    have hf := hm.st.rd hk
    rw [hz k]
    · exact hm.st.fz hf
    · rintro (⟨r, m', h1, h2⟩ | ⟨b, _, h2⟩)
      · rw [hm.dom h1] at hf
        cases hf
      · rw [(hm.free h2).2] at hf
        cases hf) hc
theorem row_wz {r : Nat} {row : Row} {v : Value} (hrow : st.rows[r]? = some row) (hv : g.rw[r]? = some v) (hd : row.md ≠ .dead) (hq : (row.md.isRo = true ∨ R.contains (row.md.root r) = false)) :
    ∃ A c, v = .slice A row.xs.length c ∧ row.xs.length ≤ c ∧ row.s.kd.C wz A row.xs.length row.xs := by
  have h := hm.row hrow hv
  unfold RowRel at h
  split at h
  · obtain ⟨A, c, h1, h2, h3⟩ := h
    exact ⟨A, c, h1, h2, row.s.C_cells_mono (fun _ _ => cell_wz hm hz) h3⟩
  · obtain ⟨A, c, h1, h2, h3⟩ := h
    exact ⟨A, c, h1, h2, row.s.C_cells_mono (fun _ _ => cell_wz hm hz) h3⟩
  · rename_i e
    rcases hq with hq | hq
    · rw [e] at hq; cases hq
    · rw [e] at hq
      exact (own_wz hm hz h hq).reads (fun _ _ => cell_wz hm hz)
  · rename_i q e
    rcases hq with hq | hq
    · rw [e] at hq; cases hq
    · rw [e] at hq
      obtain ⟨p, h⟩ := h
      exact (own_wz hm hz h hq).reads (fun _ _ => cell_wz hm hz)
  · rename_i q _ _ _ e
    rcases hq with hq | hq
    · rw [e] at hq; cases hq
    · rw [e] at hq
      exact (own_wz hm hz h.1 hq).reads (fun _ _ => cell_wz hm hz)
  · obtain ⟨⟨A, c, h1, h2, h3⟩, _⟩ := h
    exact ⟨A, c, h1, h2, row.s.C_cells_mono (fun _ _ => cell_wz hm hz) h3⟩
  · rename_i e; exact absurd e hd
theorem asRo_rel {x : AL} {v : Value} {row : Row} (hx : x.R g v) (h : st.asRo R x = some row) : RoAs wz row v := by
  unfold St.asRo at h
  split at h
  · rename_i r
    split at h
    · cases h
    · rename_i row0 hrow
      split at h
      · rename_i hcr
        obtain ⟨hd, hq⟩ := Md.canRead_of hcr
        injection h with he
        subst he
        obtain ⟨A, c, h1, h2, h3⟩ := row_wz hm hz hrow hx hd hq
        refine ⟨rfl, A, c, ?_, ?_, ?_⟩
        · show v = .slice A (row0.s.nrm row0.xs).length c
          rw [Sh.nrm_len]; exact h1
        · show (row0.s.nrm row0.xs).length ≤ c
          rw [Sh.nrm_len]; exact h2
        · show row0.s.norm.kd.C wz A (row0.s.nrm row0.xs).length (row0.s.nrm row0.xs)
          rw [Sh.nrm_len]; exact row0.s.norm_C h3
      · cases h
  · rename_i r sz lo hi
    split at h
    · cases h
    · rename_i row0 hrow
      obtain ⟨A, n, c, A', hv, h0, h1, h2, h3, h4, h5, rfl⟩ := hx
      split at h
      · rename_i hcr
        obtain ⟨hd, hq⟩ := Md.canRead_of hcr
        split at h
        · rename_i hsz
          injection h with he
          subst he
          subst hsz
          obtain ⟨B', d, he, h6, h7⟩ := row_wz hm hz hrow hv hd hq
          injection he with he1 he2 he3
          subst he1; subst he2; subst he3
          obtain ⟨h8, h9⟩ := vw_reads (n := c) h7 h6 (lo := lo.toNat) (hi := hi.toNat) (by omega) (by omega) h4
          refine ⟨rfl, A', c - lo.toNat, ?_, ?_, ?_⟩
          · show _ = Value.slice A' (row0.s.nrm ((row0.xs.take hi.toNat).drop lo.toNat)).length (c - lo.toNat)
            rw [Sh.nrm_len, ← h8]
          · show (row0.s.nrm ((row0.xs.take hi.toNat).drop lo.toNat)).length ≤ _
            rw [Sh.nrm_len, ← h8]; omega
          · show row0.s.norm.kd.C wz A' (row0.s.nrm ((row0.xs.take hi.toNat).drop lo.toNat)).length (row0.s.nrm ((row0.xs.take hi.toNat).drop lo.toNat))
            rw [Sh.nrm_len]; exact row0.s.norm_C h9
        · cases h
      · cases h
  · cases h
theorem over_rel {n : Nat} {x y : AL} {v : Value} {rs : List Row} (hx : x.R g v) (h : st.over B R n x = some (y, rs)) :
    ∃ hs : List Value, hs.length = rs.length ∧ F2 (RoAs wz) rs hs ∧ ∀ G : Gh, Fits g G B R n hs → y.R G v := by
  cases x with
  | unk =>
    simp only [St.over, Option.some.injEq, Prod.mk.injEq] at h
    obtain ⟨rfl, rfl⟩ := h
    exact ⟨[], rfl, trivial, fun _ _ => trivial⟩
  | val u =>
    simp only [St.over, Option.some.injEq, Prod.mk.injEq] at h
    obtain ⟨rfl, rfl⟩ := h
    exact ⟨[], rfl, trivial, fun _ _ => hx⟩
  | ptr b off =>
    simp only [St.over, Option.map_eq_some_iff] at h
    obtain ⟨i, hi, he⟩ := h
    injection he with he1 he2
    subst he1; subst he2
    obtain ⟨blk, hb, hv⟩ := hx
    exact ⟨[], rfl, trivial, fun G hG => ⟨blk, hG.bx hi hb, hv⟩⟩
  | fn f caps =>
    simp only [St.over, Option.map_eq_some_iff] at h
    obtain ⟨cs, hc, he⟩ := h
    injection he with he1 he2
    subst he1; subst he2
    obtain ⟨us, hv, hF⟩ := hx
    exact ⟨[], rfl, trivial, fun G hG => ⟨us, hv, caps_rel (fb := fun b => B.idxOf? b) (fr := fun r => R.idxOf? r) ⟨fun h1 h2 => hG.bx h1 h2, fun h1 h2 => hG.rw h1 h2⟩ hc hF⟩⟩
  | sl r =>
    simp only [St.over] at h
    split at h
    · rename_i i hi
      injection h with h
      injection h with h1 h2
      subst h1; subst h2
      exact ⟨[], rfl, trivial, fun G hG => hG.rw hi hx⟩
    · split at h
      · rename_i hgone
        simp only [Option.some.injEq, Prod.mk.injEq] at h
        obtain ⟨rfl, rfl⟩ := h
        unfold St.gone at hgone
        split at hgone
        · rename_i row hrow
          exact ⟨[], rfl, trivial, fun _ _ => (hm.row hrow hx).slice⟩
        · cases hgone
      · obtain ⟨row, hrow, he⟩ := Option.map_eq_some_iff.1 h
        injection he with h1 h2
        subst h1; subst h2
        exact ⟨[v], rfl, ⟨asRo_rel hm hz hx hrow, trivial⟩, fun G hG => by have := hG.ro (j := 0) (v := v) rfl; exact this⟩
  | vw r sz lo hi =>
    simp only [St.over] at h
    obtain ⟨row, hrow, he⟩ := Option.map_eq_some_iff.1 h
    injection he with h1 h2
    subst h1; subst h2
    exact ⟨[v], rfl, ⟨asRo_rel hm hz hx hrow, trivial⟩, fun G hG => by have := hG.ro (j := 0) (v := v) rfl; exact this⟩
  | ept r sz i off => simp [St.over] at h
  | al r => simp [St.over] at h
  | err b => simp [St.over] at h
  | hs =>
    simp only [St.over, Option.some.injEq, Prod.mk.injEq] at h
    obtain ⟨rfl, rfl⟩ := h
    exact ⟨[], rfl, trivial, fun _ _ => hx⟩
theorem overL_rel : ∀ {xs ys : List AL} {vs : List Value} {n : Nat} {rs : List Row}, F2 (AL.R g) xs vs → st.overL B R n xs = some (ys, rs) →
    ∃ hs : List Value, hs.length = rs.length ∧ F2 (RoAs wz) rs hs ∧ ∀ G : Gh, Fits g G B R n hs → F2 (AL.R G) ys vs
  | [], ys, [], n, rs, _, h => by
    simp only [St.overL, Option.some.injEq, Prod.mk.injEq] at h
    obtain ⟨rfl, rfl⟩ := h
    exact ⟨[], rfl, trivial, fun _ _ => trivial⟩
  | x :: xs, ys, v :: vs, n, rs, hF, h => by
    simp only [St.overL] at h
    split at h
    · cases h
    · rename_i y r1 h1
      split at h
      · cases h
      · rename_i ys1 r2 h2
        injection h with h
        injection h with e1 e2
        subst e1; subst e2
        obtain ⟨hs1, hl1, hF1, hG1⟩ := over_rel hm hz hF.1 h1
        obtain ⟨hs2, hl2, hF2, hG2⟩ := overL_rel hF.2 h2
        exact ⟨hs1 ++ hs2, by simp [hl1, hl2], hF1.append hF2, fun G hG => ⟨hG1 G hG.left, hG2 G (hG.right hl1)⟩⟩
theorem overV_rel : ∀ {xs ys : List AV} {vs : List Value} {n : Nat} {rs : List Row}, F2 (AV.R g) xs vs → st.overV B R n xs = some (ys, rs) →
    ∃ hs : List Value, hs.length = rs.length ∧ F2 (RoAs wz) rs hs ∧ ∀ G : Gh, Fits g G B R n hs → F2 (AV.R G) ys vs
  | [], ys, [], n, rs, _, h => by
    simp only [St.overV, Option.some.injEq, Prod.mk.injEq] at h
    obtain ⟨rfl, rfl⟩ := h
    exact ⟨[], rfl, trivial, fun _ _ => trivial⟩
  | .s1 (.one x) :: xs, ys, v :: vs, n, rs, hF, h => by
    simp only [St.overV] at h
    split at h
    · cases h
    · rename_i y r1 h1
      split at h
      · cases h
      · rename_i ys1 r2 h2
        injection h with h
        injection h with e1 e2
        subst e1; subst e2
        obtain ⟨hs1, hl1, hF1, hG1⟩ := over_rel hm hz hF.1 h1
        obtain ⟨hs2, hl2, hF2, hG2⟩ := overV_rel hF.2 h2
        exact ⟨hs1 ++ hs2, by simp [hl1, hl2], hF1.append hF2, fun G hG => ⟨hG1 G hG.left, hG2 G (hG.right hl1)⟩⟩
  | .s1 (.agg x) :: xs, ys, v :: vs, n, rs, hF, h => by
    simp only [St.overV] at h
    split at h
    · cases h
    · rename_i y r1 h1
      split at h
      · cases h
      · rename_i ys1 r2 h2
        injection h with h
        injection h with e1 e2
        subst e1; subst e2
        obtain ⟨cs, rfl, hc⟩ := hF.1
        obtain ⟨hs1, hl1, hF1, hG1⟩ := overL_rel hm hz hc h1
        obtain ⟨hs2, hl2, hF2, hG2⟩ := overV_rel hF.2 h2
        exact ⟨hs1 ++ hs2, by simp [hl1, hl2], hF1.append hF2, fun G hG => ⟨⟨cs, rfl, hG1 G hG.left⟩, hG2 G (hG.right hl1)⟩⟩
  | .tup _ :: _, ys, v :: vs, n, rs, hF, h => by simp [St.overV] at h
theorem overB_rel : ∀ {bs : List Nat} {ys : List (TypeId × List AL)} {n : Nat} {rs : List Row}, st.overB B R n bs = some (ys, rs) →
    ∃ hs : List Value, hs.length = rs.length ∧ F2 (RoAs wz) rs hs ∧ ys.length = bs.length ∧ ∀ G : Gh, Fits g G B R n hs → ∀ {i b : Nat}, bs[i]? = some b → ∃ t cs blk vs, ys[i]? = some (t, cs) ∧ g.bx[b]? = some blk ∧ w.heap[blk]? = some (Obj.cells vs t (0, 0)) ∧ F2 (AL.R G) cs vs.toList
  | [], ys, n, rs, h => by
    simp only [St.overB, Option.some.injEq, Prod.mk.injEq] at h
    obtain ⟨rfl, rfl⟩ := h
    exact ⟨[], rfl, trivial, rfl, fun _ _ i b hi => by simp at hi⟩
  | b :: bs, ys, n, rs, h => by
    simp only [St.overB] at h
    split at h
    · cases h
    · rename_i bc hbc
      split at h
      · cases h
      · rename_i y r1 h1
        split at h
        · cases h
        · rename_i ys1 r2 h2
          injection h with h
          injection h with e1 e2
          subst e1; subst e2
          have hlt : b < g.bx.length := by rw [← hm.bl]; exact (List.getElem?_eq_some_iff.1 hbc).1
          obtain ⟨vs, hh, hF⟩ := hm.box (t := bc.1) (cs := bc.2) hbc (List.getElem?_eq_getElem hlt)
          obtain ⟨hs1, hl1, hF1, hG1⟩ := overL_rel hm hz hF h1
          obtain ⟨hs2, hl2, hF2, hyl, hG2⟩ := overB_rel h2
          refine ⟨hs1 ++ hs2, by simp [hl1, hl2], hF1.append hF2, by simp [hyl], fun G hG {i b'} hi => ?_⟩
          cases i with
          | zero =>
            simp at hi
            subst hi
            exact ⟨bc.1, y, _, vs, rfl, List.getElem?_eq_getElem hlt, hh, hG1 G hG.left⟩
          | succ i =>
            simp at hi
            simpa using hG2 G (hG.right hl1) hi
end
end Go.Proofs.YtmbcnpbgcfiafaaGreat.Vm
