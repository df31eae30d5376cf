/- A walk by reckoning: a call's world, seen from there, and what is seen of it here. -/
import Derived.Test.YtmbcnpbgcfiafaaGreatVmQ
namespace Go.Proofs.YtmbcnpbgcfiafaaGreat.Vm
open Go Go.RowKit Go.Proofs.YtmbcnpbgcfiafaaGreatW.PrintWords
set_option linter.unusedVariables false
set_option linter.unusedSimpArgs false

def lentB (g : Gh) (m : Mini) (k : Nat) : Bool :=
  (match g.tag k with
  | some x => m.R.contains x.1
  | none => false) || m.B.any fun b => decide (g.bx[b]? = some k)
theorem lentB_iff {g : Gh} {m : Mini} {k : Nat} : lentB g m k = true ↔ Lent g m.B m.R k := by
  unfold lentB Lent
  rw [Bool.or_eq_true, List.any_eq_true]
  constructor
  · rintro (h | ⟨b, hb, h⟩)
    · split at h
      · rename_i x hx
        exact .inl ⟨x.1, x.2, hx, h⟩
      · cases h
    · exact .inr ⟨b, hb, by simpa using h⟩
  · rintro (⟨r, p, h1, h2⟩ | ⟨b, hb, h⟩)
    · rw [h1]
      exact .inl h2
    · exact .inr ⟨b, hb, by simpa using h⟩
def wzOf (g : Gh) (w : World) (m : Mini) : World := { w with heap := w.heap.mapIdx fun k o => if lentB g m k = true then .pending #[] 0 else o }
theorem wzOf_get {g : Gh} {w : World} {m : Mini} (k : Nat) (h : ¬ Lent g m.B m.R k) : (wzOf g w m).heap[k]? = w.heap[k]? := by
  unfold wzOf
  simp only [Array.getElem?_mapIdx]
  cases hw : w.heap[k]? with
  | none => rfl
  | some o =>
    have : ¬ lentB g m k = true := fun e => h (lentB_iff.1 e)
    simp [this]
theorem wzOf_lent {g : Gh} {w : World} {m : Mini} {k : Nat} (h : Lent g m.B m.R k) : (wzOf g w m).heap[k]? = (w.heap[k]?).map fun _ => Obj.pending #[] 0 := by
  unfold wzOf
  simp only [Array.getElem?_mapIdx]
  cases hw : w.heap[k]? with
  | none => rfl
  | some o => simp [lentB_iff.2 h]
def Gh.over (g : Gh) (w : World) (m : Mini) (hs : List Value) : Gh :=
  ⟨m.B.map fun b => g.bx.getD b 0, (m.R.map fun r => g.rw.getD r undef) ++ hs, fun k => (g.tag k).bind fun x => (m.R.idxOf? x.1).map fun i => (i, x.2), wzOf g w m, lentB g m, w, wzOf g w m⟩
section
variable {g : Gh} {w : World} {m : Mini} {hs : List Value}
theorem over_fz {k : Nat} : (g.over w m hs).fz k = if lentB g m k = true then none else w.heap[k]? := by
  have e1 : (g.over w m hs).wz = wzOf g w m := rfl
  have e2 : (g.over w m hs).lent = lentB g m := rfl
  unfold Gh.fz
  rw [e1, e2]
  by_cases hl : lentB g m k = true
  · rw [wzOf_lent (lentB_iff.1 hl), if_pos hl]
    cases w.heap[k]? with
    | none => rfl
    | some o => simp [hl]
  · rw [wzOf_get k (fun e => hl (lentB_iff.2 e)), if_neg hl]
    cases hw : w.heap[k]? with
    | none => rfl
    | some o => cases o <;> simp [hl]
theorem over_tab {bs : List (TypeId × List AL)} {rs : List Row} (hm : Mem bs rs g w) : TabF (g.over w m hs) := fun x hx => by
  obtain ⟨cs, t, f, h0, h1⟩ := hm.st.tab x hx
  refine ⟨cs, t, f, h0, ?_⟩
  rw [over_fz, if_neg]
  · exact hm.st.fz h1
  · intro hl
    rcases lentB_iff.1 hl with ⟨r, p, h3, _⟩ | ⟨b, _, h4⟩
    · rw [hm.dom h3] at h1; cases h1
    · rw [(hm.free h4).2] at h1; cases h1
theorem over_tag {k : Nat} {x : Nat × List Nat} (h : (g.over w m hs).tag k = some x) : ∃ r, g.tag k = some (r, x.2) ∧ m.R[x.1]? = some r := by
  have h' : (g.tag k).bind (fun x => (m.R.idxOf? x.1).map fun i => (i, x.2)) = some x := h
  cases hg : g.tag k with
  | none => rw [hg] at h'; cases h'
  | some y =>
    rw [hg] at h'
    simp only [Option.bind_some, Option.map_eq_some_iff] at h'
    obtain ⟨i, hi, rfl⟩ := h'
    exact ⟨y.1, rfl, idx_get hi⟩
end
theorem lentRows_get {st : St} {R0 : List Nat} : ∀ {R : List Nat} {lr : List Row}, st.lentRows R0 R = some lr → lr.length = R.length ∧ (∀ {i r : Nat}, R[i]? = some r → ∃ row md, st.rows[r]? = some row ∧ row.md.lend R0 = some md ∧ lr[i]? = some { row with md := md })
  | [], lr, h => by
    simp only [St.lentRows, Option.some.injEq] at h
    subst h
    exact ⟨rfl, fun h => by simp at h⟩
  | r :: rs, lr, h => by
    simp only [St.lentRows] at h
    split at h
    · rename_i row ys h1 h2
      obtain ⟨md, hmd, h⟩ := Option.map_eq_some_iff.1 h
      subst h
      obtain ⟨hl, hg⟩ := lentRows_get h2
      refine ⟨by simp [hl], fun {i r'} hi => ?_⟩
      cases i with
      | zero =>
        simp at hi
        subst hi
        exact ⟨row, md, h1, hmd, rfl⟩
      | succ i =>
        simp at hi
        simpa using hg hi
    · cases h
theorem lend_cases {R0 : List Nat} {md md' : Md} (h : md.lend R0 = some md') : (md = .own ∧ md' = .own) ∨ (md' = .rop ∧ md ≠ .dead ∧ ∀ r, md.isRo = true ∨ R0.contains (md.root r) = false) := by
  cases md with
  | own => simp [Md.lend] at h; exact .inl ⟨rfl, h.symm⟩
  | ro => simp [Md.lend] at h; exact .inr ⟨h.symm, by simp, fun _ => .inl rfl⟩
  | rop => simp [Md.lend] at h; exact .inr ⟨h.symm, by simp, fun _ => .inl rfl⟩
  | roh _ => simp [Md.lend] at h; exact .inr ⟨h.symm, by simp, fun _ => .inl rfl⟩
  | dead => simp [Md.lend] at h
  | brw q =>
    unfold Md.lend at h
    simp only at h
    split at h
    · cases h
    · rename_i hc
      injection h with h
      exact .inr ⟨h.symm, by simp, fun _ => .inr (by simpa [Md.root] using hc)⟩
  | sub q _ _ _ =>
    unfold Md.lend at h
    simp only at h
    split at h
    · cases h
    · rename_i hc
      injection h with h
      exact .inr ⟨h.symm, by simp, fun _ => .inr (by simpa [Md.root] using hc)⟩
theorem ownN_lent {st : St} {R0 : List Nat} {qs : List Row} (hq : ∀ q ∈ qs, q.md = .ro) : ∀ {R : List Nat} {lr : List Row}, st.lentRows R0 R = some lr → ownN (lr ++ qs) = R.length
  | [], lr, h => by
    simp only [St.lentRows, Option.some.injEq] at h
    subst h
    match qs, hq with
    | [], _ => rfl
    | q :: qs, hq => simp [ownN, hq q List.mem_cons_self]
  | r :: rs, lr, h => by
    simp only [St.lentRows] at h
    split at h
    · rename_i row ys h1 h2
      obtain ⟨md, hmd, h⟩ := Option.map_eq_some_iff.1 h
      subst h
      rcases lend_cases hmd with ⟨_, rfl⟩ | ⟨rfl, _⟩ <;> simp [ownN, ownN_lent hq h2]
    · cases h
theorem RoAs_all {wz : World} : ∀ {rs : List Row} {hs : List Value}, F2 (RoAs wz) rs hs → ∀ q ∈ rs, q.md = .ro
  | [], [], _ => by simp
  | r :: rs, v :: hs, h => fun q hq => by
    rcases List.mem_cons.1 hq with rfl | hq
    · exact h.1.1
    · exact RoAs_all h.2 q hq
theorem miniAt_some {st : St} {avs : List AV} {B R : List Nat} {m : Mini} (h : st.miniAt avs B R = some m) :
    fresh m.B = true ∧ fresh m.R = true ∧ ∃ lr r1 r2, st.lentRows m.R m.R = some lr ∧ st.overV m.B m.R lr.length avs = some (m.args, r1) ∧ st.overB m.B m.R (lr.length + r1.length) m.B = some (m.boxes, r2) ∧ m.rows = lr ++ (r1 ++ r2) := by
  unfold St.miniAt at h
  split at h
  · rename_i hf
    split at h
    · cases h
    · rename_i lr hlr
      split at h
      · cases h
      · rename_i as1 r1 h1
        split at h
        · cases h
        · rename_i bs r2 h2
          injection h with h
          subst h
          exact ⟨hf.1, hf.2, lr, r1, r2, hlr, h1, h2, rfl⟩
  · cases h
theorem mini_some {st : St} {muts : List Nat} {avs : List AV} {m : Mini} (h : st.mini muts avs = some m) :
    fresh m.B = true ∧ fresh m.R = true ∧ ∃ lr r1 r2, st.lentRows m.R m.R = some lr ∧ st.overV m.B m.R lr.length avs = some (m.args, r1) ∧ st.overB m.B m.R (lr.length + r1.length) m.B = some (m.boxes, r2) ∧ m.rows = lr ++ (r1 ++ r2) :=
  miniAt_some h
section
variable {st : St} {g : Gh} {w : World} (hm : Mem st.boxes st.rows g w)
include hm
theorem mini_mem {muts : List Nat} {avs : List AV} {m : Mini} {vals : List Value} (h : st.mini muts avs = some m) (hF : F2 (AV.R g) avs vals) :
    ∃ hs, Mem m.boxes m.rows (g.over w m hs) w ∧ Full (g.over w m hs) w ∧ F2 (AV.R (g.over w m hs)) m.args vals ∧ ownN m.rows = m.R.length ∧ m.boxes.length = m.B.length := by
  obtain ⟨hB, hR, lr, r1, r2, hlr, h1, h2, hrows⟩ := mini_some h
  have hz : ∀ k, ¬ Lent g m.B m.R k → (wzOf g w m).heap[k]? = w.heap[k]? := fun k hk => wzOf_get k hk
  obtain ⟨hs1, hl1, hF1, hG1⟩ := overV_rel hm hz hF h1
  obtain ⟨hs2, hl2, hF2', hyl, hG2⟩ := overB_rel hm hz h2
  obtain ⟨hll, hlg⟩ := lentRows_get hlr
  have hbx : ∀ {b i x : Nat}, m.B[i]? = some b → g.bx[b]? = some x → (g.over w m (hs1 ++ hs2)).bx[i]? = some x := by
    intro b i x hi hx
    show (m.B.map fun b => g.bx.getD b 0)[i]? = some x
    simp [hi, hx]
  have hrw : ∀ {r i : Nat} {v : Value}, m.R[i]? = some r → g.rw[r]? = some v → (g.over w m (hs1 ++ hs2)).rw[i]? = some v := by
    intro r i v hi hv
    show ((m.R.map fun r => g.rw.getD r undef) ++ (hs1 ++ hs2))[i]? = some v
    rw [List.getElem?_append_left (by rw [List.length_map]; exact (List.getElem?_eq_some_iff.1 hi).1)]
    simp [hi, hv]
  have hfit : Fits g (g.over w m (hs1 ++ hs2)) m.B m.R lr.length (hs1 ++ hs2) :=
    ⟨fun h1 h2 => hbx (idx_get h1) h2, fun h1 h2 => hrw (idx_get h1) h2, fun {j v} hj => by
      show ((m.R.map fun r => g.rw.getD r undef) ++ (hs1 ++ hs2))[lr.length + j]? = some v
      rw [List.getElem?_append_right (by rw [List.length_map]; omega), List.length_map, show lr.length + j - m.R.length = j from by omega]
      exact hj⟩
  have hG1 := hG1 _ hfit.left
  have hG2 := fun {i b : Nat} => hG2 _ (hfit.right hl1) (i := i) (b := b)
  have hall : ∀ q ∈ r1 ++ r2, q.md = .ro := RoAs_all (hF1.append hF2')
  have bx_inv : ∀ {i blk : Nat}, (g.over w m (hs1 ++ hs2)).bx[i]? = some blk → ∃ b, m.B[i]? = some b ∧ g.bx[b]? = some blk := by
    intro i blk hx
    have hx' : (m.B.map fun b => g.bx.getD b 0)[i]? = some blk := hx
    rw [List.getElem?_map, Option.map_eq_some_iff] at hx'
    obtain ⟨b, hb1, hb2⟩ := hx'
    obtain ⟨t, cs, blk', vs, _, hb3, _⟩ := hG2 hb1
    refine ⟨b, hb1, ?_⟩
    rw [List.getD_eq_getElem?_getD, hb3] at hb2
    rw [hb3]
    simpa using hb2
  refine ⟨hs1 ++ hs2, ⟨?_, fun {i t cs blk} hi hx => ?_, fun {i blk} hi => ?_, fun {i j blk} hi hj => ?_, ?_, fun {r row v} hr hv => ?_, ⟨over_tab hm, rfl, rfl, rfl, Nat.le_refl _, fun {k o} hk => ?_, fun {k c e f} hk => fz_some (g := g.over w m (hs1 ++ hs2)) hk⟩, fun {k x} hk => ?_⟩, fun k hk ht hb => ?_, hG1, by rw [hrows]; exact ownN_lent hall hlr, hyl⟩
  · show m.boxes.length = (m.B.map _).length
    rw [hyl, List.length_map]
  · obtain ⟨b, hb, hblk⟩ := bx_inv hx
    obtain ⟨t', cs', blk', vs, hy, hb', hh, hF'⟩ := hG2 hb
    rw [hi] at hy
    simp only [Option.some.injEq, Prod.mk.injEq] at hy
    obtain ⟨rfl, rfl⟩ := hy
    rw [hblk] at hb'
    injection hb' with hb'
    subst hb'
    exact ⟨vs, hh, hF'⟩
  · obtain ⟨b, hb, hblk⟩ := bx_inv hi
    refine ⟨?_, ?_⟩
    · show (g.tag blk).bind _ = none
      rw [(hm.free hblk).1]
      rfl
    · rw [over_fz, if_pos (lentB_iff.2 (.inr ⟨b, List.mem_of_getElem? hb, hblk⟩))]
  · obtain ⟨b, hb, hblk⟩ := bx_inv hi
    obtain ⟨b', hb', hblk'⟩ := bx_inv hj
    have := hm.inj hblk hblk'
    subst this
    have e1 := fresh_idx hB hb
    have e2 := fresh_idx hB hb'
    rw [e1] at e2
    exact Option.some.inj e2
  · show m.rows.length = ((m.R.map _) ++ (hs1 ++ hs2)).length
    rw [hrows]
    simp [hll, hl1, hl2]
  · rw [hrows] at hr
    rcases Nat.lt_or_ge r lr.length with hlt | hge
    · rw [List.getElem?_append_left hlt] at hr
      obtain ⟨q, hq⟩ : ∃ q, m.R[r]? = some q := ⟨_, List.getElem?_eq_getElem (by omega)⟩
      obtain ⟨row', md', h3, hlend, h4⟩ := hlg hq
      rw [hr] at h4
      injection h4 with h4
      subst h4
      have hqlt : q < g.rw.length := by rw [← hm.rl]; exact (List.getElem?_eq_some_iff.1 h3).1
      have hv' := hrw hq (List.getElem?_eq_getElem hqlt)
      rw [hv] at hv'
      injection hv' with hv'
      subst hv'
      rcases lend_cases hlend with ⟨hmd, rfl⟩ | ⟨rfl, hnd, hro⟩
      · have := hm.row h3 (List.getElem?_eq_getElem hqlt)
        unfold RowRel at this ⊢
        rw [hmd] at this
        refine Own.move this (fun k p _ _ hk => ⟨rfl, ?_⟩) (Nat.le_refl _) (fun _ _ => cell_wz hm hz)
        show (g.tag k).bind _ = _
        rw [hk]
        simp only [Option.bind_some, fresh_idx hR hq, Option.map_some]
      · have := row_wz hm hz h3 (List.getElem?_eq_getElem hqlt) hnd (hro _)
        unfold RowRel
        exact this
    · rw [List.getElem?_append_right hge] at hr
      have hv' : (hs1 ++ hs2)[r - lr.length]? = some v := by
        have hv2 : ((m.R.map fun r => g.rw.getD r undef) ++ (hs1 ++ hs2))[r]? = some v := hv
        rw [List.getElem?_append_right (by rw [List.length_map]; omega), List.length_map] at hv2
        rw [hll]
        exact hv2
      obtain ⟨v', hv3, hro⟩ := (hF1.append hF2').get hr
      rw [hv'] at hv3
      injection hv3 with hv3
      subst hv3
      obtain ⟨hmd, hro⟩ := hro
      unfold RowRel
      rw [hmd]
      exact hro
  · rw [over_fz] at hk
    split at hk
    · cases hk
    · exact hk
  · obtain ⟨r, h3, h4⟩ := over_tag hk
    rw [over_fz, if_pos (lentB_iff.2 (.inl ⟨r, x.2, h3, by rw [List.contains_iff_mem]; exact List.mem_of_getElem? h4⟩))]
  · rw [over_fz, if_neg]
    intro hl
    rcases lentB_iff.1 hl with ⟨r, p, h3, h4⟩ | ⟨b, hb', hblk⟩
    · obtain ⟨i, hi⟩ := List.getElem?_of_mem (List.contains_iff_mem.1 h4)
      have : (g.over w m (hs1 ++ hs2)).tag k = some (i, p) := by
        show (g.tag k).bind _ = _
        rw [h3]
        simp only [Option.bind_some, fresh_idx hR hi, Option.map_some]
      rw [ht] at this
      cases this
    · obtain ⟨i, hi⟩ := List.getElem?_of_mem hb'
      exact hb i (hbx hi hblk)
end
end Go.Proofs.YtmbcnpbgcfiafaaGreat.Vm
