/- A walk by reckoning: what came back of a call. -/
import Derived.Test.YtmbcnpbgcfiafaaGreatVmX
namespace Go.Proofs.YtmbcnpbgcfiafaaGreat.Vm
open Go Go.RowKit Go.Proofs.YtmbcnpbgcfiafaaGreatW.PrintWords
set_option linter.unusedVariables false
set_option linter.unusedSimpArgs false

theorem setRows_get {R : List Nat} {news : List Row} : ∀ {rs : List Row} {n : Nat}, (setRows R news n rs).length = rs.length ∧ ∀ {i : Nat} {row : Row}, (setRows R news n rs)[i]? = some row → ∃ row0, rs[i]? = some row0 ∧ ((∃ j, R.idxOf? (n + i) = some j ∧ ((news[j]? = some row ∧ row.md ≠ .rop) ∨ row = row0)) ∨ (R.idxOf? (n + i) = none ∧ row = row0))
  | [], n => ⟨rfl, fun h => by simp [setRows] at h⟩
  | r :: rs, n => by
    obtain ⟨hl, hg⟩ := setRows_get (R := R) (news := news) (rs := rs) (n := n + 1)
    refine ⟨by simp [setRows, hl], fun {i row} h => ?_⟩
    cases i with
    | zero =>
      simp only [setRows, List.getElem?_cons_zero, Option.some.injEq] at h
      refine ⟨r, rfl, ?_⟩
      split at h
      · rename_i j hj
        refine .inl ⟨j, by simpa using hj, ?_⟩
        unfold Row.orOld at h
        split at h
        · exact .inr h.symm
        · rename_i hne
          subst h
          cases hn : news[j]? with
          | none => exact .inr rfl
          | some y => exact .inl ⟨rfl, fun e => hne (by rw [hn]; exact e)⟩
      · rename_i hj
        exact .inr ⟨by simpa using hj, h.symm⟩
    | succ i =>
      simp only [setRows, List.getElem?_cons_succ] at h
      obtain ⟨row0, h1, h2⟩ := hg h
      refine ⟨row0, by simpa using h1, ?_⟩
      rw [show n + (i + 1) = n + 1 + i from by omega]
      exact h2
theorem setBoxes_get {B : List Nat} {news : List (TypeId × List AL)} : ∀ {rs : List (TypeId × List AL)} {n : Nat}, (setBoxes B news n rs).length = rs.length ∧ ∀ {i : Nat} {row : TypeId × List AL}, (setBoxes B news n rs)[i]? = some row → ∃ row0, rs[i]? = some row0 ∧ ((∃ j, B.idxOf? (n + i) = some j ∧ (news[j]? = some row ∨ (news[j]? = none ∧ row = row0))) ∨ (B.idxOf? (n + i) = none ∧ row = row0))
  | [], n => ⟨rfl, fun h => by simp [setBoxes] at h⟩
  | r :: rs, n => by
    obtain ⟨hl, hg⟩ := setBoxes_get (B := B) (news := news) (rs := rs) (n := n + 1)
    refine ⟨by simp [setBoxes, hl], fun {i row} h => ?_⟩
    cases i with
    | zero =>
      simp only [setBoxes, List.getElem?_cons_zero, Option.some.injEq] at h
      refine ⟨r, rfl, ?_⟩
      split at h
      · rename_i j hj
        refine .inl ⟨j, by simpa using hj, ?_⟩
        rw [List.getD_eq_getElem?_getD] at h
        cases hn : news[j]? with
        | none => rw [hn] at h; exact .inr ⟨rfl, h.symm⟩
        | some y => rw [hn] at h; exact .inl (by rw [← h]; rfl)
      · rename_i hj
        exact .inr ⟨by simpa using hj, h.symm⟩
    | succ i =>
      simp only [setBoxes, List.getElem?_cons_succ] at h
      obtain ⟨row0, h1, h2⟩ := hg h
      refine ⟨row0, by simpa using h1, ?_⟩
      rw [show n + (i + 1) = n + 1 + i from by omega]
      exact h2
theorem lentOk_get : ∀ {rs : List Row}, lentOk rs = true → ∀ {i : Nat} {row : Row}, rs[i]? = some row → (row.md = .own ∧ row.s.deep = true) ∨ row.md = .rop ∨ row.md = .dead
  | [], _, i, row, h => by simp at h
  | r :: rs, hk, i, row, h => by
    unfold lentOk at hk
    split at hk
    · rename_i hmd
      rw [Bool.and_eq_true] at hk
      cases i with
      | zero => simp at h; subst h; exact .inl ⟨hmd, hk.1⟩
      | succ i => exact lentOk_get hk.2 (i := i) (by simpa using h)
    · rename_i hmd
      cases i with
      | zero => simp at h; subst h; exact .inr (.inl hmd)
      | succ i => exact lentOk_get hk (i := i) (by simpa using h)
    · rename_i hmd
      cases i with
      | zero => simp at h; subst h; exact .inr (.inr hmd)
      | succ i => exact lentOk_get hk (i := i) (by simpa using h)
    · cases hk
theorem allOwn_get : ∀ {rs : List Row}, allOwn rs = true → ∀ {i : Nat} {row : Row}, rs[i]? = some row → row.md = .own ∧ row.s.deep = true
  | [], _, i, row, h => by simp at h
  | r :: rs, hk, i, row, h => by
    unfold allOwn at hk
    split at hk
    · rename_i hmd
      rw [Bool.and_eq_true] at hk
      cases i with
      | zero => simp at h; subst h; exact ⟨hmd, hk.1⟩
      | succ i => exact allOwn_get hk.2 (i := i) (by simpa using h)
    · cases hk
theorem idx_none {us : List Nat} {x : Nat} (h : us.idxOf? x = none) : us.contains x = false := by
  rw [← Bool.not_eq_true, List.contains_iff_mem]
  intro hm
  rw [List.idxOf?, List.findIdx?_eq_none_iff] at h
  have := h x hm
  simp at this
theorem overB_box {st : St} {B R : List Nat} : ∀ {bs : List Nat} {n : Nat} {ys : List (TypeId × List AL)} {rs : List Row}, st.overB B R n bs = some (ys, rs) → ∀ {i b : Nat}, bs[i]? = some b → ∃ bc, st.boxes[b]? = some bc
  | [], n, ys, rs, _, i, b, hi => by simp at hi
  | c :: bs, n, ys, rs, h, i, b, hi => by
    simp only [St.overB] at h
    split at h
    · cases h
    · rename_i bc hbc
      split at h
      · cases h
      · split at h
        · cases h
        · rename_i h2
          cases i with
          | zero => simp at hi; subst hi; exact ⟨bc, hbc⟩
          | succ i => simp at hi; exact overB_box h2 hi
theorem backR_cases {R : List Nat} {L i r : Nat} (h : backR R L i = some r) : (i < R.length ∧ R[i]? = some r) ∨ (R.length ≤ i ∧ r = L + (i - R.length)) := by
  unfold backR at h
  by_cases hi : i < R.length
  · rw [if_pos hi] at h
    exact .inl ⟨hi, h⟩
  · rw [if_neg hi] at h
    injection h with h
    exact .inr ⟨by omega, h.symm⟩
theorem backR_old {R : List Nat} {L i r : Nat} (hi : i < R.length) (h : R[i]? = some r) : backR R L i = some r := by unfold backR; rw [if_pos hi]; exact h
theorem backR_new {R : List Nat} {L i : Nat} : backR R L (R.length + i) = some (L + i) := by unfold backR; rw [if_neg (by omega)]; congr 1; omega
def backTag (g : Gh) (w : World) (m : Mini) (L : Nat) (g1 : Gh) : Lab := fun k => if lentB g m k = true ∨ w.heap.size ≤ k then (g1.tag k).bind fun x => (backR m.R L x.1).map fun r => (r, x.2) else g.tag k
theorem backTag_new {g : Gh} {w : World} {m : Mini} {L : Nat} {g1 : Gh} {k i r : Nat} {p : List Nat} (h : Lent g m.B m.R k ∨ w.heap.size ≤ k) (hk : g1.tag k = some (i, p)) (hi : backR m.R L i = some r) : backTag g w m L g1 k = some (r, p) := by
  unfold backTag
  rw [if_pos (h.imp lentB_iff.2 id), hk]
  simp only [Option.bind_some, hi, Option.map_some]
theorem backTag_none {g : Gh} {w : World} {m : Mini} {L : Nat} {g1 : Gh} {k : Nat} (h : Lent g m.B m.R k ∨ w.heap.size ≤ k) (hk : g1.tag k = none) : backTag g w m L g1 k = none := by
  unfold backTag
  rw [if_pos (h.imp lentB_iff.2 id), hk]
  rfl
theorem backTag_old {g : Gh} {w : World} {m : Mini} {L : Nat} {g1 : Gh} {k : Nat} (h : ¬ Lent g m.B m.R k) (hk : k < w.heap.size) : backTag g w m L g1 k = g.tag k := by
  unfold backTag
  rw [if_neg]
  rintro (h1 | h1)
  · exact h (lentB_iff.1 h1)
  · omega
def Gh.backOf (g : Gh) (w : World) (m : Mini) (L : Nat) (g1 : Gh) : Gh := ⟨g.bx, g.rw ++ g1.rw.drop m.R.length, backTag g w m L g1, g.wz, g.lent, g.w0, g.rz⟩
section
variable {st : St} {g : Gh} {w w' : World} (hm : Mem st.boxes st.rows g w)
include hm
set_option maxHeartbeats 1000000 in
theorem back_rel3 {muts : List Nat} {avs : List AV} {m : Mini} {hs : List Value} {res : Res} {st' : St} {rets : List A1} {g1 : Gh} {vs : List Value} (h : st.mini muts avs = some m) (hfull : Full (g.over w m hs) w) (hlen : m.boxes.length = m.B.length) (hown : ownN m.rows = m.R.length)
    (hext : (g.over w m hs).ext (m.boxes.length, ownN m.rows) g1) (hm1 : Mem res.boxes res.rows g1 w') (hF1 : F2 (A1.R g1) res.rets vs) (hb : st.backAt m res = some (st', rets)) :
    ∃ g', g' = g.backOf w m st.rows.length g1 ∧ g.le g' ∧ st'.tmps = st.tmps ∧ Mem st'.boxes st'.rows g' w' ∧ F2 (A1.R g') rets vs ∧ (∀ k, k < w.heap.size → ¬ Lent g m.B m.R k → w'.heap[k]? = w.heap[k]? ∧ g'.tag k = g.tag k) ∧ ∀ {k : Nat} {x : Nat × List Nat}, g1.tag k = some x → Lent g m.B m.R k ∨ w.heap.size ≤ k := by
  obtain ⟨hB, hR, lr, r1, r2, hlr, _, _, _⟩ := mini_some h
  obtain ⟨hll, hlg⟩ := lentRows_get hlr
  rw [hlen, hown] at hext
  unfold St.backAt at hb
  split at hb
  · rename_i hc
    obtain ⟨hc1, hc2, hc3, hc4⟩ := hc
    injection hb with hb
    injection hb with hb1 hb2
    subst hb1
    subst hb2
    have hstab := hm1.st
    have hw0 : g1.w0 = w := hext.w0
    -- what is not lent stays
    have stay : ∀ k, k < w.heap.size → ¬ Lent g m.B m.R k → w'.heap[k]? = w.heap[k]? ∧ g1.fz k = w.heap[k]? := by
      intro k hk hl
      have hf : (g.over w m hs).fz k = w.heap[k]? := by
        rw [over_fz, if_neg (fun e => hl (lentB_iff.1 e))]
      rw [Array.getElem?_eq_getElem hk] at hf ⊢
      have h1 := hext.fz hf
      exact ⟨hstab.fz h1, h1⟩
    have old_tag : ∀ {k : Nat} {x : Nat × List Nat}, g1.tag k = some x → Lent g m.B m.R k ∨ w.heap.size ≤ k := by
      intro k x hx
      by_cases hl : Lent g m.B m.R k
      · exact .inl hl
      · refine .inr (Nat.le_of_not_lt fun hk => ?_)
        have h1 := (stay k hk hl).2
        rw [hm1.dom hx, Array.getElem?_eq_getElem hk] at h1
        cases h1
    obtain ⟨L, hLe⟩ : ∃ L, L = st.rows.length := ⟨_, rfl⟩
    rw [← hLe]
    have hL : L = g.rw.length := hLe.trans hm.rl
    obtain ⟨g', hg'⟩ : ∃ g', g' = g.backOf w m L g1 := ⟨_, rfl⟩
    have gbx : g'.bx = g.bx := by rw [hg']; rfl
    have grw : g'.rw = g.rw ++ g1.rw.drop m.R.length := by rw [hg']; rfl
    have gtag : g'.tag = backTag g w m L g1 := by rw [hg']; rfl
    have gfz : g'.fz = g.fz := by rw [hg']; rfl
    have gw0 : g'.w0 = g.w0 := by rw [hg']; rfl
    have gwz : g'.wz = g.wz := by rw [hg']; rfl
    have grz : g'.rz = g.rz := by rw [hg']; rfl
    have hle : g.le g' := ⟨fun h => by rw [gbx]; exact h, fun {i x} hx => by rw [grw, List.getElem?_append_left (List.getElem?_eq_some_iff.1 hx).1]; exact hx, gw0, fun h => by rw [gfz]; exact h, fun h => by rw [grz]; exact h, fun h => .inl (by rw [grz] at h; exact h)⟩
    have bx1 : ∀ {i b : Nat}, m.B[i]? = some b → ∀ {x : Nat}, g1.bx[i]? = some x → g'.bx[b]? = some x := by
      intro i b hi x hx
      have hil : i < m.B.length := (List.getElem?_eq_some_iff.1 hi).1
      obtain ⟨y, hy⟩ : ∃ y, g.bx[b]? = some y := by
        obtain ⟨_, _, _, _, _, _, _, h2, _⟩ := mini_some h
        obtain ⟨bc, hbc⟩ := overB_box h2 hi
        exact ⟨_, List.getElem?_eq_getElem (by rw [← hm.bl]; exact (List.getElem?_eq_some_iff.1 hbc).1)⟩
      have h1 : (g.over w m hs).bx[i]? = some y := by
        show (m.B.map fun b => g.bx.getD b 0)[i]? = some y
        simp [hi, hy]
      have h2 := hext.bx hil h1
      rw [hx] at h2
      rw [gbx, hy, ← Option.some.inj h2]
    have rw1 : ∀ {i r : Nat}, m.R[i]? = some r → ∀ {x : Value}, g1.rw[i]? = some x → g.rw[r]? = some x := by
      intro i r hi x hx
      have hil : i < m.R.length := (List.getElem?_eq_some_iff.1 hi).1
      obtain ⟨row, _, hrow, _, _⟩ := hlg hi
      have hlt : r < g.rw.length := by rw [← hm.rl]; exact (List.getElem?_eq_some_iff.1 hrow).1
      have h1 : (g.over w m hs).rw[i]? = some g.rw[r] := by
        show ((m.R.map fun r => g.rw.getD r undef) ++ hs)[i]? = _
        rw [List.getElem?_append_left (by rw [List.length_map]; exact hil)]
        simp [hi, hlt]
      have h2 := hext.rw hil h1
      rw [hx] at h2
      rw [List.getElem?_eq_getElem hlt, ← h2]
    have hren : Ren g1 g' (fun i => m.B[i]?) (backR m.R L) := by
      refine ⟨fun {i b x} h1 h2 => bx1 h1 h2, fun {r i v} h1 h2 => ?_⟩
      rcases backR_cases h1 with ⟨_, h1⟩ | ⟨hge, rfl⟩
      · exact hle.rw (rw1 h1 h2)
      · rw [grw, List.getElem?_append_right (by omega), List.getElem?_drop, show m.R.length + (L + (i - m.R.length) - g.rw.length) = i from by omega]
        exact h2
    -- rows that come back
    have rowback : ∀ {i r : Nat} {row : Row} {v : Value}, backR m.R L i = some r → res.rows[i]? = some row → g1.rw[i]? = some v → ((row.md = .own ∧ row.s.deep = true) ∨ row.md = .dead) → RowRel g' w' r row v := by
      intro i r row v hi hrow hv hmd
      have h1 := hm1.row hrow hv
      unfold RowRel at h1 ⊢
      rcases hmd with ⟨hmd, hdp⟩ | hmd
      · rw [hmd] at h1 ⊢
        exact (Own.move h1 (fun k p _ _ hk => ⟨rfl, by rw [gtag]; exact backTag_new (old_tag hk) hk hi⟩) (Nat.le_refl _) (fun _ _ h => h)).deep hdp
      · rw [hmd] at h1 ⊢
        exact h1
    -- rows that stay
    have oldrow : ∀ {r : Nat} {row : Row} {v : Value}, (killed m.R 0 st.rows)[r]? = some row → g.rw[r]? = some v → RowRel g' w' r row v := by
      intro r row v h0 hv'
      obtain ⟨row1, h3, h4⟩ := killed_get _ 0 st.rows h0
      rw [Nat.zero_add] at h4
      rcases h4 with h4 | ⟨hc, rfl⟩
      · unfold RowRel
        rw [h4]
        exact (hm.row h3 hv').slice
      · refine (hm.row h3 hv').move gw0 hle.rw (fun h => by rw [grz]; exact h) fun k p hro hk hl => ?_
        have hnl : ¬ Lent g m.B m.R k := by
          rintro (⟨r', p', h5, h6⟩ | ⟨b', _, h6⟩)
          · rw [hl] at h5
            injection h5 with h5
            injection h5 with h5
            rw [← h5, hc hro] at h6
            cases h6
          · rw [(hm.free h6).1] at hl
            cases hl
        exact ⟨by rw [gtag, backTag_old hnl hk]; exact hl, (stay k hk hnl).1⟩
    refine ⟨g', hg', hle, rfl, ⟨?_, fun {b t cs blk} hbb hx => ?_, fun {b blk} hx => ?_, fun {b b' blk} h1 h2 => by rw [gbx] at h1 h2; exact hm.inj h1 h2, ?_, fun {r row v} hr hv => ?_, ⟨?_, ?_, ?_, ?_, ?_, fun {k o} hk => ?_, fun {k c e f} hk => by rw [gfz]; rw [grz] at hk; exact hm.st.rd hk⟩, fun {k x} hk => ?_⟩, F2.map_ (f := A1.map _ _) (fun _ _ => A1.map_rel hren) hF1, fun k hk hnl => ⟨(stay k hk hnl).1, by rw [gtag]; exact backTag_old hnl hk⟩, fun {k x} hk => old_tag hk⟩
    · rw [gbx, setBoxes_get.1]
      exact hm.bl
    · obtain ⟨row0, h0, h1⟩ := setBoxes_get.2 hbb
      rw [Nat.zero_add] at h1
      have hx' : g.bx[b]? = some blk := by rw [← gbx]; exact hx
      rcases h1 with ⟨j, hj, h1⟩ | ⟨hj, rfl⟩
      · have hjb := idx_get hj
        have hjl : j < res.boxes.length := by rw [hc1]; exact (List.getElem?_eq_some_iff.1 hjb).1
        rcases h1 with h1 | ⟨h1, _⟩
        · rw [List.getElem?_map, List.getElem?_eq_getElem hjl] at h1
          simp only [Option.map_some, Option.some.injEq, Prod.mk.injEq] at h1
          obtain ⟨rfl, rfl⟩ := h1
          have hjl1 : j < g1.bx.length := by rw [← hm1.bl]; exact hjl
          obtain ⟨vs', hh, hF'⟩ := hm1.box (t := res.boxes[j].1) (cs := res.boxes[j].2) (List.getElem?_eq_getElem hjl) (List.getElem?_eq_getElem hjl1)
          have := bx1 hjb (List.getElem?_eq_getElem hjl1)
          rw [hx] at this
          injection this with this
          rw [← this] at hh
          exact ⟨vs', hh, F2.map_ (f := AL.map _ _) (fun _ _ => AL.map_rel hren) hF'⟩
        · rw [List.getElem?_map, List.getElem?_eq_getElem hjl] at h1
          cases h1
      · obtain ⟨vs', hh, hF'⟩ := hm.box h0 hx'
        refine ⟨vs', ?_, hF'.imp fun _ _ => AL.R_le hle⟩
        rw [(stay blk (hm.bx_lt hx') ?_).1]
        · exact hh
        · rintro (⟨r, p, h3, _⟩ | ⟨b', hb', h4⟩)
          · rw [(hm.free hx').1] at h3
            cases h3
          · have := hm.inj hx' h4
            subst this
            have := idx_none hj
            rw [← Bool.not_eq_true, List.contains_iff_mem] at this
            exact this hb'
    · have hx' : g.bx[b]? = some blk := by rw [← gbx]; exact hx
      refine ⟨?_, by rw [gfz]; exact (hm.free hx').2⟩
      rw [gtag]
      by_cases hl : Lent g m.B m.R blk
      · refine backTag_none (.inl hl) ?_
        rcases hl with ⟨r, p, h3, _⟩ | ⟨b', hb', h4⟩
        · rw [(hm.free hx').1] at h3
          cases h3
        · obtain ⟨i, hi⟩ := List.getElem?_of_mem hb'
          have hil : i < m.B.length := (List.getElem?_eq_some_iff.1 hi).1
          have h5 : (g.over w m hs).bx[i]? = some blk := by
            show (m.B.map fun b => g.bx.getD b 0)[i]? = some blk
            simp [hi, h4]
          exact (hm1.free (hext.bx hil h5)).1
      · rw [backTag_old hl (hm.bx_lt hx')]
        exact (hm.free hx').1
    · rw [grw, List.length_append, setRows_get.1, killed_length, List.length_append, List.length_drop, List.length_drop, hm1.rl, hm.rl]
    · have hLl : (setRows m.R (res.rows.take m.R.length) 0 (killed m.R 0 st.rows)).length = L := by rw [setRows_get.1, killed_length, hLe]
      rcases Nat.lt_or_ge r L with hlt | hge
      · rw [List.getElem?_append_left (by omega)] at hr
        have hv' : g.rw[r]? = some v := by
          have hv2 := hv
          rw [grw] at hv2
          rwa [List.getElem?_append_left (by omega)] at hv2
        obtain ⟨row0, h0, h1⟩ := setRows_get.2 hr
        rw [Nat.zero_add] at h1
        rcases h1 with ⟨j, hj, h1⟩ | ⟨hj, rfl⟩
        · have hjr := idx_get hj
          have hjl : j < m.R.length := (List.getElem?_eq_some_iff.1 hjr).1
          have hjl2 : j < res.rows.length := by omega
          have hjl3 : j < g1.rw.length := by rw [← hm1.rl]; exact hjl2
          rcases h1 with ⟨h1, hnr⟩ | rfl
          · have hmd : (row.md = .own ∧ row.s.deep = true) ∨ row.md = .dead := by
              rcases lentOk_get hc3 h1 with h | h | h
              · exact .inl h
              · exact absurd h hnr
              · exact .inr h
            rw [List.getElem?_take_of_lt hjl] at h1
            have := rw1 hjr (List.getElem?_eq_getElem hjl3)
            rw [hv'] at this
            injection this with this
            exact rowback (backR_old hjl hjr) h1 (by rw [List.getElem?_eq_getElem hjl3, this]) hmd
          · exact oldrow h0 hv'
        · exact oldrow h0 hv'
      · rw [List.getElem?_append_right (by omega), hLl] at hr
        have hv' : (g1.rw.drop m.R.length)[r - L]? = some v := by
          have hv2 := hv
          rw [grw] at hv2
          rw [List.getElem?_append_right (by omega)] at hv2
          rw [hL]
          exact hv2
        have hmd := allOwn_get hc4 hr
        rw [List.getElem?_drop] at hr hv'
        have e1 : L + (r - L) = r := Nat.add_sub_cancel' hge
        have e2 : backR m.R L (m.R.length + (r - L)) = some r := backR_new.trans (congrArg some e1)
        exact rowback e2 hr hv' (.inl hmd)
    · intro x hx
      obtain ⟨cs, t, f, h0, h1⟩ := hm.st.tab x hx
      exact ⟨cs, t, f, h0, by rw [gfz]; exact h1⟩
    · rw [hstab.os, hw0, gw0]; exact hm.st.os
    · rw [hstab.tape, hw0, gw0]; exact hm.st.tape
    · rw [hstab.output, hw0, gw0]; exact hm.st.output
    · have := hstab.size; rw [hw0] at this; rw [gw0]; exact Nat.le_trans hm.st.size this
    · have hk' : g.fz k = some o := by rw [← gfz]; exact hk
      rw [(stay k (hm.fz_lt hk') ?_).1]
      · exact hm.st.fz hk'
      · rintro (⟨r, p, h3, _⟩ | ⟨b', _, h4⟩)
        · rw [hm.dom h3] at hk'
          cases hk'
        · rw [(hm.free h4).2] at hk'
          cases hk'
    · rw [gtag] at hk
      rw [gfz]
      by_cases hl : Lent g m.B m.R k
      · rcases hl with ⟨r, p, h3, _⟩ | ⟨b', _, h4⟩
        · exact hm.dom h3
        · exact (hm.free h4).2
      · by_cases hlt : k < w.heap.size
        · rw [backTag_old hl hlt] at hk
          exact hm.dom hk
        · exact hm.fz_new (by omega)
  · cases hb
theorem back_rel2 {muts : List Nat} {avs : List AV} {m : Mini} {hs : List Value} {res : Res} {e : Ending} {st' : St} {rets : List A1} (h : st.mini muts avs = some m) (hfull : Full (g.over w m hs) w) (hlen : m.boxes.length = m.B.length) (hown : ownN m.rows = m.R.length)
    (he : Ends (m.boxes.length, ownN m.rows) res (g.over w m hs) e w') (hb : st.backAt m res = some (st', rets)) :
    ∃ g' vs, e = .returned (retV vs) ∧ g.le g' ∧ st'.tmps = st.tmps ∧ Mem st'.boxes st'.rows g' w' ∧ F2 (A1.R g') rets vs ∧ ∀ k, k < w.heap.size → ¬ Lent g m.B m.R k → w'.heap[k]? = w.heap[k]? ∧ g'.tag k = g.tag k := by
  obtain ⟨g1, vs, rfl, hext, hm1, hF1⟩ := he
  obtain ⟨g', _, h2, h3, h4, h5, h6, _⟩ := back_rel3 hm h hfull hlen hown hext hm1 hF1 hb
  exact ⟨g', vs, rfl, h2, h3, h4, h5, h6⟩
theorem back_rel {muts : List Nat} {avs : List AV} {m : Mini} {hs : List Value} {res : Res} {e : Ending} {st' : St} {rets : List A1} (h : st.mini muts avs = some m) (hfull : Full (g.over w m hs) w) (hlen : m.boxes.length = m.B.length) (hown : ownN m.rows = m.R.length)
    (he : Ends (m.boxes.length, ownN m.rows) res (g.over w m hs) e w') (hb : st.backAt m res = some (st', rets)) :
    ∃ g' vs, e = .returned (retV vs) ∧ g.le g' ∧ st'.tmps = st.tmps ∧ Mem st'.boxes st'.rows g' w' ∧ F2 (A1.R g') rets vs := by
  obtain ⟨g', vs, h1, h2, h3, h4, h5, _⟩ := back_rel2 hm h hfull hlen hown he hb
  exact ⟨g', vs, h1, h2, h3, h4, h5⟩
end
end Go.Proofs.YtmbcnpbgcfiafaaGreat.Vm
