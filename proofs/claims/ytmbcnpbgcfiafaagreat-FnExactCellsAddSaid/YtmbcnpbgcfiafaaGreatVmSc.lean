/- A walk by reckoning: a call that shares. What goes over is read only for good, and so is what comes back. -/
import Derived.Test.YtmbcnpbgcfiafaaGreatVmFz
namespace Go.Proofs.YtmbcnpbgcfiafaaGreat.Vm
open Go Go.RowKit Go.Proofs.YtmbcnpbgcfiafaaGreatW.PrintWords
set_option linter.unusedVariables false
set_option linter.unusedSimpArgs false

def St.asSh (st : St) : AL → Option Row
  | .sl r =>
    match st.rows[r]? with
    | none => none
    | some row => if row.md.isRo = true then some ⟨row.e, row.s.norm, row.s.nrm row.xs, .ro⟩ else none
  | .vw r sz lo hi =>
    match st.rows[r]? with
    | none => none
    | some row => if row.md.isRo = true then if row.s.sz = sz then some ⟨row.e, row.s.norm, row.s.nrm ((row.xs.take hi.toNat).drop lo.toNat), .ro⟩ else none else none
  | _ => none
def St.overS (st : St) (n : Nat) : AL → Option (AL × List Row)
  | .unk => some (.unk, [])
  | .val v => some (.val v, [])
  | .fn f [] => some (.fn f [], [])
  | .sl r => (st.asSh (.sl r)).map fun row => (.sl n, [row])
  | .vw r sz lo hi => (st.asSh (.vw r sz lo hi)).map fun row => (.sl n, [row])
  | _ => none
def St.overSL (st : St) (n : Nat) : List AL → Option (List AL × List Row)
  | [] => some ([], [])
  | x :: xs =>
    match st.overS n x with
    | none => none
    | some (y, rs) =>
      match st.overSL (n + rs.length) xs with
      | none => none
      | some (ys, qs) => some (y :: ys, rs ++ qs)
def St.overSV (st : St) (n : Nat) : List AV → Option (List AV × List Row)
  | [] => some ([], [])
  | .s1 (.one x) :: xs =>
    match st.overS n x with
    | none => none
    | some (y, rs) =>
      match st.overSV (n + rs.length) xs with
      | none => none
      | some (ys, qs) => some (.s1 (.one y) :: ys, rs ++ qs)
  | .s1 (.agg x) :: xs =>
    match st.overSL n x with
    | none => none
    | some (y, rs) =>
      match st.overSV (n + rs.length) xs with
      | none => none
      | some (ys, qs) => some (.s1 (.agg y) :: ys, rs ++ qs)
  | .tup _ :: _ => none
section
variable {st : St} {g : Gh} {w : World} (hm : Mem st.boxes st.rows g w)
include hm
theorem row_rz {r : Nat} {row : Row} {v : Value} (hrow : st.rows[r]? = some row) (hv : g.rw[r]? = some v) (hq : row.md.isRo = true) :
    ∃ A c, v = .slice A row.xs.length c ∧ row.xs.length ≤ c ∧ row.s.kd.C g.rz A row.xs.length row.xs := by
  have h := hm.row hrow hv
  unfold RowRel at h
  split at h
  · exact h
  · exact h
  · rename_i e; rw [e] at hq; cases hq
  · rename_i e; rw [e] at hq; cases hq
  · rename_i e; rw [e] at hq; cases hq
  · exact h.1
  · rename_i e; rw [e] at hq; cases hq
theorem asSh_rel {x : AL} {v : Value} {row : Row} (hx : x.R g v) (h : st.asSh x = some row) : RoAs g.rz row v := by
  unfold St.asSh at h
  split at h
  · rename_i r
    split at h
    · cases h
    · rename_i row0 hrow
      split at h
      · rename_i hcr
        injection h with he
        subst he
        obtain ⟨A, c, h1, h2, h3⟩ := row_rz hm hrow hx hcr
        refine ⟨rfl, A, c, ?_, ?_, ?_⟩
        · show v = .slice A (row0.s.nrm row0.xs).length c
          rw [Sh.nrm_len]; exact h1
        · show (row0.s.nrm row0.xs).length ≤ c
          rw [Sh.nrm_len]; exact h2
        · show row0.s.norm.kd.C g.rz A (row0.s.nrm row0.xs).length (row0.s.nrm row0.xs)
          rw [Sh.nrm_len]; exact row0.s.norm_C h3
      · cases h
  · rename_i r sz lo hi
    split at h
    · cases h
    · rename_i row0 hrow
      obtain ⟨A, n, c, A', hv, h0, h1, h2, h3, h4, h5, rfl⟩ := hx
      split at h
      · rename_i hcr
        split at h
        · rename_i hsz
          injection h with he
          subst he
          subst hsz
          obtain ⟨B', d, he, h6, h7⟩ := row_rz hm hrow hv hcr
          injection he with he1 he2 he3
          subst he1; subst he2; subst he3
          obtain ⟨h8, h9⟩ := vw_reads (n := c) h7 h6 (lo := lo.toNat) (hi := hi.toNat) (by omega) (by omega) h4
          refine ⟨rfl, A', c - lo.toNat, ?_, ?_, ?_⟩
          · show _ = Value.slice A' (row0.s.nrm ((row0.xs.take hi.toNat).drop lo.toNat)).length (c - lo.toNat)
            rw [Sh.nrm_len, ← h8]
          · show (row0.s.nrm ((row0.xs.take hi.toNat).drop lo.toNat)).length ≤ _
            rw [Sh.nrm_len, ← h8]; omega
          · show row0.s.norm.kd.C g.rz A' (row0.s.nrm ((row0.xs.take hi.toNat).drop lo.toNat)).length (row0.s.nrm ((row0.xs.take hi.toNat).drop lo.toNat))
            rw [Sh.nrm_len]; exact row0.s.norm_C h9
        · cases h
      · cases h
  · cases h
theorem overS_rel {n : Nat} {x y : AL} {v : Value} {rs : List Row} (hx : x.R g v) (h : st.overS n x = some (y, rs)) :
    ∃ hs : List Value, hs.length = rs.length ∧ F2 (RoAs g.rz) rs hs ∧ ∀ G : Gh, Fits g G [] [] n hs → y.R G v := by
  unfold St.overS at h
  split at h
  · simp only [Option.some.injEq, Prod.mk.injEq] at h
    obtain ⟨rfl, rfl⟩ := h
    exact ⟨[], rfl, trivial, fun _ _ => trivial⟩
  · simp only [Option.some.injEq, Prod.mk.injEq] at h
    obtain ⟨rfl, rfl⟩ := h
    exact ⟨[], rfl, trivial, fun _ _ => hx⟩
  · simp only [Option.some.injEq, Prod.mk.injEq] at h
    obtain ⟨rfl, rfl⟩ := h
    obtain ⟨us, hv, hF⟩ := hx
    refine ⟨[], rfl, trivial, fun G _ => ⟨us, hv, ?_⟩⟩
    cases hu : us.toList with
    | nil => trivial
    | cons u us' => rw [hu] at hF; exact hF.elim
  · obtain ⟨row, hrow, he⟩ := Option.map_eq_some_iff.1 h
    injection he with h1 h2
    subst h1; subst h2
    exact ⟨[v], rfl, ⟨asSh_rel hm hx hrow, trivial⟩, fun G hG => by have := hG.ro (j := 0) (v := v) rfl; exact this⟩
  · obtain ⟨row, hrow, he⟩ := Option.map_eq_some_iff.1 h
    injection he with h1 h2
    subst h1; subst h2
    exact ⟨[v], rfl, ⟨asSh_rel hm hx hrow, trivial⟩, fun G hG => by have := hG.ro (j := 0) (v := v) rfl; exact this⟩
  · cases h
theorem overSL_rel : ∀ {xs ys : List AL} {vs : List Value} {n : Nat} {rs : List Row}, F2 (AL.R g) xs vs → st.overSL n xs = some (ys, rs) →
    ∃ hs : List Value, hs.length = rs.length ∧ F2 (RoAs g.rz) rs hs ∧ ∀ G : Gh, Fits g G [] [] n hs → F2 (AL.R G) ys vs
  | [], ys, [], n, rs, _, h => by
    simp only [St.overSL, Option.some.injEq, Prod.mk.injEq] at h
    obtain ⟨rfl, rfl⟩ := h
    exact ⟨[], rfl, trivial, fun _ _ => trivial⟩
  | x :: xs, ys, v :: vs, n, rs, hF, h => by
    simp only [St.overSL] at h
    split at h
    · cases h
    · rename_i y r1 h1
      split at h
      · cases h
      · rename_i ys1 r2 h2
        injection h with h
        injection h with e1 e2
        subst e1; subst e2
        obtain ⟨hs1, hl1, hF1, hG1⟩ := overS_rel hm hF.1 h1
        obtain ⟨hs2, hl2, hF2, hG2⟩ := overSL_rel hF.2 h2
        exact ⟨hs1 ++ hs2, by simp [hl1, hl2], hF1.append hF2, fun G hG => ⟨hG1 G hG.left, hG2 G (hG.right hl1)⟩⟩
theorem overSV_rel : ∀ {xs ys : List AV} {vs : List Value} {n : Nat} {rs : List Row}, F2 (AV.R g) xs vs → st.overSV n xs = some (ys, rs) →
    ∃ hs : List Value, hs.length = rs.length ∧ F2 (RoAs g.rz) rs hs ∧ ∀ G : Gh, Fits g G [] [] n hs → F2 (AV.R G) ys vs
  | [], ys, [], n, rs, _, h => by
    simp only [St.overSV, Option.some.injEq, Prod.mk.injEq] at h
    obtain ⟨rfl, rfl⟩ := h
    exact ⟨[], rfl, trivial, fun _ _ => trivial⟩
  | .s1 (.one x) :: xs, ys, v :: vs, n, rs, hF, h => by
    simp only [St.overSV] at h
    split at h
    · cases h
    · rename_i y r1 h1
      split at h
      · cases h
      · rename_i ys1 r2 h2
        injection h with h
        injection h with e1 e2
        subst e1; subst e2
        obtain ⟨hs1, hl1, hF1, hG1⟩ := overS_rel hm hF.1 h1
        obtain ⟨hs2, hl2, hF2, hG2⟩ := overSV_rel hF.2 h2
        exact ⟨hs1 ++ hs2, by simp [hl1, hl2], hF1.append hF2, fun G hG => ⟨hG1 G hG.left, hG2 G (hG.right hl1)⟩⟩
  | .s1 (.agg x) :: xs, ys, v :: vs, n, rs, hF, h => by
    simp only [St.overSV] at h
    split at h
    · cases h
    · rename_i y r1 h1
      split at h
      · cases h
      · rename_i ys1 r2 h2
        injection h with h
        injection h with e1 e2
        subst e1; subst e2
        obtain ⟨cs, rfl, hc⟩ := hF.1
        obtain ⟨hs1, hl1, hF1, hG1⟩ := overSL_rel hm hc h1
        obtain ⟨hs2, hl2, hF2, hG2⟩ := overSV_rel hF.2 h2
        exact ⟨hs1 ++ hs2, by simp [hl1, hl2], hF1.append hF2, fun G hG => ⟨⟨cs, rfl, hG1 G hG.left⟩, hG2 G (hG.right hl1)⟩⟩
  | .tup _ :: _, ys, v :: vs, n, rs, hF, h => by simp [St.overSV] at h
end
def Gh.overS (g : Gh) (w : World) (hs : List Value) : Gh := ⟨[], hs, fun _ => none, w, fun _ => false, w, g.rz⟩
theorem overS_fz {g : Gh} {w : World} {hs : List Value} {k : Nat} : (g.overS w hs).fz k = w.heap[k]? := by
  have e1 : (g.overS w hs).wz = w := rfl
  have e2 : (g.overS w hs).lent = fun _ => false := rfl
  unfold Gh.fz
  rw [e1, e2]
  cases hw : w.heap[k]? with
  | none => rfl
  | some o => cases o <;> simp
theorem ownN_as {z : World} : ∀ {rs : List Row} {hs : List Value}, F2 (RoAs z) rs hs → ownN rs = 0
  | [], [], _ => rfl
  | r :: rs, v :: hs, h => by
    unfold ownN
    rw [h.1.1]
theorem overS_mem {bs : List (TypeId × List AL)} {rows rs : List Row} {g : Gh} {w : World} (hm : Mem bs rows g w) {hs : List Value} (hF : F2 (RoAs g.rz) rs hs) : Mem [] rs (g.overS w hs) w ∧ Full (g.overS w hs) w := by
  refine ⟨⟨rfl, fun hb _ => by simp at hb, fun hb => by simp [Gh.overS] at hb, fun hb _ => by simp [Gh.overS] at hb, hF.length, fun {r row v} h1 h2 => ?_,
    ⟨fun x hx => ?_, rfl, rfl, rfl, Nat.le_refl _, fun {k o} hk => by rw [overS_fz] at hk; exact hk, fun {k c e f} hk => ?_⟩, fun {k x} hk => by cases hk⟩, fun k hk _ _ => overS_fz⟩
  · obtain ⟨v', hv, hmd, hr⟩ := hF.get h1
    have h2' : hs[r]? = some v := h2
    rw [hv] at h2'
    injection h2' with h2'
    subst h2'
    unfold RowRel
    rw [hmd]
    exact hr
  · obtain ⟨cs, t, f, h0, h1⟩ := hm.st.tab x hx
    exact ⟨cs, t, f, h0, by rw [overS_fz]; exact hm.st.fz h1⟩
  · rw [overS_fz]
    exact hm.st.fz (hm.st.rd hk)
def allRo : List Row → Bool
  | [] => true
  | r :: rs =>
    match r.md with
    | .ro => allRo rs
    | .dead => allRo rs
    | _ => false
theorem allRo_get : ∀ {rs : List Row} {i : Nat} {row : Row}, allRo rs = true → rs[i]? = some row → row.md = .ro ∨ row.md = .dead
  | [], i, row, _, h => by simp at h
  | r :: rs, i, row, h, hi => by
    unfold allRo at h
    cases i with
    | zero =>
      simp at hi
      subst hi
      split at h
      · rename_i e; exact .inl e
      · rename_i e; exact .inr e
      · cases h
    | succ i =>
      simp at hi
      split at h
      · exact allRo_get h hi
      · exact allRo_get h hi
      · cases h
def St.backS (st : St) (res : Res) : Option (St × List A1) :=
  if allRo res.rows = true then some (⟨st.tmps, st.boxes ++ res.boxes.map fun b => (b.1, b.2.map (AL.map (fun i => some (st.boxes.length + i)) (fun i => some (st.rows.length + i)))), st.rows ++ res.rows⟩, res.rets.map (A1.map (fun i => some (st.boxes.length + i)) (fun i => some (st.rows.length + i)))) else none
theorem backS_ext {st : St} {res : Res} {y : St × List A1} (h : st.backS res = some y) : (∃ bs, y.1.boxes = st.boxes ++ bs) ∧ ∃ rs, y.1.rows = st.rows ++ rs := by
  unfold St.backS at h
  split at h
  · injection h with h
    subst h
    exact ⟨⟨_, rfl⟩, _, rfl⟩
  · cases h
def Gh.backS (g : Gh) (w w' : World) (g1 : Gh) : Gh :=
  ⟨g.bx ++ g1.bx, g.rw ++ g1.rw, fun k => if k < w.heap.size then g.tag k else none,
    { w' with heap := w'.heap.mapIdx fun k _ => if k < w.heap.size then (match g.fz k with | some o' => o' | none => .pending #[] 0) else (match g1.rz.heap[k]? with | some (.cells c e f) => .cells c e f | _ => .pending #[] 0) },
    fun k => if k < w.heap.size then (g.fz k).isNone else true, g.w0, g1.rz⟩
theorem backS_rel {st st' : St} {rets : List A1} {g g1 : Gh} {w w' : World} {hs : List Value} {N : Nat × Nat} {res : Res} {vs : List Value} (hm : Mem st.boxes st.rows g w) (hext : (g.overS w hs).ext N g1) (hm1 : Mem res.boxes res.rows g1 w') (hF1 : F2 (A1.R g1) res.rets vs)
    (hb : st.backS res = some (st', rets)) : ∃ g', g.le g' ∧ st'.tmps = st.tmps ∧ Mem st'.boxes st'.rows g' w' ∧ F2 (A1.R g') rets vs := by
  unfold St.backS at hb
  split at hb
  · rename_i hro
    · injection hb with hb
      injection hb with hb1 hb2
      subst hb1; subst hb2
      have hw0 : g1.w0 = w := hext.w0
      have hsz : w.heap.size ≤ w'.heap.size := by have := hm1.st.size; rwa [hw0] at this
      have stay : ∀ k, k < w.heap.size → w'.heap[k]? = w.heap[k]? := by
        intro k hk
        have h1 : (g.overS w hs).fz k = some w.heap[k] := by rw [overS_fz, Array.getElem?_eq_getElem hk]
        rw [hm1.st.fz (hext.fz h1), Array.getElem?_eq_getElem hk]
      have rzn : ∀ {k : Nat} {c : Array Value} {e : TypeId} {f : Nat × Nat}, g1.rz.heap[k]? = some (.cells c e f) → k < w.heap.size → g.rz.heap[k]? = some (.cells c e f) := by
        intro k c e f hk hlt
        rcases hext.rn hk with h1 | h1
        · exact h1
        · rw [overS_fz, Array.getElem?_eq_getElem hlt] at h1
          cases h1
      have hfz : ∀ k, (g.backS w w' g1).fz k = if k < w.heap.size then g.fz k else (match g1.rz.heap[k]? with | some (.cells c e f) => some (.cells c e f) | _ => none) := by
        intro k
        have e1 : (g.backS w w' g1).wz.heap = w'.heap.mapIdx fun k _ => if k < w.heap.size then (match g.fz k with | some o' => o' | none => .pending #[] 0) else (match g1.rz.heap[k]? with | some (.cells c e f) => .cells c e f | _ => .pending #[] 0) := rfl
        have e2 : (g.backS w w' g1).lent k = if k < w.heap.size then (g.fz k).isNone else true := rfl
        have e3 : (g.backS w w' g1).fz k = (match (g.backS w w' g1).wz.heap[k]? with
          | some (.cells c e f) => some (Obj.cells c e f)
          | some o => if (g.backS w w' g1).lent k = true then none else some o
          | none => none) := rfl
        rw [e3, e1, e2, Array.getElem?_mapIdx]
        by_cases hlt : k < w.heap.size
        · rw [Array.getElem?_eq_getElem (show k < w'.heap.size by omega)]
          simp only [Option.map_some, if_pos hlt]
          cases hf : g.fz k with
          | none => simp
          | some o => cases o <;> simp
        · simp only [if_neg hlt]
          cases hw : w'.heap[k]? with
          | none =>
            simp only [Option.map_none]
            split
            · rename_i c e f hz
              have := hm1.st.fz (hm1.st.rd hz)
              rw [hw] at this
              cases this
            · rfl
          | some o =>
            simp only [Option.map_some]
            cases hz : g1.rz.heap[k]? with
            | none => simp
            | some o2 => cases o2 <;> simp
      have hle : g.le (g.backS w w' g1) := by
        refine ⟨fun {i x} hx => ?_, fun {i x} hx => ?_, rfl, fun {k o} hk => ?_, fun {k c e f} hk => hext.rz hk, fun {k c e f} hk => ?_⟩
        · show (g.bx ++ g1.bx)[i]? = some x
          rw [List.getElem?_append_left (List.getElem?_eq_some_iff.1 hx).1]
          exact hx
        · show (g.rw ++ g1.rw)[i]? = some x
          rw [List.getElem?_append_left (List.getElem?_eq_some_iff.1 hx).1]
          exact hx
        · rw [hfz, if_pos (hm.fz_lt hk)]
          exact hk
        · rcases hext.rn hk with h1 | h1
          · exact .inl h1
          · rw [overS_fz] at h1
            refine .inr (hm.fz_new ?_)
            rcases Nat.lt_or_ge k w.heap.size with hlt | hge
            · rw [Array.getElem?_eq_getElem hlt] at h1
              cases h1
            · exact hge
      have hren : Ren g1 (g.backS w w' g1) (fun i => some (st.boxes.length + i)) (fun i => some (st.rows.length + i)) := by
        refine ⟨fun {i b x} h1 h2 => ?_, fun {i r v} h1 h2 => ?_⟩
        · injection h1 with h1
          subst h1
          show (g.bx ++ g1.bx)[st.boxes.length + b]? = some x
          rw [List.getElem?_append_right (by rw [hm.bl]; omega), hm.bl, show g.bx.length + b - g.bx.length = b from by omega]
          exact h2
        injection h1 with h1
        subst h1
        show (g.rw ++ g1.rw)[st.rows.length + r]? = some v
        rw [List.getElem?_append_right (by rw [hm.rl]; omega), hm.rl, show g.rw.length + r - g.rw.length = r from by omega]
        exact h2
      have hnew : ∀ {i blk : Nat}, g1.bx[i]? = some blk → w.heap.size ≤ blk ∧ blk < w'.heap.size ∧ g1.fz blk = none := by
        intro i blk hi
        refine ⟨Nat.le_of_not_lt fun hlt => ?_, hm1.bx_lt hi, (hm1.free hi).2⟩
        have h1 : (g.overS w hs).fz blk = some w.heap[blk] := by rw [overS_fz, Array.getElem?_eq_getElem hlt]
        have h2 := hext.fz h1
        rw [(hm1.free hi).2] at h2
        cases h2
      refine ⟨g.backS w w' g1, hle, rfl, ⟨?_, fun {b t cs blk} h1 h2 => ?_, fun {b blk} h1 => ?_, fun {b b' blk} h1 h2 => ?_, ?_, fun {r row v} h1 h2 => ?_, ⟨fun x hx => ?_, ?_, ?_, ?_, ?_, fun {k o} hk => ?_, fun {k c e f} hk => ?_⟩, fun {k x} hk => ?_⟩, F2.map_ (f := A1.map _ _) (fun _ _ => A1.map_rel hren) hF1⟩
      · show (st.boxes ++ res.boxes.map _).length = (g.bx ++ g1.bx).length
        rw [List.length_append, List.length_append, List.length_map, hm.bl, hm1.bl]
      · have h2 : (g.bx ++ g1.bx)[b]? = some blk := h2
        rcases Nat.lt_or_ge b st.boxes.length with hlt | hge
        · rw [List.getElem?_append_left hlt] at h1
          rw [List.getElem?_append_left (by rw [← hm.bl]; exact hlt)] at h2
          obtain ⟨vs', hh, hF⟩ := hm.box h1 h2
          exact ⟨vs', by rw [stay _ (hm.bx_lt h2)]; exact hh, hF.imp fun _ _ => AL.R_le hle⟩
        · rw [List.getElem?_append_right hge, List.getElem?_map] at h1
          rw [List.getElem?_append_right (by rw [← hm.bl]; exact hge), ← hm.bl] at h2
          obtain ⟨bc, hbc, he⟩ := Option.map_eq_some_iff.1 h1
          injection he with he1 he2
          subst he1; subst he2
          obtain ⟨vs', hh, hF⟩ := hm1.box (t := bc.1) (cs := bc.2) hbc h2
          exact ⟨vs', hh, F2.map_ (f := AL.map _ _) (fun _ _ => AL.map_rel hren) hF⟩
      · have h1 : (g.bx ++ g1.bx)[b]? = some blk := h1
        rcases Nat.lt_or_ge b g.bx.length with hlt | hge
        · rw [List.getElem?_append_left hlt] at h1
          have hlt := hm.bx_lt h1
          refine ⟨?_, by rw [hfz, if_pos hlt]; exact (hm.free h1).2⟩
          show (if blk < w.heap.size then g.tag blk else none) = none
          rw [if_pos hlt]
          exact (hm.free h1).1
        · rw [List.getElem?_append_right hge] at h1
          obtain ⟨h3, h4, h5⟩ := hnew h1
          refine ⟨?_, ?_⟩
          · show (if blk < w.heap.size then g.tag blk else none) = none
            rw [if_neg (by omega)]
          · rw [hfz, if_neg (by omega)]
            split
            · rename_i hz
              have := hm1.st.rd hz
              rw [h5] at this
              cases this
            · rfl
      · have h1 : (g.bx ++ g1.bx)[b]? = some blk := h1
        have h2 : (g.bx ++ g1.bx)[b']? = some blk := h2
        rcases Nat.lt_or_ge b g.bx.length with hlt | hge <;> rcases Nat.lt_or_ge b' g.bx.length with hlt' | hge'
        · rw [List.getElem?_append_left hlt] at h1
          rw [List.getElem?_append_left hlt'] at h2
          exact hm.inj h1 h2
        · rw [List.getElem?_append_left hlt] at h1
          rw [List.getElem?_append_right hge'] at h2
          have := hm.bx_lt h1
          have := (hnew h2).1
          omega
        · rw [List.getElem?_append_right hge] at h1
          rw [List.getElem?_append_left hlt'] at h2
          have := hm.bx_lt h2
          have := (hnew h1).1
          omega
        · rw [List.getElem?_append_right hge] at h1
          rw [List.getElem?_append_right hge'] at h2
          have := hm1.inj h1 h2
          omega
      · show (st.rows ++ res.rows).length = (g.rw ++ g1.rw).length
        rw [List.length_append, List.length_append, hm.rl, hm1.rl]
      · have h1 : (st.rows ++ res.rows)[r]? = some row := h1
        have h2 : (g.rw ++ g1.rw)[r]? = some v := h2
        rcases Nat.lt_or_ge r st.rows.length with hlt | hge
        · rw [List.getElem?_append_left hlt] at h1
          rw [List.getElem?_append_left (by rw [← hm.rl]; exact hlt)] at h2
          refine (hm.row h1 h2).move rfl (fun {i x} hx => hle.rw hx) (fun {k c e f} hk => hext.rz hk) fun k m _ hk hl => ⟨?_, stay k hk⟩
          show (if k < w.heap.size then g.tag k else none) = _
          rw [if_pos hk]
          exact hl
        · rw [List.getElem?_append_right hge] at h1
          rw [List.getElem?_append_right (by rw [← hm.rl]; exact hge), ← hm.rl] at h2
          have h3 := hm1.row h1 h2
          unfold RowRel at h3 ⊢
          rcases allRo_get hro h1 with e | e
          · rw [e] at h3 ⊢
            exact h3
          · rw [e] at h3 ⊢
            exact h3
      · obtain ⟨cs, t, f, h0, h1⟩ := hm.st.tab x hx
        exact ⟨cs, t, f, h0, hle.fz h1⟩
      · rw [hm1.st.os, hw0]; exact hm.st.os
      · rw [hm1.st.tape, hw0]; exact hm.st.tape
      · rw [hm1.st.output, hw0]; exact hm.st.output
      · exact Nat.le_trans hm.st.size hsz
      · rw [hfz] at hk
        split at hk
        · rename_i hlt
          rw [stay k hlt]
          exact hm.st.fz hk
        · split at hk
          · rename_i hz
            rw [← hk]
            exact hm1.st.fz (hm1.st.rd hz)
          · cases hk
      · rw [hfz]
        have hk : g1.rz.heap[k]? = some (.cells c e f) := hk
        split
        · rename_i hlt
          exact hm.st.rd (rzn hk hlt)
        · rw [hk]
      · have hk : (if k < w.heap.size then g.tag k else none) = some x := hk
        split at hk
        · rename_i hlt
          rw [hfz, if_pos hlt]
          exact hm.dom hk
        · cases hk
  · cases hb
end Go.Proofs.YtmbcnpbgcfiafaaGreat.Vm
