/- A walk by reckoning: rows of the call's own that are written no more are frozen: read only for good, and shared as one likes. -/
import Derived.Test.YtmbcnpbgcfiafaaGreatVmY
namespace Go.Proofs.YtmbcnpbgcfiafaaGreat.Vm
open Go Go.RowKit Go.Proofs.YtmbcnpbgcfiafaaGreatW.PrintWords
set_option linter.unusedVariables false
set_option linter.unusedSimpArgs false

def Row.toRo (row : Row) : Row := ⟨row.e, row.s.norm, row.s.nrm row.xs, .ro⟩
def Row.fzn (ids : List Nat) (i : Nat) (row : Row) : Row :=
  match row.md with
  | .own => if ids.contains i = true then row.toRo else row
  | .brw q => if ids.contains q = true then row.toRo else row
  | .sub q _ _ _ => if ids.contains q = true then row.toRo else row
  | _ => row
def frozen (ids : List Nat) : Nat → List Row → List Row
  | _, [] => []
  | n, r :: rs => r.fzn ids n :: frozen ids (n + 1) rs
def St.freeze (ids : List Nat) (st : St) : St := ⟨st.tmps, st.boxes, frozen ids 0 st.rows⟩
def St.rootIds (st : St) (rs : List Nat) : List Nat := rs.flatMap fun r =>
  match st.rows[r]? with
  | some row =>
    match row.md with
    | .own => [r]
    | .brw q => [q]
    | .sub q _ _ _ => [q]
    | _ => []
  | none => []
def St.ownIds (st : St) (xs : List AL) : List Nat := st.rootIds (xs.flatMap AL.rOf)
theorem frozen_get {ids : List Nat} : ∀ {rs : List Row} {n : Nat}, (frozen ids n rs).length = rs.length ∧ ∀ {i : Nat} {row : Row}, (frozen ids n rs)[i]? = some row → ∃ row0, rs[i]? = some row0 ∧ row = row0.fzn ids (n + i)
  | [], n => ⟨rfl, fun h => by simp [frozen] at h⟩
  | r :: rs, n => by
    obtain ⟨hl, hg⟩ := frozen_get (ids := ids) (rs := rs) (n := n + 1)
    refine ⟨by simp [frozen, hl], fun {i row} h => ?_⟩
    cases i with
    | zero =>
      simp only [frozen, List.getElem?_cons_zero, Option.some.injEq] at h
      exact ⟨r, rfl, h.symm⟩
    | succ i =>
      simp only [frozen, List.getElem?_cons_succ] at h
      obtain ⟨row0, h1, h2⟩ := hg h
      exact ⟨row0, by simpa using h1, by rw [h2]; congr 1; omega⟩
def fzB (g : Gh) (ids : List Nat) (k : Nat) : Bool :=
  match g.tag k with
  | some x => ids.contains x.1
  | none => false
theorem fzB_iff {g : Gh} {ids : List Nat} {k : Nat} : fzB g ids k = true ↔ ∃ r p, g.tag k = some (r, p) ∧ ids.contains r = true := by
  unfold fzB
  constructor
  · intro h
    split at h
    · rename_i x hx
      exact ⟨x.1, x.2, hx, h⟩
    · cases h
  · rintro ⟨r, p, h1, h2⟩
    rw [h1]
    exact h2
def Gh.freeze (g : Gh) (w : World) (ids : List Nat) : Gh :=
  ⟨g.bx, g.rw, fun k => if fzB g ids k = true then none else g.tag k,
    { w with heap := w.heap.mapIdx fun k o => if fzB g ids k = true then o else match g.fz k with | some o' => o' | none => .pending #[] 0 },
    fun k => !(fzB g ids k) && (g.fz k).isNone, g.w0,
    { w with heap := w.heap.mapIdx fun k o => if fzB g ids k = true then o else match g.rz.heap[k]? with | some (.cells c e f) => .cells c e f | _ => .pending #[] 0 }⟩
section
variable {bs : List (TypeId × List AL)} {rs : List Row} {g : Gh} {w : World} (h : Mem bs rs g w) {ids : List Nat}
include h
theorem freeze_fz (k : Nat) : (g.freeze w ids).fz k = if fzB g ids k = true then w.heap[k]? else g.fz k := by
  have e1 : (g.freeze w ids).wz.heap = w.heap.mapIdx fun k o => if fzB g ids k = true then o else match g.fz k with | some o' => o' | none => .pending #[] 0 := rfl
  have e2 : (g.freeze w ids).lent k = (!(fzB g ids k) && (g.fz k).isNone) := rfl
  have e3 : (g.freeze w ids).fz k = (match (g.freeze w ids).wz.heap[k]? with
    | some (.cells c e f) => some (Obj.cells c e f)
    | some o => if (g.freeze w ids).lent k = true then none else some o
    | none => none) := rfl
  rw [e3, e1, e2, Array.getElem?_mapIdx]
  cases hw : w.heap[k]? with
  | none =>
    have : g.fz k = none := by
      cases hf : g.fz k with
      | none => rfl
      | some o => have := h.st.fz hf; rw [hw] at this; cases this
    rw [this]
    simp
  | some o =>
    by_cases hb : fzB g ids k = true
    · simp only [Option.map_some, hb, if_true]
      cases o <;> simp
    · simp only [Option.map_some, hb, if_false]
      cases hf : g.fz k with
      | none => simp
      | some o' => cases o' <;> simp
theorem not_fzB {k : Nat} {o : Obj} (hk : g.fz k = some o) : ¬ fzB g ids k = true := fun hb => by
  obtain ⟨r, p, h1, _⟩ := fzB_iff.1 hb
  rw [h.dom h1] at hk
  cases hk
theorem freeze_rz {k : Nat} {c : Array Value} {e : TypeId} {f : Nat × Nat} : (g.freeze w ids).rz.heap[k]? = some (.cells c e f) ↔ (fzB g ids k = true ∧ w.heap[k]? = some (.cells c e f)) ∨ g.rz.heap[k]? = some (.cells c e f) := by
  have e1 : (g.freeze w ids).rz.heap = w.heap.mapIdx fun k o => if fzB g ids k = true then o else match g.rz.heap[k]? with | some (.cells c e f) => .cells c e f | _ => .pending #[] 0 := rfl
  rw [e1, Array.getElem?_mapIdx]
  constructor
  · intro hk
    obtain ⟨o, ho, he⟩ := Option.map_eq_some_iff.1 hk
    split at he
    · rename_i hb
      exact .inl ⟨hb, by rw [ho, he]⟩
    · split at he
      · rename_i hz
        rw [hz, he]
        exact .inr rfl
      · cases he
  · rintro (⟨hb, ho⟩ | hz)
    · rw [ho, Option.map_some, if_pos hb]
    · have hf := h.st.rd hz
      rw [h.st.fz hf, Option.map_some, if_neg (not_fzB h hf), hz]
theorem Mem.freeze : g.le (g.freeze w ids) ∧ Mem bs (frozen ids 0 rs) (g.freeze w ids) w := by
  have hle : g.le (g.freeze w ids) := by
    refine ⟨fun x => x, fun x => x, rfl, fun {k o} hk => ?_, fun {k c e f} hk => (freeze_rz h).2 (.inr hk), fun {k c e f} hk => ?_⟩
    · rw [freeze_fz h, if_neg (not_fzB h hk)]
      exact hk
    · rcases (freeze_rz h).1 hk with ⟨hb, _⟩ | hz
      · obtain ⟨r, p, h1, _⟩ := fzB_iff.1 hb
        exact .inr (h.dom h1)
      · exact .inl hz
  have htag : ∀ {k : Nat} {x : Nat × List Nat}, (g.freeze w ids).tag k = some x ↔ ¬ fzB g ids k = true ∧ g.tag k = some x := by
    intro k x
    show (if fzB g ids k = true then none else g.tag k) = some x ↔ _
    split
    · rename_i hb
      exact ⟨fun h => (by cases h), fun h => absurd hb h.1⟩
    · rename_i hb
      exact ⟨fun h => ⟨hb, h⟩, fun h => h.2⟩
  have hz : ∀ k, ids.contains k = true → ∀ b m, g.tag b = some (k, m) → b < w.heap.size → (g.freeze w ids).rz.heap[b]? = w.heap[b]? := by
    intro k hk b m hb hlt
    have e1 : (g.freeze w ids).rz.heap = w.heap.mapIdx fun k o => if fzB g ids k = true then o else match g.rz.heap[k]? with | some (.cells c e f) => .cells c e f | _ => .pending #[] 0 := rfl
    rw [e1, Array.getElem?_mapIdx, Array.getElem?_eq_getElem hlt, Option.map_some, if_pos (fzB_iff.2 ⟨k, m, hb, hk⟩)]
  have hcle : Cle g.rz (g.freeze w ids).rz := fun a u hu => cells_mono_of (fun hk => hle.rz hk) hu
  have thaw : ∀ {r : Nat} {row : Row} {q : Nat} {p : List Nat} {v : Value}, ids.contains q = true → Own row.s row.e g.rz w 0 g.tag q p v row.xs → RowRel (g.freeze w ids) w r row.toRo v := by
    intro r row q p v hq ho
    have h1 : Own row.s row.e (g.freeze w ids).rz (g.freeze w ids).rz 0 g.tag q p v row.xs := Own.move ho (fun k m hk _ hl => ⟨hz q hq k _ hl hk, hl⟩) (Nat.le_refl _) hcle
    obtain ⟨A, c, hv, hc, hr⟩ := h1.reads (fun _ _ h => h)
    refine ⟨A, c, ?_, ?_, ?_⟩
    · show v = .slice A (row.s.nrm row.xs).length c
      rw [row.s.nrm_len]; exact hv
    · show (row.s.nrm row.xs).length ≤ c
      rw [row.s.nrm_len]; exact hc
    · show row.s.norm.kd.C (g.freeze w ids).rz A (row.s.nrm row.xs).length (row.s.nrm row.xs)
      rw [row.s.nrm_len]; exact row.s.norm_C hr
  have stay : ∀ {r : Nat} {row : Row} {v : Value}, RowRel g w r row v → (row.md.isRo = false → ids.contains (row.md.root r) = false) → RowRel (g.freeze w ids) w r row v := by
    intro r row v hr hn
    refine hr.move rfl (fun x => x) (fun {k c e f} hk => hle.rz hk) fun k m hro hk hl => ⟨htag.2 ⟨fun hb => ?_, hl⟩, rfl⟩
    obtain ⟨r', p, h1, h2⟩ := fzB_iff.1 hb
    rw [hl] at h1
    injection h1 with h1
    injection h1 with h1
    rw [← h1, hn hro] at h2
    cases h2
  refine ⟨hle, h.bl, fun {b t cs blk} hb hx => ?_, fun {b blk} hb => ?_, h.inj, by rw [frozen_get.1]; exact h.rl, fun {r row v} hr hv => ?_, ⟨fun x hx => ?_, h.st.os, h.st.tape, h.st.output, h.st.size, fun {k o} hk => ?_, fun {k c e f} hk => ?_⟩, fun {k x} hk => ?_⟩
  · obtain ⟨vs, hh, hF⟩ := h.box hb hx
    exact ⟨vs, hh, hF.imp fun _ _ => AL.R_le hle⟩
  · have hf := h.free hb
    have hn : ¬ fzB g ids blk = true := fun hb' => by
      obtain ⟨r, p, h1, _⟩ := fzB_iff.1 hb'
      rw [hf.1] at h1
      cases h1
    refine ⟨?_, by rw [freeze_fz h, if_neg hn]; exact hf.2⟩
    show (if fzB g ids blk = true then none else g.tag blk) = none
    rw [if_neg hn]
    exact hf.1
  · obtain ⟨row0, h0, rfl⟩ := frozen_get.2 hr
    rw [Nat.zero_add]
    have h1 := h.row h0 hv
    unfold Row.fzn
    split
    · rename_i hmd
      split
      · rename_i hc
        unfold RowRel at h1
        rw [hmd] at h1
        exact thaw hc h1
      · rename_i hc
        exact stay h1 (fun _ => by rw [hmd]; simpa [Md.root] using hc)
    · rename_i q hmd
      split
      · rename_i hc
        unfold RowRel at h1
        rw [hmd] at h1
        obtain ⟨p, h1⟩ := h1
        exact thaw hc h1
      · rename_i hc
        exact stay h1 (fun _ => by rw [hmd]; simpa [Md.root] using hc)
    · rename_i q _ _ _ hmd
      split
      · rename_i hc
        unfold RowRel at h1
        rw [hmd] at h1
        exact thaw hc h1.1
      · rename_i hc
        exact stay h1 (fun _ => by rw [hmd]; simpa [Md.root] using hc)
    · rename_i h2 h3 h4
      cases hmd : row0.md with
      | own => exact absurd hmd h2
      | brw q => exact absurd hmd (h3 q)
      | sub q a b c => exact absurd hmd (h4 q a b c)
      | dead =>
        unfold RowRel
        rw [hmd]
        exact h1.slice
      | ro => exact stay h1 fun hro => by rw [hmd] at hro; cases hro
      | rop => exact stay h1 fun hro => by rw [hmd] at hro; cases hro
      | roh _ => exact stay h1 fun hro => by rw [hmd] at hro; cases hro
  · obtain ⟨cs, t, f, h0, h1⟩ := h.st.tab x hx
    exact ⟨cs, t, f, h0, hle.fz h1⟩
  · rw [freeze_fz h] at hk
    split at hk
    · exact hk
    · exact h.st.fz hk
  · rw [freeze_fz h]
    rcases (freeze_rz h).1 hk with ⟨hb, ho⟩ | hz
    · rw [if_pos hb]
      exact ho
    · have := h.st.rd hz
      rw [if_neg (not_fzB h this)]
      exact this
  · obtain ⟨h1, h2⟩ := htag.1 hk
    rw [freeze_fz h, if_neg h1]
    exact h.dom h2
end
theorem freeze_rel {st : St} {g : Gh} {a : Act} {w : World} (ids : List Nat) (hR : Rel st g a w) : ∃ g', g.le g' ∧ Rel (st.freeze ids) g' a w := by
  obtain ⟨hle, hm⟩ := hR.mem.freeze (ids := ids)
  exact ⟨_, hle, hR.tmps.imp fun _ _ => AV.R_le hle, hR.defers, hm⟩
end Go.Proofs.YtmbcnpbgcfiafaaGreat.Vm
