/- A walk by reckoning: rows of the call's own are made, written, appended to. -/
import Derived.Test.YtmbcnpbgcfiafaaGreatVmF
namespace Go.Proofs.YtmbcnpbgcfiafaaGreat.Vm
open Go Go.RowKit Go.Proofs.YtmbcnpbgcfiafaaGreatW.PrintWords
set_option linter.unusedVariables false
set_option linter.unusedSimpArgs false

abbrev Mk (α : Type) := Option (α × List AL × List (Nat × Nat))
def mkInt (k : IntKind) : List AL → Mk Int
  | .val (.int k' n) :: cs => if k = k' then some (n, cs, []) else none
  | _ => none
def mkBool : List AL → Mk Bool
  | .val (.bool b) :: cs => some (b, cs, [])
  | _ => none
def mkStr : List AL → Mk ByteArray
  | .val (.string b) :: cs => some (b, cs, [])
  | _ => none
def asOwn (row : Row) (e : TypeId) (s : Sh) : Option (List s.den) :=
  match row.md with
  | .own =>
    if row.e = e then
      match h : row.s.beq s with
      | true => some (Sh.beq_eq h ▸ row.xs)
      | false => none
    else none
  | _ => none
def mkRow (st : St) (e : TypeId) (s : Sh) (o : Nat) : List AL → Mk (List s.den)
  | .val (.slice none 0 0) :: cs => some ([], cs, [])
  | .sl r :: cs =>
    match st.rows[r]? with
    | none => none
    | some row => (asOwn row e s).map fun xs => (xs, cs, [(r, o)])
  | _ => none
def rowAs (row : Row) (s : Sh) : Option (List s.den) :=
  match h : row.s.beq s with
  | true => some (Sh.beq_eq h ▸ row.xs)
  | false => none
theorem rowAs_eq {row : Row} {s : Sh} {xs : List s.den} (h : rowAs row s = some xs) : ∃ hs : row.s = s, xs = hs ▸ row.xs := by
  unfold rowAs at h
  split at h
  · rename_i hs
    simp only [Option.some.injEq] at h
    exact ⟨Sh.beq_eq hs, h.symm⟩
  · cases h
def mkRo (st : St) (s : Sh) : List AL → Mk (List s.den)
  | .val (.slice none 0 0) :: cs => some ([], cs, [])
  | .sl r :: cs =>
    match st.rows[r]? with
    | none => none
    | some row => if row.md.isRo = true then (rowAs row s).map fun xs => (xs, cs, []) else none
  | _ => none
def mkHr (st : St) (s : Sh) : List AL → Mk (HD × List s.den)
  | .val (.slice none 0 0) :: cs => some (((none, 0, 0), []), cs, [])
  | .sl r :: cs =>
    match st.rows[r]? with
    | none => none
    | some row =>
      match row.md with
      | .roh h => (rowAs row s).map fun xs => ((h, xs), cs, [])
      | _ => none
  | _ => none
def mkHv : List AL → Mk HD
  | .val (.slice a n c) :: cs => some ((a, n, c), cs, [])
  | _ => none
def Sh.mk (st : St) : (s : Sh) → Nat → List AL → Mk s.den
  | .int k, _, cs => mkInt k cs
  | .bool, _, cs => mkBool cs
  | .str, _, cs => mkStr cs
  | .sl e s, o, cs => mkRow st e s o cs
  | .rs _ s, _, cs => mkRo st s cs
  | .hr _ s, _, cs => mkHr st s cs
  | .hv, _, cs => mkHv cs
  | .pair a b, o, cs =>
    (a.mk st o cs).bind fun x => (b.mk st (o + a.sz) x.2.1).map fun y => ((x.1, y.1), y.2.1, x.2.2 ++ y.2.2)
theorem asOwn_own {row : Row} {e : TypeId} {s : Sh} {xs : List s.den} (h : asOwn row e s = some xs) : row.md = .own ∧ row.e = e ∧ ∃ hs : row.s = s, xs = hs ▸ row.xs := by
  unfold asOwn at h
  split at h
  · rename_i hm
    split at h
    · rename_i he
      split at h
      · rename_i hs
        simp only [Option.some.injEq] at h
        exact ⟨hm, he, Sh.beq_eq hs, h.symm⟩
      · cases h
    · cases h
  · cases h
theorem tri {α β γ : Type} {a a' : α} {b b' : β} {c c' : γ} (h : (a, b, c) = (a', b', c')) : a = a' ∧ b = b' ∧ c = c' := by
  injection h with h1 h2
  injection h2 with h2 h3
  exact ⟨h1, h2, h3⟩
def Moves (g : Gh) (w w1 : World) (lab' : Lab) (r i : Nat) (mv : List (Nat × Nat)) : Prop :=
  ∀ q o, (q, o) ∈ mv → ∀ k m, k < w.heap.size → g.tag k = some (q, m) → w1.heap[k]? = w.heap[k]? ∧ lab' k = some (r, [i, o] ++ m)
theorem mk_OE {st : St} {g : Gh} {w w1 : World} (hm : Mem st.boxes st.rows g w) {lab' : Lab} {r i : Nat} :
    ∀ (s : Sh) (o : Nat) (cs : List AL) (us : List Value) (x : s.den) (cs' : List AL) (mv : List (Nat × Nat)), s.mk st o cs = some (x, cs', mv) → F2 (AL.R g) cs us → Moves g w w1 lab' r i mv →
      OE g.rz w1 0 lab' r s [i] o x (us.take s.sz) ∧ F2 (AL.R g) cs' (us.drop s.sz)
  | .int k, o, cs, us, x, cs', mv, h, hF, hv => by
    have h' : mkInt k cs = some (x, cs', mv) := h
    unfold mkInt at h'
    split at h'
    · rename_i k' n cs0
      split at h'
      · rename_i hk
        obtain ⟨rfl, rfl, rfl⟩ := tri (Option.some.inj h')
        match us, hF with
        | u :: us, hF =>
          obtain rfl : u = .int k' n := hF.1
          exact ⟨by rw [hk]; rfl, hF.2⟩
      · cases h'
    · cases h'
  | .bool, o, cs, us, x, cs', mv, h, hF, hv => by
    have h' : mkBool cs = some (x, cs', mv) := h
    unfold mkBool at h'
    split at h'
    · rename_i n cs0
      obtain ⟨rfl, rfl, rfl⟩ := tri (Option.some.inj h')
      match us, hF with
      | u :: us, hF =>
        obtain rfl : u = .bool n := hF.1
        exact ⟨rfl, hF.2⟩
    · cases h'
  | .str, o, cs, us, x, cs', mv, h, hF, hv => by
    have h' : mkStr cs = some (x, cs', mv) := h
    unfold mkStr at h'
    split at h'
    · rename_i n cs0
      obtain ⟨rfl, rfl, rfl⟩ := tri (Option.some.inj h')
      match us, hF with
      | u :: us, hF =>
        obtain rfl : u = .string n := hF.1
        exact ⟨rfl, hF.2⟩
    · cases h'
  | .sl e s, o, cs, us, x, cs', mv, h, hF, hv => by
    have h' : mkRow st e s o cs = some (x, cs', mv) := h
    unfold mkRow at h'
    split at h'
    · rename_i cs0
      obtain ⟨rfl, rfl, rfl⟩ := tri (Option.some.inj h')
      match us, hF with
      | u :: us, hF =>
        obtain rfl : u = .slice none 0 0 := hF.1
        exact ⟨OE_sl.2 ⟨_, rfl, Own.nil _ _ _ _ _ _ _ _⟩, hF.2⟩
    · rename_i q cs0
      split at h'
      · cases h'
      · rename_i row hrow
        obtain ⟨xs, hxs, he⟩ := Option.map_eq_some_iff.1 h'
        obtain ⟨rfl, rfl, rfl⟩ := tri he
        obtain ⟨hmd, rfl, rfl, rfl⟩ := asOwn_own hxs
        match us, hF with
        | u :: us, hF =>
          have hu : g.rw[q]? = some u := hF.1
          have ho := hm.row hrow hu
          unfold RowRel at ho
          rw [hmd] at ho
          refine ⟨OE_sl.2 ⟨u, rfl, Own.move ho (fun k m hk _ hl => ⟨(hv q o (by simp) k m hk hl).1, ?_⟩) (Nat.le_refl _) (fun _ _ h => h)⟩, hF.2⟩
          have := (hv q o (by simp) k m hk hl).2
          simpa using this
    · cases h'
  | .rs e s, o, cs, us, x, cs', mv, h, hF, hv => by
    have h' : mkRo st s cs = some (x, cs', mv) := h
    unfold mkRo at h'
    split at h'
    · rename_i cs0
      obtain ⟨rfl, rfl, rfl⟩ := tri (Option.some.inj h')
      match us, hF with
      | u :: us, hF =>
        obtain rfl : u = .slice none 0 0 := hF.1
        have ho : Own s 0 g.rz g.rz 0 (fun _ => none) 0 [] (.slice none 0 0) [] := Own.nil _ _ _ _ _ _ _ _
        obtain ⟨A, c, h1, h2, h3⟩ := ho.reads (fun _ _ h => h)
        exact ⟨⟨A, c, by rw [← h1]; rfl, h2, h3⟩, hF.2⟩
    · rename_i q cs0
      split at h'
      · cases h'
      · rename_i row hrow
        split at h'
        · rename_i hro
          obtain ⟨xs, hxs, he⟩ := Option.map_eq_some_iff.1 h'
          obtain ⟨rfl, rfl, rfl⟩ := tri he
          obtain ⟨rfl, rfl⟩ := rowAs_eq hxs
          match us, hF with
          | u :: us, hF =>
            have hu : g.rw[q]? = some u := hF.1
            have ho := hm.row hrow hu
            unfold RowRel at ho
            cases hmd : row.md with
            | ro =>
              rw [hmd] at ho
              obtain ⟨A, c, rfl, h2, h3⟩ := ho
              exact ⟨⟨A, c, rfl, h2, h3⟩, hF.2⟩
            | rop =>
              rw [hmd] at ho
              obtain ⟨A, c, rfl, h2, h3⟩ := ho
              exact ⟨⟨A, c, rfl, h2, h3⟩, hF.2⟩
            | own => rw [hmd] at hro; cases hro
            | brw q => rw [hmd] at hro; cases hro
            | sub _ _ _ _ => rw [hmd] at hro; cases hro
            | roh hd =>
              rw [hmd] at ho
              obtain ⟨⟨A, c, rfl, h2, h3⟩, _⟩ := ho
              exact ⟨⟨A, c, rfl, h2, h3⟩, hF.2⟩
            | dead => rw [hmd] at hro; cases hro
        · cases h'
    · cases h'
  | .hr e s, o, cs, us, x, cs', mv, h, hF, hv => by
    have h' : mkHr st s cs = some (x, cs', mv) := h
    unfold mkHr at h'
    split at h'
    · rename_i cs0
      obtain ⟨rfl, rfl, rfl⟩ := tri (Option.some.inj h')
      match us, hF with
      | u :: us, hF =>
        obtain rfl : u = .slice none 0 0 := hF.1
        have ho : Own s 0 g.rz g.rz 0 (fun _ => none) 0 [] (.slice none 0 0) [] := Own.nil _ _ _ _ _ _ _ _
        obtain ⟨A, c, h1, h2, h3⟩ := ho.reads (fun _ _ h => h)
        exact ⟨⟨⟨A, c, by rw [← h1]; rfl, h2, h3⟩, rfl⟩, hF.2⟩
    · rename_i q cs0
      split at h'
      · cases h'
      · rename_i row hrow
        split at h'
        · rename_i hd hmd
          obtain ⟨xs, hxs, he⟩ := Option.map_eq_some_iff.1 h'
          obtain ⟨rfl, rfl, rfl⟩ := tri he
          obtain ⟨rfl, rfl⟩ := rowAs_eq hxs
          match us, hF with
          | u :: us, hF =>
            have hu : g.rw[q]? = some u := hF.1
            have ho := hm.row hrow hu
            unfold RowRel at ho
            rw [hmd] at ho
            obtain ⟨⟨A, c, h1, h2, h3⟩, h4⟩ := ho
            exact ⟨⟨⟨A, c, by rw [← h1]; rfl, h2, h3⟩, by rw [← h4]; rfl⟩, hF.2⟩
        · cases h'
    · cases h'
  | .hv, o, cs, us, x, cs', mv, h, hF, hv => by
    have h' : mkHv cs = some (x, cs', mv) := h
    unfold mkHv at h'
    split at h'
    · rename_i a n c cs0
      obtain ⟨rfl, rfl, rfl⟩ := tri (Option.some.inj h')
      match us, hF with
      | u :: us, hF =>
        obtain rfl : u = .slice a n c := hF.1
        exact ⟨rfl, hF.2⟩
    · cases h'
  | .pair a b, o, cs, us, x, cs', mv, h, hF, hv => by
    have h' : ((a.mk st o cs).bind fun x => (b.mk st (o + a.sz) x.2.1).map fun y => ((x.1, y.1), y.2.1, x.2.2 ++ y.2.2)) = some (x, cs', mv) := h
    obtain ⟨⟨x1, cs1, m1⟩, h1, h2⟩ := Option.bind_eq_some_iff.1 h'
    obtain ⟨⟨y1, cs2, m2⟩, h3, h4⟩ := Option.map_eq_some_iff.1 h2
    obtain ⟨rfl, rfl, rfl⟩ := tri h4
    obtain ⟨h5, h6⟩ := mk_OE hm a o cs us x1 cs1 m1 h1 hF (fun q o' hq => hv q o' (List.mem_append_left _ hq))
    obtain ⟨h7, h8⟩ := mk_OE hm b (o + a.sz) cs1 (us.drop a.sz) y1 cs2 m2 h3 h6 (fun q o' hq => hv q o' (List.mem_append_right _ hq))
    refine ⟨⟨us.take a.sz, (us.drop a.sz).take b.sz, ?_, h5, h7⟩, by rw [List.drop_drop] at h8; exact h8⟩
    show us.take (a.sz + b.sz) = _
    rw [List.take_add]
end Go.Proofs.YtmbcnpbgcfiafaaGreat.Vm
