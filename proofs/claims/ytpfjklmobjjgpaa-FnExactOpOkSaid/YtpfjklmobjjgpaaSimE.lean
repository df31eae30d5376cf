/- A walk by reckoning, fifth part: what goes over a call, and what comes back. -/
import Derived.Test.YtpfjklmobjjgpaaSimD
namespace Go.Proofs.Ytpfjklmobjjgpaa.Sim
open Go Go.RowKit Go.Proofs.YtpfjklmobjjgpaaW.PrintWords
set_option linter.unusedVariables false
set_option linter.unusedSimpArgs false

def R1.In (w : World) : R1 → Value → Prop
  | .sc v, x => x = v
  | .row e s xs, x => ∃ A c, x = .slice A xs.length c ∧ xs.length ≤ c ∧ s.kd.C w A xs.length xs
def RV.In (w : World) : RV → Value → Prop
  | .one r, x => r.In w x
  | .agg rs, x => ∃ cs, x = .agg cs ∧ F2 (R1.In w) rs cs.toList
def R1.Out (w : World) (base : Nat) (tag : Lab) (n : Nat) : R1 → Value → Prop
  | .sc v, x => x = v
  | .row e s xs, x => Own s e w base tag n [] x xs
def OutL (w : World) (base : Nat) (tag : Lab) : Nat → List R1 → List Value → Prop
  | _, [], [] => True
  | n, r :: rs, v :: vs => r.Out w base tag n v ∧ OutL w base tag (n + 1) rs vs
  | _, _, _ => False
def RV.flat : RV → List R1
  | .one r => [r]
  | .agg rs => rs
/-- Values, each the cells of its own. -/
def Splits : List RV → List Value → List Value → Prop
  | [], [], us => us = []
  | .one _ :: rs, v :: vs, us => ∃ us', us = v :: us' ∧ Splits rs vs us'
  | .agg ys :: rs, v :: vs, us => ∃ cs us', v = .agg cs ∧ cs.size = ys.length ∧ us = cs.toList ++ us' ∧ Splits rs vs us'
  | _, _, _ => False
def Outs (w : World) (base : Nat) (tag : Lab) (rs : List RV) (vs : List Value) : Prop :=
  ∃ us, Splits rs vs us ∧ OutL w base tag 0 (rs.flatMap RV.flat) us
def retV : List Value → Value
  | [v] => v
  | vs => .tuple vs.toArray
def retA : List A1 → AV
  | [x] => .s1 x
  | xs => .tup xs
/-- What a call of f comes to. -/
def CallsTo (P : Program) (f : FuncId) (vals : Array Value) (w : World) (Z : List RV → Prop) : Prop :=
  Calls P f vals w fun e w' => ∃ rvs vs tag, Z rvs ∧ e = .returned (retV vs) ∧ Outs w' w.heap.size tag rvs vs ∧ Below w.heap.size w w'
def Fun1 (ρ : Type) : Type := List RV → (List RV → Option ρ) → Option ρ
def Good (P : Program) {ρ : Type} (f : FuncId) (F : Fun1 ρ) : Prop :=
  (∃ fn, P.funcs[f]? = some fn ∧ (fn.name == "runtime.NumGoroutine") = false ∧ fn.body.isNone = false) ∧
  ∀ args K r, F args K = some r → ∀ (w : World) (vals : List Value), F2 (RV.In w) args vals → CallsTo P f vals.toArray w (fun rvs => K rvs = some r)

/-! ### From the state to a call's arguments -/
def St.toR1 (st : St) : AL → Option R1
  | .val v => some (.sc v)
  | .sl r =>
    match st.rows[r]? with
    | none => none
    | some row =>
      match row.md with
      | .dead => none
      | _ => some (.row row.e row.s row.xs)
  | .vw r sz lo hi =>
    match st.rows[r]? with
    | none => none
    | some row =>
      match row.md with
      | .dead => none
      | _ => if row.s.sz = sz then some (.row row.e row.s ((row.xs.take hi.toNat).drop lo.toNat)) else none
  | _ => none
theorem vw_reads {w : World} {s : Sh} {A A' : Option Addr} {c n : Nat} {xs : List s.den} (hC : s.kd.C w A xs.length xs) (hc : xs.length ≤ c) {lo hi : Nat} (h1 : lo ≤ hi) (h2 : hi ≤ xs.length) (hA : lo < c → A' = A.map (·.add (lo * s.sz))) :
    hi - lo = ((xs.take hi).drop lo).length ∧ s.kd.C w A' ((xs.take hi).drop lo).length ((xs.take hi).drop lo) := by
  have hl : ((xs.take hi).drop lo).length = hi - lo := by rw [List.length_drop, List.length_take]; omega
  refine ⟨hl.symm, ?_⟩
  have := Kd.C_mid (c := c) hC h1 h2 hc
  by_cases e : c = lo
  · have h0 : (xs.take hi).drop lo = [] := List.eq_nil_of_length_eq_zero (by omega)
    rw [h0]
    exact ⟨rfl, by simp, fun h => absurd h (Nat.lt_irrefl 0)⟩
  · rw [if_neg e, s.kd_sz] at this
    rw [hA (by omega)]
    exact this
def St.toL (st : St) : List AL → Option (List R1)
  | [] => some []
  | x :: xs =>
    match st.toR1 x, st.toL xs with
    | some y, some ys => some (y :: ys)
    | _, _ => none
def St.toRV (st : St) : AV → Option RV
  | .s1 (.one x) => (st.toR1 x).map .one
  | .s1 (.agg xs) => (st.toL xs).map .agg
  | .tup _ => none
def St.toRVs (st : St) : List AV → Option (List RV)
  | [] => some []
  | x :: xs =>
    match st.toRV x, st.toRVs xs with
    | some y, some ys => some (y :: ys)
    | _, _ => none
section
variable {st : St} {g : Gh} {w : World} (hm : Mem st.boxes st.rows g w)
include hm
theorem toR1_in {x : AL} {y : R1} {v : Value} (hx : x.R g v) (h : st.toR1 x = some y) : y.In w v := by
  cases x with
  | val u =>
    simp only [St.toR1, Option.some.injEq] at h
    subst h
    exact hx
  | sl r =>
    simp only [St.toR1] at h
    split at h
    · cases h
    · rename_i row hrow
      have hv : g.rw[r]? = some v := hx
      split at h
      · cases h
      · rename_i hd
        simp only [Option.some.injEq] at h
        subst h
        obtain ⟨A, c, h1, h2, h3, _⟩ := (hm.row hrow hv).reads hm.below hd
        exact ⟨A, c, h1, h2, h3⟩
  | unk => simp [St.toR1] at h
  | ptr b off => simp [St.toR1] at h
  | ept r sz i off => simp [St.toR1] at h
  | vw r sz lo hi =>
    simp only [St.toR1] at h
    split at h
    · cases h
    · rename_i row hrow
      obtain ⟨A, n, c, A', hv, h0, h1, h2, h3, h4, _, rfl⟩ := hx
      split at h
      · cases h
      · rename_i hd
        split at h
        · rename_i hsz
          simp only [Option.some.injEq] at h
          subst h
          subst hsz
          obtain ⟨B, d, he, h5, h6, _⟩ := (hm.row hrow hv).reads hm.below hd
          injection he with he1 he2 he3
          subst he1; subst he2; subst he3
          obtain ⟨h7, h8⟩ := vw_reads (n := c) h6 h5 (lo := lo.toNat) (hi := hi.toNat) (by omega) (by omega) h4
          exact ⟨A', c - lo.toNat, by rw [← h7], by omega, h8⟩
        · cases h
theorem toL_in : ∀ {xs : List AL} {ys : List R1} {vs : List Value}, F2 (AL.R g) xs vs → st.toL xs = some ys → F2 (R1.In w) ys vs
  | [], ys, [], _, h => by
    simp only [St.toL, Option.some.injEq] at h
    subst h
    trivial
  | x :: xs, ys, v :: vs, hx, h => by
    simp only [St.toL] at h
    split at h
    · rename_i y ys1 h1 h2
      simp only [Option.some.injEq] at h
      subst h
      exact ⟨toR1_in hm hx.1 h1, toL_in hx.2 h2⟩
    · cases h
theorem toRV_in {x : AV} {y : RV} {v : Value} (hx : x.R g v) (h : st.toRV x = some y) : y.In w v := by
  cases x with
  | s1 x =>
    cases x with
    | one x =>
      simp only [St.toRV, Option.map_eq_some_iff] at h
      obtain ⟨z, hz, rfl⟩ := h
      exact toR1_in hm hx hz
    | agg xs =>
      simp only [St.toRV, Option.map_eq_some_iff] at h
      obtain ⟨z, hz, rfl⟩ := h
      obtain ⟨cs, rfl, hF⟩ := hx
      exact ⟨cs, rfl, toL_in hm hF hz⟩
  | tup xs => simp [St.toRV] at h
theorem toRVs_in : ∀ {xs : List AV} {ys : List RV} {vs : List Value}, F2 (AV.R g) xs vs → st.toRVs xs = some ys → F2 (RV.In w) ys vs
  | [], ys, [], _, h => by
    simp only [St.toRVs, Option.some.injEq] at h
    subst h
    trivial
  | x :: xs, ys, v :: vs, hx, h => by
    simp only [St.toRVs] at h
    split at h
    · rename_i y ys1 h1 h2
      simp only [Option.some.injEq] at h
      subst h
      exact ⟨toRV_in hm hx.1 h1, toRVs_in hx.2 h2⟩
    · cases h
end

/-! ### From what came in, or back, to the state -/
def noRow : Row := ⟨0, .bool, [], .dead⟩
def R1.toRow (md : Md) : R1 → Row
  | .sc _ => noRow
  | .row e s xs => ⟨e, s, xs, md⟩
def R1.toAL (n : Nat) : R1 → AL
  | .sc v => .val v
  | .row _ _ _ => .sl n
def toALs (n : Nat) : List R1 → List AL
  | [] => []
  | r :: rs => r.toAL n :: toALs (n + 1) rs
def toA1s (n : Nat) : List RV → List A1
  | [] => []
  | .one r :: rs => .one (r.toAL n) :: toA1s (n + 1) rs
  | .agg ys :: rs => .agg (toALs n ys) :: toA1s (n + ys.length) rs
def St.back (st : St) (md : Md) (rs : List RV) : St := { st with rows := st.rows ++ (rs.flatMap RV.flat).map (R1.toRow md) }
/-- Rows laid behind: each as it is said. -/
theorem Mem.addRows {bs : List (TypeId × List AL)} {g : Gh} {w : World} {md : Md} (Z : Nat → R1 → Value → Prop) (hZ : ∀ (g' : Gh) (n : Nat) (r : R1) (v : Value), g'.w0 = g.w0 → g'.tag = g.tag → Z n r v → RowRel g' w n (r.toRow md) v ∧ (∀ u, r = .sc u → v = u)) :
    ∀ (rs : List R1) (us : List Value) (rs0 : List Row) (g0 : Gh), g0.w0 = g.w0 → g0.tag = g.tag → Mem bs rs0 g0 w → (∀ (i : Nat) (r : R1), rs[i]? = some r → ∃ v, us[i]? = some v ∧ Z (rs0.length + i) r v) → rs.length = us.length →
      ∃ g', g0.le g' ∧ g'.tag = g.tag ∧ Mem bs (rs0 ++ rs.map (R1.toRow md)) g' w ∧ F2 (AL.R g') (toALs rs0.length rs) us
  | [], [], rs0, g0, hw, ht, hm, _, _ => ⟨g0, .refl g0, ht, by simpa using hm, trivial⟩
  | r :: rs, u :: us, rs0, g0, hw, ht, hm, h, hl => by
    obtain ⟨v, hv, hz⟩ := h 0 r rfl
    simp only [List.getElem?_cons_zero, Option.some.injEq] at hv
    subst hv
    obtain ⟨hr, hsc⟩ := hZ g0 (rs0.length + 0) r u hw ht hz
    obtain ⟨g1, hle, hrw, ht1, hm1⟩ := hm.addRow (r.toRow md) u hr
    have hw1 : g1.w0 = g.w0 := hle.w0.trans hw
    have ht1 : g1.tag = g.tag := ht1.trans ht
    obtain ⟨g2, hle2, ht2, hm2, hF⟩ := Mem.addRows Z hZ rs us (rs0 ++ [r.toRow md]) g1 hw1 ht1 hm1 (fun i r' hi => by
      obtain ⟨v', hv', hz'⟩ := h (i + 1) r' (by simpa using hi)
      exact ⟨v', by simpa using hv', by simpa [Nat.add_assoc, Nat.add_comm 1 i] using hz'⟩) (by simpa using hl)
    refine ⟨g2, hle.trans hle2, ht2, by simpa using hm2, ?_, by simpa using hF⟩
    cases r with
    | sc x => exact hsc x rfl
    | row e s xs =>
      show g2.rw[rs0.length]? = some u
      refine hle2.rw ?_
      rw [hrw, hm.rl]
      simp
/-- The cells of values that came over a call, put together again. -/
theorem joined {g : Gh} : ∀ (rs : List RV) (vs us : List Value) (n : Nat), Splits rs vs us → F2 (AL.R g) (toALs n (rs.flatMap RV.flat)) us → F2 (A1.R g) (toA1s n rs) vs
  | [], [], us, n, h, _ => trivial
  | .one r :: rs, v :: vs, us, n, h, hF => by
    obtain ⟨us', rfl, h⟩ := h
    have hF' : F2 (AL.R g) (r.toAL n :: toALs (n + 1) (rs.flatMap RV.flat)) (v :: us') := hF
    exact ⟨hF'.1, joined rs vs us' (n + 1) h hF'.2⟩
  | .agg ys :: rs, v :: vs, us, n, h, hF => by
    obtain ⟨cs, us', rfl, hsz, rfl, h⟩ := h
    have key : ∀ (ys zs : List R1) (n : Nat) (cs us' : List Value), cs.length = ys.length → F2 (AL.R g) (toALs n (ys ++ zs)) (cs ++ us') → F2 (AL.R g) (toALs n ys) cs ∧ F2 (AL.R g) (toALs (n + ys.length) zs) us' := by
      intro ys
      induction ys with
      | nil =>
        intro zs n cs us' hl hF
        have : cs = [] := List.eq_nil_of_length_eq_zero hl
        subst this
        exact ⟨trivial, by simpa using hF⟩
      | cons y ys ih =>
        intro zs n cs us' hl hF
        match cs, hl with
        | c :: cs, hl =>
          have hF' : F2 (AL.R g) (y.toAL n :: toALs (n + 1) (ys ++ zs)) (c :: (cs ++ us')) := hF
          obtain ⟨h1, h2⟩ := ih zs (n + 1) cs us' (by simpa using hl) hF'.2
          exact ⟨⟨hF'.1, h1⟩, by simpa [Nat.add_assoc, Nat.add_comm 1] using h2⟩
    obtain ⟨h1, h2⟩ := key ys (rs.flatMap RV.flat) n cs.toList us' (by simpa using hsz) hF
    exact ⟨⟨cs, rfl, h1⟩, joined rs vs us' (n + ys.length) h h2⟩
theorem OutL.get {w : World} {base : Nat} {tag : Lab} : ∀ {rs : List R1} {us : List Value} {n : Nat}, OutL w base tag n rs us → rs.length = us.length ∧ ∀ (i : Nat) (r : R1), rs[i]? = some r → ∃ v, us[i]? = some v ∧ r.Out w base tag (n + i) v
  | [], [], n, _ => ⟨rfl, fun i r h => by simp at h⟩
  | r :: rs, u :: us, n, h => by
    obtain ⟨hl, hg⟩ := OutL.get h.2
    refine ⟨by simp [hl], fun i r' hi => ?_⟩
    cases i with
    | zero =>
      simp at hi
      subst hi
      exact ⟨u, rfl, h.1⟩
    | succ i =>
      simp at hi
      obtain ⟨v, hv, ho⟩ := hg i r' hi
      exact ⟨v, by simpa using hv, by rw [show n + (i + 1) = n + 1 + i from by omega]; exact ho⟩
/-- Behind a call: its results, as rows of the state's own. -/
theorem Mem.back {st : St} {g : Gh} {w w' : World} (hm : Mem st.boxes st.rows g w) {rvs : List RV} {vs : List Value} {tag : Lab} (hb : Below w.heap.size w w') (ho : Outs w' w.heap.size tag rvs vs) :
    ∃ g', g.le g' ∧ Mem (st.back .own rvs).boxes (st.back .own rvs).rows g' w' ∧ F2 (A1.R g') (toA1s st.rows.length rvs) vs := by
  obtain ⟨us, hs, hL⟩ := ho
  obtain ⟨hl, hg⟩ := hL.get
  have hlt : ∀ {b blk : Nat}, g.bx[b]? = some blk → blk < w.heap.size := by
    intro b blk hb
    have hbl : b < st.boxes.length := by rw [hm.bl]; exact (List.getElem?_eq_some_iff.1 hb).1
    obtain ⟨vs', hh, _⟩ := hm.box (List.getElem?_eq_getElem hbl) hb
    exact (Array.getElem?_eq_some_iff.1 hh).1
  have hk := hm.keep hb
  let tag' : Lab := fun k => if k < w.heap.size then g.tag k else (tag k).map fun x => (x.1 + st.rows.length, x.2)
  have hm' : Mem st.boxes st.rows ⟨g.bx, g.rw, tag', g.w0⟩ w' := by
    refine ⟨hk.bl, fun {b t cs blk} h1 h2 => ?_, fun {b blk} h1 => ⟨?_, (hk.free h1).2⟩, hk.inj, hk.rl, fun {r row v} h1 h2 => ?_, hk.below⟩
    · obtain ⟨vs', hh, hf⟩ := hk.box h1 h2
      exact ⟨vs', hh, hf.imp fun _ _ => AL.R_le ⟨fun h => h, fun h => h, rfl⟩⟩
    · show (if blk < w.heap.size then g.tag blk else _) = none
      rw [if_pos (hlt h1)]
      exact (hk.free h1).1
    · have h3 := (hm.row h1 h2).retag (bx := g.bx) (rw := g.rw) (tag := tag') (fun k m hkk ht => by show (if k < w.heap.size then g.tag k else _) = some (r, m); rw [if_pos hkk]; exact ht)
      unfold RowRel at h3 ⊢
      split
      · rename_i hmd; rw [hmd] at h3; exact h3
      · rename_i hmd; rw [hmd] at h3; exact Own.step h3 fun k m hkk _ => hb.block k hkk
      · trivial
  obtain ⟨g', hle, _, hm2, hF⟩ := Mem.addRows (md := .own) (g := ⟨g.bx, g.rw, tag', g.w0⟩) (fun n r v => r.Out w' g.w0.heap.size tag' n v) (fun g1 n r v h1 h2 hz => by
      cases r with
      | sc u => exact ⟨trivial, fun u' e => by injection e with e; rw [← e]; exact hz⟩
      | row e s xs =>
        refine ⟨?_, fun u e => by cases e⟩
        show Own s e w' g1.w0.heap.size g1.tag n [] v xs
        rw [h1, h2]
        exact hz) (rvs.flatMap RV.flat) us st.rows ⟨g.bx, g.rw, tag', g.w0⟩ rfl rfl hm' (fun i r hi => by
      obtain ⟨v, hv, ho⟩ := hg i r hi
      refine ⟨v, hv, ?_⟩
      cases r with
      | sc u => exact ho
      | row e s xs =>
        have ho' : Own s e w' w.heap.size tag (0 + i) [] v xs := ho
        refine Own.move ho' (fun k m _ hkb hl => ⟨rfl, ?_⟩) hm.below.size
        show (if k < w.heap.size then g.tag k else (tag k).map fun x => (x.1 + st.rows.length, x.2)) = some (st.rows.length + i, [] ++ m)
        rw [if_neg (by omega), hl]
        simp [Nat.add_comm]) hl
  exact ⟨g', ⟨fun h => hle.bx h, fun h => hle.rw h, hle.w0⟩, hm2, joined rvs vs us _ hs hF⟩
end Go.Proofs.Ytpfjklmobjjgpaa.Sim
