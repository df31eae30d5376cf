/- A walk by reckoning: code, loops. -/
import Derived.Test.YtmbcnpbgcfiafaaGreatVmT
import Derived.Test.YtmbcnpbgcfiafaaGreatVmRn
namespace Go.Proofs.YtmbcnpbgcfiafaaGreat.Vm
open Go Go.RowKit Go.Proofs.YtmbcnpbgcfiafaaGreatW.PrintWords
set_option linter.unusedVariables false
set_option linter.unusedSimpArgs false

inductive Ex where
  | normal
  | exit (id : Nat)
  | ret
def Ex.is : Ex → Exit → Prop
  | .normal, .normal => True
  | .exit i, .exit j => i = j
  | .ret, .ret => True
  | _, _ => False
def St.sure (st : St) (c : Operand) (b : Bool) : St :=
  match c with
  | .tmp t => st.put (some t) (.s1 (.one (.val (.bool b))))
  | _ => st
abbrev Kont (ρ : Type) := Ex → St → Option ρ
section
variable (P : Program) {ρ : Type} (G : Env)
def firstReg : Code → Option Nat
  | .region id _ _ => some id
  | .seq x y => (firstReg x).orElse fun _ => firstReg y
  | .cond _ x y => (firstReg x).orElse fun _ => firstReg y
  | .block _ x => firstReg x
  | .loop x => firstReg x
  | _ => none
def loopsOf : Code → List Code
  | .seq x y => loopsOf x ++ loopsOf y
  | .cond _ x y => loopsOf x ++ loopsOf y
  | .block _ x => loopsOf x
  | .loop x => [x]
  | _ => []
noncomputable def evC (L : Nat → St → Kont ρ → Option ρ) : Code → St → Kont ρ → Option ρ
  | .skip, st, k => k .normal st
  | .region _ ops draw, st, k => if draw = true then (if Region.noSelect ops = true ∧ P.follows .mixedOrders = true then drawA P G ops st fun st' => k .normal st' else none) else evOps P G ops ops.toList st fun st' => k .normal st'
  | .seq x y, st, k => evC L x st fun e st' =>
    match e with
    | .normal => evC L y st' k
    | e => k e st'
  | .cond c x y, st, k =>
    match st.eval c with
    | .s1 (.one (.val (.bool b))) => cond b (evC L x (st.sure c true) k) (evC L y (st.sure c false) k)
    | _ => none
  | .block id x, st, k => evC L x st fun e st' =>
    match e with
    | .exit i => if i = id then k .normal st' else k (.exit i) st'
    | e => k e st'
  | .exit id, st, k => k (.exit id) st
  | .ret, st, k => k .ret st
  | .loop x, st, k =>
    match firstReg x with
    | some id => L id st k
    | none => none
  | _, _, _ => none
end
section
variable {P : Program} {ρ : Type} {G : Env} {N : Nat × Nat} {st : St} {r : ρ} {g : Gh} {a : Act} {w : World}
def After (N : Nat × Nat) (g0 : Gh) (k : Kont ρ) (r : ρ) (e : Exit) (a : Act) (w : World) : Prop := ∃ ex st g, ex.is e ∧ g0.ext N g ∧ Rel st g a w ∧ k ex st = some r
theorem After.ext {g1 g2 : Gh} {k : Kont ρ} {e : Exit} (h : g1.ext N g2) (ha : After N g2 k r e a w) : After N g1 k r e a w := by
  obtain ⟨ex, st, g, h1, h2, h3⟩ := ha
  exact ⟨ex, st, g, h1, h.trans h2, h3⟩
theorem sure_rel {c : Operand} {b : Bool} (hR : Rel st g a w) (h : st.eval c = .s1 (.one (.val (.bool b)))) : Rel (st.sure c b) g a w := by
  cases c with
  | tmp t =>
    have hv : (a.eval (.tmp t)) = .bool b := val_get (eval_rel hR.tmps (.tmp t)) h
    refine ⟨?_, hR.defers, hR.mem⟩
    have := hR.tmps.set t (x := .s1 (.one (.val (.bool b)))) (y := .bool b) rfl
    have e : a.tmps.toList.set t (.bool b) = a.tmps.toList := by
      apply List.ext_getElem?
      intro i
      rw [List.getElem?_set]
      split
      · rename_i hi
        subst hi
        split
        · rename_i hlt
          have : a.tmps.getD t undef = .bool b := hv
          rw [Array.getD_eq_getD_getElem?] at this
          have h2 : a.tmps.toList[t]? = a.tmps[t]? := by simp
          rw [h2]
          have h3 : t < a.tmps.size := by simpa using hlt
          rw [Array.getElem?_eq_getElem h3] at this ⊢
          simp at this
          rw [this]
        · rename_i hlt
          rw [List.getElem?_eq_none (by omega)]
      · rfl
    rw [e] at this
    exact this
  | const v => exact hR
  | global g => exact hR
  | func f => exact hR
def LoopOk (P : Program) (N : Nat × Nat) (x : Code) (L : St → Kont ρ → Option ρ) : Prop := ∀ (r : ρ) (st : St) (k : Kont ρ) (g : Gh) (a : Act) (w : World), L st k = some r → Rel st g a w → (Code.loop x).wp P (After N g k r) a w
theorem evC_sound (hG : ∀ f E, G f = some E → Good P f E.F) {L : Nat → St → Kont ρ → Option ρ} :
    ∀ (c : Code) (hL : ∀ x ∈ loopsOf c, ∀ id, firstReg x = some id → LoopOk P N x (L id)) (st : St) (k : Kont ρ) (g : Gh) (a : Act) (w : World), evC P G L c st k = some r → Rel st g a w → c.wp P (After N g k r) a w
  | .skip, hL, st, k, g, a, w, h, hR => wp_skip ⟨.normal, st, g, trivial, .refl _ _, hR, h⟩
  | .region id ops draw, hL, st, k, g, a, w, h, hR => by
    unfold evC at h
    split at h
    · rename_i hd
      subst hd
      split at h
      · rename_i hc
        have hb : Below w.heap.size w { w with drawn := w.drawn + 1 } := ⟨rfl, rfl, rfl, Nat.le_refl _, fun _ _ => rfl⟩
        have hR' : Rel st g a { w with drawn := w.drawn + 1 } := ⟨hR.tmps, hR.defers, hR.mem.keep hb⟩
        exact wp_region_any hc.2 (drawA_sound (N := N) hG (fun c a w => by
          rintro ⟨ex, st', g', hex, _⟩
          cases ex <;> exact hex) hc.1 h hR' fun st' g' a' w' hw' hR' h' => ⟨.normal, st', g', trivial, hw', hR', h'⟩)
      · cases h
    · rename_i hd
      have : draw = false := by simpa using hd
      subst this
      exact wp_region_list (evOps_sound (N := N) hG ops.toList st g a w h hR fun st' g' a' w' hw' hR' h' => ⟨.normal, st', g', trivial, hw', hR', h'⟩)
  | .seq x y, hL, st, k, g, a, w, h, hR => by
    unfold evC at h
    refine wp_seq (wp_mono (evC_sound hG x (fun z hz => hL z (by simp [loopsOf, hz])) st _ g a w h hR) ?_)
    rintro e a' w' ⟨ex, st', g', hex, hw', hR', h'⟩
    cases ex with
    | normal => cases e <;> first | exact hex.elim | exact wp_mono (evC_sound hG y (fun z hz => hL z (by simp [loopsOf, hz])) st' k g' a' w' h' hR') (fun _ _ _ h => h.ext hw')
    | exit i => cases e <;> first | exact hex.elim | exact ⟨.exit i, st', g', hex, hw', hR', h'⟩
    | ret => cases e <;> first | exact hex.elim | exact ⟨.ret, st', g', hex, hw', hR', h'⟩
  | .cond c x y, hL, st, k, g, a, w, h, hR => by
    unfold evC at h
    split at h
    · rename_i b hb
      have hv := val_get (eval_rel hR.tmps c) hb
      have hR1 := sure_rel hR hb
      rcases cond_some h with ⟨rfl, h⟩ | ⟨rfl, h⟩
      · exact wp_cond_true hv (evC_sound hG x (fun z hz => hL z (by simp [loopsOf, hz])) _ k g a w h hR1)
      · exact wp_cond_false hv (evC_sound hG y (fun z hz => hL z (by simp [loopsOf, hz])) _ k g a w h hR1)
    · cases h
  | .block id x, hL, st, k, g, a, w, h, hR => by
    unfold evC at h
    refine wp_block (wp_mono (evC_sound hG x (fun z hz => hL z (by simp [loopsOf, hz])) st _ g a w h hR) ?_)
    rintro e a' w' ⟨ex, st', g', hex, hw', hR', h'⟩
    cases ex with
    | normal => cases e <;> first | exact hex.elim | exact ⟨.normal, st', g', trivial, hw', hR', h'⟩
    | exit i =>
      cases e <;> first
        | exact hex.elim
        | (rename_i j
           obtain rfl : i = j := hex
           simp only at h'
           by_cases hi : i = id
           · rw [if_pos hi] at h'
             simp only [Exit.inBlock, hi, if_true]
             exact ⟨.normal, st', g', trivial, hw', hR', h'⟩
           · rw [if_neg hi] at h'
             simp only [Exit.inBlock, hi, if_false]
             exact ⟨.exit i, st', g', rfl, hw', hR', h'⟩)
    | ret => cases e <;> first | exact hex.elim | exact ⟨.ret, st', g', trivial, hw', hR', h'⟩
  | .exit id, hL, st, k, g, a, w, h, hR => wp_exit ⟨.exit id, st, g, rfl, .refl _ _, hR, h⟩
  | .ret, hL, st, k, g, a, w, h, hR => wp_ret ⟨.ret, st, g, trivial, .refl _ _, hR, h⟩
  | .loop x, hL, st, k, g, a, w, h, hR => by
    unfold evC at h
    split at h
    · rename_i id hid
      exact hL x (by simp [loopsOf]) id hid r st k g a w h hR
    · cases h
  | .rangeFunc _ _ _ _, hL, st, k, g, a, w, h, hR => by simp [evC] at h
  | .scope _, hL, st, k, g, a, w, h, hR => by simp [evC] at h
  | .label _, hL, st, k, g, a, w, h, hR => by simp [evC] at h
  | .goto _, hL, st, k, g, a, w, h, hR => by simp [evC] at h
  | .refuse _, hL, st, k, g, a, w, h, hR => by simp [evC] at h
end

def erase (dead : List Nat) (n : Nat) : List AV → List AV
  | [] => []
  | x :: xs => (if dead.contains n then .s1 (.one .unk) else x) :: erase dead (n + 1) xs
def bxs (bs : List (TypeId × List AL)) (ub ur : List Nat) : List Nat → Option (List (TypeId × List AL))
  | [] => some []
  | i :: us =>
    match bs[i]?, bxs bs ub ur us with
    | some bc, some ys => some ((bc.1, bc.2.map (AL.map (fun b => ub.idxOf? b) (fun r => ur.idxOf? r))) :: ys)
    | _, _ => none
def Md.ren (ur : List Nat) : Md → Option Md
  | .brw q => (ur.idxOf? q).map .brw
  | .sub q _ _ _ => (ur.idxOf? q).map .brw
  | md => some md
def rws (rs : List Row) (ur : List Nat) : List Nat → Option (List Row)
  | [] => some []
  | i :: us =>
    match rs[i]?, rws rs ur us with
    | some row, some ys =>
      match row.md.ren ur with
      | some md => some ({ row with md := md } :: ys)
      | none => none
    | _, _ => none
def kept (n : Nat) (us : List Nat) : Bool := (List.range n).all fun i => decide (us[i]? = some i)
def St.pick (N : Nat × Nat) (st : St) (ub ur : List Nat) : Option St :=
  if fresh ub = true ∧ fresh ur = true ∧ kept N.1 ub = true ∧ kept N.2 ur = true then
    match bxs st.boxes ub ur ub, rws st.rows ur ur with
    | some bs, some rs => some ⟨st.tmps.map (AV.map (fun b => ub.idxOf? b) (fun r => ur.idxOf? r)), bs, rs⟩
    | _, _ => none
  else none
def Row.wipe (row : Row) : Row :=
  match row.md with
  | .dead => { row with xs := [] }
  | _ => row
def St.wipe (st : St) : St := ⟨st.tmps, st.boxes, st.rows.map Row.wipe⟩
def St.gcB (N : Nat × Nat) (st : St) : List Nat := st.reach (((st.tmps.flatMap AV.all).flatMap AL.bOf).foldl addNew (List.range N.1)) 3
def St.rootsOf (st : St) (rs : List Nat) : List Nat := rs.flatMap fun r =>
  match st.rows[r]? with
  | some row =>
    match row.md with
    | .brw q => [q]
    | .sub q _ _ _ => [q]
    | _ => []
  | none => []
def St.gcR (N : Nat × Nat) (st : St) (ub : List Nat) : List Nat :=
  let us := (((st.tmps.flatMap AV.all) ++ st.cellsOf ub).flatMap AL.rOf).foldl addNew (List.range N.2)
  (st.rootsOf us).foldl addNew us
def St.gc (N : Nat × Nat) (st : St) : Option St := (st.pick N (st.gcB N) (st.gcR N (st.gcB N))).map St.wipe
section
theorem bxs_get {bs : List (TypeId × List AL)} {ub ur : List Nat} : ∀ {us : List Nat} {ys : List (TypeId × List AL)}, bxs bs ub ur us = some ys → ys.length = us.length ∧ ∀ {i b : Nat}, us[i]? = some b → ∃ bc, bs[b]? = some bc ∧ ys[i]? = some (bc.1, bc.2.map (AL.map (fun b => ub.idxOf? b) (fun r => ur.idxOf? r)))
  | [], ys, h => by
    simp only [bxs, Option.some.injEq] at h
    subst h
    exact ⟨rfl, fun h => by simp at h⟩
  | u :: us, ys, h => by
    simp only [bxs] at h
    split at h
    · rename_i bc ys1 h1 h2
      simp only [Option.some.injEq] at h
      subst h
      obtain ⟨hl, hg⟩ := bxs_get h2
      refine ⟨by simp [hl], fun {i b} hi => ?_⟩
      cases i with
      | zero =>
        simp at hi
        subst hi
        exact ⟨bc, h1, rfl⟩
      | succ i =>
        simp at hi
        simpa using hg hi
    · cases h
theorem rws_get {rs : List Row} {ur : List Nat} : ∀ {us : List Nat} {ys : List Row}, rws rs ur us = some ys → ys.length = us.length ∧ ∀ {i r : Nat}, us[i]? = some r → ∃ row md, rs[r]? = some row ∧ row.md.ren ur = some md ∧ ys[i]? = some { row with md := md }
  | [], ys, h => by
    simp only [rws, Option.some.injEq] at h
    subst h
    exact ⟨rfl, fun h => by simp at h⟩
  | u :: us, ys, h => by
    simp only [rws] at h
    split at h
    · rename_i row ys1 h1 h2
      split at h
      · rename_i md hmd
        simp only [Option.some.injEq] at h
        subst h
        obtain ⟨hl, hg⟩ := rws_get h2
        refine ⟨by simp [hl], fun {i b} hi => ?_⟩
        cases i with
        | zero =>
          simp at hi
          subst hi
          exact ⟨row, md, h1, hmd, rfl⟩
        | succ i =>
          simp at hi
          simpa using hg hi
      · cases h
    · cases h
theorem kept_get {n : Nat} {us : List Nat} (h : kept n us = true) {i : Nat} (hi : i < n) : us[i]? = some i := by
  unfold kept at h
  rw [List.all_eq_true] at h
  simpa using h i (List.mem_range.2 hi)
theorem pick_rel {N : Nat × Nat} {st st' : St} {ub ur : List Nat} {g : Gh} {a : Act} {w : World} (hR : Rel st g a w) (h : st.pick N ub ur = some st') : ∃ g', g.ext N g' ∧ Rel st' g' a w := by
  unfold St.pick at h
  split at h
  · rename_i hf
    obtain ⟨hf1, hf2, hk1, hk2⟩ := hf
    split at h
    · rename_i bs rs hb hr
      simp only [Option.some.injEq] at h
      subst h
      obtain ⟨hbl, hbg⟩ := bxs_get hb
      obtain ⟨hrl, hrg⟩ := rws_get hr
      let g' : Gh := ⟨ub.map fun b => g.bx.getD b 0, ur.map fun r => g.rw.getD r undef, fun k => (g.tag k).bind fun x => (ur.idxOf? x.1).map fun i => (i, x.2), g.wz, g.lent, g.w0, g.rz⟩
      have hm := hR.mem
      have hbx : ∀ {i b x : Nat}, ub[i]? = some b → g.bx[b]? = some x → g'.bx[i]? = some x := by
        intro i b x h1 h2
        show (ub.map fun b => g.bx.getD b 0)[i]? = some x
        simp [h1, h2]
      have hrw : ∀ {i r : Nat} {v : Value}, ur[i]? = some r → g.rw[r]? = some v → g'.rw[i]? = some v := by
        intro i r v h1 h2
        show (ur.map fun r => g.rw.getD r undef)[i]? = some v
        simp [h1, h2]
      have hren : Ren g g' (fun b => ub.idxOf? b) (fun r => ur.idxOf? r) := ⟨fun h1 h2 => hbx (idx_get h1) h2, fun h1 h2 => hrw (idx_get h1) h2⟩
      have bx_inv : ∀ {i blk : Nat}, g'.bx[i]? = some blk → ∃ b, ub[i]? = some b ∧ g.bx[b]? = some blk := by
        intro i blk hx
        have hx' : (ub.map fun b => g.bx.getD b 0)[i]? = some blk := hx
        rw [List.getElem?_map, Option.map_eq_some_iff] at hx'
        obtain ⟨b, hb1, hb2⟩ := hx'
        obtain ⟨bc, hbc, _⟩ := hbg hb1
        have : b < g.bx.length := by rw [← hm.bl]; exact (List.getElem?_eq_some_iff.1 hbc).1
        refine ⟨b, hb1, ?_⟩
        rw [List.getD_eq_getElem?_getD, List.getElem?_eq_getElem this] at hb2
        rw [List.getElem?_eq_getElem this]
        simpa using hb2
      have tagOf : ∀ {k q : Nat} {p : List Nat} {i : Nat}, ur.idxOf? q = some i → g.tag k = some (q, p) → g'.tag k = some (i, p) := by
        intro k q p i hi hk
        show (g.tag k).bind (fun x => (ur.idxOf? x.1).map fun i => (i, x.2)) = some (i, p)
        rw [hk]
        simp only [Option.bind_some, hi, Option.map_some]
      refine ⟨g', ⟨fun hi h1 => hbx (kept_get hk1 hi) h1, fun hi h1 => hrw (kept_get hk2 hi) h1, rfl, fun h => h, fun h => h, fun h => .inl h⟩, F2.map_ (f := AV.map _ _) (fun _ _ => AV.map_rel hren) hR.tmps, hR.defers, by simp [g', hbl], fun {b t cs blk} h1 h2 => ?_, fun {b blk} h1 => ?_, fun {b b' blk} h1 h2 => ?_, by simp [g', hrl], fun {r row v} h1 h2 => ?_, hm.st.mono rfl (fun _ => rfl) rfl, fun {k x} hk => ?_⟩
      · obtain ⟨b0, hb0, hblk⟩ := bx_inv h2
        obtain ⟨bc, hbc, hy⟩ := hbg hb0
        rw [h1] at hy
        simp only [Option.some.injEq, Prod.mk.injEq] at hy
        obtain ⟨rfl, rfl⟩ := hy
        obtain ⟨vs, hh, hF⟩ := hm.box (t := bc.1) (cs := bc.2) hbc hblk
        exact ⟨vs, hh, F2.map_ (f := AL.map _ _) (fun _ _ => AL.map_rel hren) hF⟩
      · obtain ⟨b0, hb0, hblk⟩ := bx_inv h1
        refine ⟨?_, (hm.free hblk).2⟩
        show (g.tag blk).bind _ = none
        rw [(hm.free hblk).1]
        rfl
      · obtain ⟨b0, hb0, hblk⟩ := bx_inv h1
        obtain ⟨b1, hb1, hblk1⟩ := bx_inv h2
        have := hm.inj hblk hblk1
        subst this
        have e1 := fresh_idx hf1 hb0
        have e2 := fresh_idx hf1 hb1
        rw [e1] at e2
        exact Option.some.inj e2
      · have hr1 : r < ur.length := by rw [← hrl]; exact (List.getElem?_eq_some_iff.1 h1).1
        obtain ⟨row', md', hrow, hmd', hy⟩ := hrg (List.getElem?_eq_getElem hr1)
        rw [h1] at hy
        simp only [Option.some.injEq] at hy
        subst hy
        have hlt : ur[r] < g.rw.length := by rw [← hm.rl]; exact (List.getElem?_eq_some_iff.1 hrow).1
        have hv : g.rw[ur[r]]? = some v := by
          have h2' : (ur.map fun r => g.rw.getD r undef)[r]? = some v := h2
          rw [List.getElem?_map, List.getElem?_eq_getElem hr1] at h2'
          rw [List.getElem?_eq_getElem hlt]
          simpa [List.getD_eq_getElem?_getD, List.getElem?_eq_getElem hlt] using h2'
        have := hm.row hrow hv
        unfold RowRel at this ⊢
        unfold Md.ren at hmd'
        split at hmd'
        · rename_i q hmd
          rw [hmd] at this
          obtain ⟨i, hi, rfl⟩ := Option.map_eq_some_iff.1 hmd'
          obtain ⟨p, this⟩ := this
          exact ⟨p, Own.move this (fun k m _ _ hk => ⟨rfl, tagOf hi hk⟩) (Nat.le_refl _) (fun _ _ h => h)⟩
        · rename_i q _ _ _ hmd
          rw [hmd] at this
          obtain ⟨i, hi, rfl⟩ := Option.map_eq_some_iff.1 hmd'
          exact ⟨_, Own.move this.1 (fun k m _ _ hk => ⟨rfl, tagOf hi hk⟩) (Nat.le_refl _) (fun _ _ h => h)⟩
        · rename_i hne hne2
          simp only [Option.some.injEq] at hmd'
          subst hmd'
          split at this
          · rename_i hmd
            simp only [hmd]
            exact this
          · rename_i hmd
            simp only [hmd]
            exact this
          · rename_i hmd
            simp only [hmd]
            exact Own.move this (fun k m _ _ hk => ⟨rfl, tagOf (fresh_idx hf2 (List.getElem?_eq_getElem hr1)) hk⟩) (Nat.le_refl _) (fun _ _ h => h)
          · rename_i q hmd
            exact absurd hmd (fun e => hne q e)
          · rename_i q _ _ _ hmd
            exact absurd hmd (fun e => hne2 q _ _ _ e)
          · rename_i hd hmd
            simp only [hmd]
            exact this
          · rename_i hmd
            simp only [hmd]
            exact this
      · have hk' : (g.tag k).bind (fun x => (ur.idxOf? x.1).map fun i => (i, x.2)) = some x := hk
        obtain ⟨y, hy, _⟩ := Option.bind_eq_some_iff.1 hk'
        exact hm.dom hy
    · cases h
  · cases h
theorem gc_rel {N : Nat × Nat} {st st' : St} {g : Gh} {a : Act} {w : World} (hR : Rel st g a w) (h : st.gc N = some st') : ∃ g', g.ext N g' ∧ Rel st' g' a w := by
  obtain ⟨st1, h1, rfl⟩ := Option.map_eq_some_iff.1 h
  obtain ⟨g', hext, hR1⟩ := pick_rel hR h1
  refine ⟨g', hext, hR1.tmps, hR1.defers, hR1.mem.weaker (List.length_map ..) fun {i row} hi => ?_⟩
  have hi : (st1.rows.map Row.wipe)[i]? = some row := hi
  rw [List.getElem?_map] at hi
  obtain ⟨row0, h2, rfl⟩ := Option.map_eq_some_iff.1 hi
  unfold Row.wipe
  split
  · rename_i hmd
    exact .inl hmd
  · exact .inr h2
theorem erase_rel {g : Gh} {dead : List Nat} : ∀ {xs : List AV} {vs : List Value} (n : Nat), F2 (AV.R g) xs vs → F2 (AV.R g) (erase dead n xs) vs
  | [], [], _, _ => trivial
  | x :: xs, v :: vs, n, h => by
    refine ⟨?_, erase_rel (n + 1) h.2⟩
    split
    · exact trivial
    · exact h.1
end
def nilRows (P : Program) : List (Nat × TypeId) → St → St
  | [], st => st
  | x :: rest, st =>
    match st.tmps[x.1]?, shTy P 20 x.2 with
    | some (.s1 (.one (.val (.slice none 0 0)))), some s => nilRows P rest ⟨st.tmps.set x.1 (.s1 (.one (.sl st.rows.length))), st.boxes, st.rows ++ [⟨x.2, s, [], .own⟩]⟩
    | _, _ => nilRows P rest st
def nilCells (P : Program) : List (Nat × Nat × TypeId) → St → St
  | [], st => st
  | x :: rest, st =>
    match st.tmps[x.1]? with
    | some (.s1 (.one (.ptr b off))) =>
      match st.boxes[b]?, shTy P 20 x.2.2 with
      | some bc, some s =>
        match bc.2[off + x.2.1]? with
        | some (.val (.slice none 0 0)) => nilCells P rest ⟨st.tmps, st.boxes.set b (bc.1, bc.2.set (off + x.2.1) (.sl st.rows.length)), st.rows ++ [⟨x.2.2, s, [], .own⟩]⟩
        | _ => nilCells P rest st
      | _, _ => nilCells P rest st
    | _ => nilCells P rest st
theorem nilCells_rel {P : Program} {a : Act} {w : World} : ∀ (l : List (Nat × Nat × TypeId)) (st : St) (g : Gh), Rel st g a w → ∃ g', g.le g' ∧ Rel (nilCells P l st) g' a w
  | [], st, g, hR => ⟨g, .refl _, hR⟩
  | x :: rest, st, g, hR => by
    unfold nilCells
    split
    · rename_i b off _
      split
      · rename_i bc s hbc hs
        split
        · rename_i hx
          obtain ⟨g1, hle, hrw, _, _, hm⟩ := hR.mem.addRow ⟨x.2.2, s, [], .own⟩ (.slice none 0 0) (Own.nil s x.2.2 g.rz w 0 g.tag st.rows.length [])
          have hR1 : Rel (⟨st.tmps, st.boxes.set b (bc.1, bc.2.set (off + x.2.1) (.sl st.rows.length)), st.rows ++ [⟨x.2.2, s, [], .own⟩]⟩ : St) g1 a w := by
            refine ⟨hR.tmps.imp fun _ _ => AV.R_le hle, hR.defers, by rw [List.length_set]; exact hm.bl, fun {b' t' cs blk} h1 h2 => ?_, hm.free, hm.inj, hm.rl, hm.row, hm.st, hm.dom⟩
            by_cases e : b' = b
            · subst e
              rw [List.getElem?_set_self (List.getElem?_eq_some_iff.1 hbc).1] at h1
              injection h1 with h1
              injection h1 with h1 h3
              subst h1; subst h3
              obtain ⟨vs, hh, hF⟩ := hm.box (t := bc.1) (cs := bc.2) hbc h2
              refine ⟨vs, hh, ?_⟩
              obtain ⟨v, hv, hr⟩ := hF.get hx
              obtain rfl : v = .slice none 0 0 := hr
              have h4 := hF.set (off + x.2.1) (x := .sl st.rows.length) (y := .slice none 0 0) (by
                show g1.rw[st.rows.length]? = _
                rw [hrw, hR.mem.rl]
                simp)
              have e : vs.toList.set (off + x.2.1) (.slice none 0 0) = vs.toList := by
                apply List.ext_getElem?
                intro i
                rw [List.getElem?_set]
                split
                · rename_i hi
                  subst hi
                  rw [hv, if_pos (List.getElem?_eq_some_iff.1 hv).1]
                · rfl
              rw [e] at h4
              exact h4
            · rw [List.getElem?_set_ne (Ne.symm e)] at h1
              exact hm.box h1 h2
          obtain ⟨g2, h2, h3⟩ := nilCells_rel rest _ g1 hR1
          exact ⟨g2, hle.trans h2, h3⟩
        · exact nilCells_rel rest st g hR
      · exact nilCells_rel rest st g hR
    · exact nilCells_rel rest st g hR
theorem Sh.shar_sz : ∀ s : Sh, s.shar.sz = s.sz
  | .int _ | .bool | .str | .sl _ _ | .rs _ _ | .hr _ _ | .hv => rfl
  | .pair a b => by show a.shar.sz + b.shar.sz = a.sz + b.sz; rw [a.shar_sz, b.shar_sz]
def Row.share : Row → Row
  | ⟨e, s, [], .own⟩ => ⟨e, s.shar, [], .own⟩
  | r => r
def shareRows : List Nat → St → St
  | [], st => st
  | t :: rest, st =>
    match st.tmps[t]? with
    | some (.s1 (.one (.sl r))) =>
      match st.rows[r]? with
      | some row => cond row.s.shal (shareRows rest st) (shareRows rest ⟨st.tmps, st.boxes, st.rows.set r row.share⟩)
      | none => shareRows rest st
    | _ => shareRows rest st
theorem share_rel {g : Gh} {w : World} {r : Nat} {row : Row} {v : Value} (h : RowRel g w r row v) : RowRel g w r row.share v := by
  unfold Row.share
  split
  · rename_i e s
    have h' : Own s e g.rz w 0 g.tag r [] v [] := h
    obtain ⟨h1, inner, h2, h3⟩ := h'
    exact ⟨h1, inner, by rw [Sh.shar_sz]; exact h2, fun i x hx => by simp at hx⟩
  · exact h
theorem shareRows_rel {a : Act} {w : World} {g : Gh} : ∀ (l : List Nat) (st : St), Rel st g a w → Rel (shareRows l st) g a w
  | [], st, hR => hR
  | t :: rest, st, hR => by
    unfold shareRows
    split
    · rename_i r _
      split
      · rename_i row hrow
        cases row.s.shal
        · refine shareRows_rel rest _ ⟨hR.tmps, hR.defers, hR.mem.bl, hR.mem.box, hR.mem.free, hR.mem.inj, by rw [List.length_set]; exact hR.mem.rl, fun {r' row' v'} h1 h2 => ?_, hR.mem.st, hR.mem.dom⟩
          by_cases e : r' = r
          · subst e
            rw [List.getElem?_set_self (List.getElem?_eq_some_iff.1 hrow).1] at h1
            injection h1 with h1
            subst h1
            exact share_rel (hR.mem.row hrow h2)
          · rw [List.getElem?_set_ne (Ne.symm e)] at h1
            exact hR.mem.row h1 h2
        · exact shareRows_rel rest st hR
      · exact shareRows_rel rest st hR
    · exact shareRows_rel rest st hR
def St.atP (st : St) (p : Nat × Nat) : List Nat :=
  match st.tmps[p.1]? with
  | some (.s1 (.one (.ptr b off))) =>
    match st.boxes[b]? with
    | some bc =>
      match bc.2[off + p.2]? with
      | some x => x.rOf
      | none => []
    | none => []
  | some (.s1 (.one x)) => x.rOf
  | some (.s1 (.agg xs)) =>
    match xs[p.2]? with
    | some x => x.rOf
    | none => []
  | _ => []
def St.frzAt (ps : List (Nat × Nat)) (st : St) : St :=
  match ps with
  | [] => st
  | p :: ps => st.freeze (st.rootIds ((p :: ps).flatMap st.atP))
theorem frzAt_rel {st : St} {g : Gh} {a : Act} {w : World} (ps : List (Nat × Nat)) (hR : Rel st g a w) : ∃ g', g.le g' ∧ Rel (st.frzAt ps) g' a w := by
  cases ps with
  | nil => exact ⟨g, .refl g, hR⟩
  | cons p ps => exact freeze_rel _ hR
def St.clean (P : Program) (N : Nat × Nat) (dead : List Nat) (nils : List (Nat × TypeId)) (shs : List Nat) (bns : List (Nat × Nat × TypeId)) (frz : List (Nat × Nat)) (rn : List Nat) (st : St) : Option St := (St.renew rn (shareRows shs (St.frzAt frz (nilCells P bns (nilRows P nils ({ st with tmps := erase dead 0 st.tmps } : St)))))).gc N
theorem nilRows_rel {P : Program} {a : Act} {w : World} : ∀ (l : List (Nat × TypeId)) (st : St) (g : Gh), Rel st g a w → ∃ g', g.le g' ∧ Rel (nilRows P l st) g' a w
  | [], st, g, hR => ⟨g, .refl _, hR⟩
  | x :: rest, st, g, hR => by
    unfold nilRows
    split
    · rename_i s hx hs
      obtain ⟨v, hv, hr⟩ := hR.tmps.get hx
      obtain rfl : v = .slice none 0 0 := hr
      obtain ⟨g1, hle, hrw, _, _, hm⟩ := hR.mem.addRow ⟨x.2, s, [], .own⟩ (.slice none 0 0) (Own.nil s x.2 g.rz w 0 g.tag st.rows.length [])
      have hF : F2 (AV.R g1) (st.tmps.set x.1 (.s1 (.one (.sl st.rows.length)))) a.tmps.toList := by
        have h1 := (hR.tmps.imp fun _ _ => AV.R_le hle).set x.1 (x := .s1 (.one (.sl st.rows.length))) (y := .slice none 0 0) (by
          show g1.rw[st.rows.length]? = _
          rw [hrw, hR.mem.rl]
          simp)
        have e : a.tmps.toList.set x.1 (.slice none 0 0) = a.tmps.toList := by
          apply List.ext_getElem?
          intro i
          rw [List.getElem?_set]
          split
          · rename_i hi
            subst hi
            rw [hv, if_pos (List.getElem?_eq_some_iff.1 hv).1]
          · rfl
        rw [e] at h1
        exact h1
      obtain ⟨g2, h2, h3⟩ := nilRows_rel rest ⟨st.tmps.set x.1 (.s1 (.one (.sl st.rows.length))), st.boxes, st.rows ++ [⟨x.2, s, [], .own⟩]⟩ g1 ⟨hF, hR.defers, hm⟩
      exact ⟨g2, hle.trans h2, h3⟩
    · exact nilRows_rel rest st g hR
theorem clean_rel {P : Program} {N : Nat × Nat} {dead : List Nat} {nils : List (Nat × TypeId)} {shs : List Nat} {bns : List (Nat × Nat × TypeId)} {frz : List (Nat × Nat)} {rn : List Nat} {st st1 : St} {g : Gh} {a : Act} {w : World} (hR : Rel st g a w) (h : st.clean P N dead nils shs bns frz rn = some st1) : ∃ g', g.ext N g' ∧ Rel st1 g' a w := by
  have hR0 : Rel ({ st with tmps := erase dead 0 st.tmps } : St) g a w := ⟨erase_rel 0 hR.tmps, hR.defers, hR.mem⟩
  obtain ⟨g0, hw0, hR0⟩ := nilRows_rel (P := P) nils _ g hR0
  obtain ⟨g00, hw00, hR0⟩ := nilCells_rel (P := P) bns _ g0 hR0
  obtain ⟨g2, hw2, hR2⟩ := frzAt_rel frz hR0
  obtain ⟨g3, hw3, hR3⟩ := renew_rel rn (shareRows_rel shs _ hR2)
  obtain ⟨g1, hw1, hR1⟩ := gc_rel hR3 h
  exact ⟨g1, (((hw0.trans hw00).trans hw2).trans hw3).ext.trans hw1, hR1⟩

inductive Prm where
  | v (x : Value)
  | i (x : Int)
  | row (s : Sh) (xs : List s.den)
inductive SL where
  | unk
  | hole
  | ptr (b off : Nat)
  | sl (r : Nat)
  | ept (r sz off : Nat)
  | vw (r sz : Nat)
  | fn (f : FuncId) (caps : List (Nat × Nat))
  | err
  | hs
inductive SV where
  | one (x : SL)
  | agg (xs : List SL)
structure Skel where
  tmps : List SV
  boxes : List (TypeId × List SL)
  rows : List (TypeId × Sh × Md)
def SL.mt : SL → AL → Option (List Prm)
  | .unk, .unk => some []
  | .hole, .val v => some [.v v]
  | .ptr b off, .ptr b' off' => if b = b' ∧ off = off' then some [] else none
  | .sl r, .sl r' => if r = r' then some [] else none
  | .ept r sz off, .ept r' sz' i off' => if r = r' ∧ sz = sz' ∧ off = off' then some [.i i] else none
  | .vw r sz, .vw r' sz' lo hi => if r = r' ∧ sz = sz' then some [.i lo, .i hi] else none
  | .fn f cs, .fn f' cs' => if f = f' ∧ cs = cs' then some [] else none
  | .err, .err b => some [.v (.bool b)]
  | .hs, .hs => some []
  | _, _ => none
def SL.fl : SL → List Prm → Option (AL × List Prm)
  | .unk, ps => some (.unk, ps)
  | .hole, .v v :: ps => some (.val v, ps)
  | .ptr b off, ps => some (.ptr b off, ps)
  | .sl r, ps => some (.sl r, ps)
  | .ept r sz off, .i i :: ps => some (.ept r sz i off, ps)
  | .vw r sz, .i lo :: .i hi :: ps => some (.vw r sz lo hi, ps)
  | .fn f cs, ps => some (.fn f cs, ps)
  | .err, .v (.bool b) :: ps => some (.err b, ps)
  | .hs, ps => some (.hs, ps)
  | _, _ => none
def mtL : List SL → List AL → Option (List Prm)
  | [], [] => some []
  | s :: ss, x :: xs =>
    match s.mt x, mtL ss xs with
    | some a, some b => some (a ++ b)
    | _, _ => none
  | _, _ => none
def flL : List SL → List Prm → Option (List AL × List Prm)
  | [], ps => some ([], ps)
  | s :: ss, ps =>
    match s.fl ps with
    | some x =>
      match flL ss x.2 with
      | some y => some (x.1 :: y.1, y.2)
      | none => none
    | none => none
def mtV : List SV → List AV → Option (List Prm)
  | [], [] => some []
  | .one s :: ss, .s1 (.one x) :: xs =>
    match s.mt x, mtV ss xs with
    | some a, some b => some (a ++ b)
    | _, _ => none
  | .agg s :: ss, .s1 (.agg x) :: xs =>
    match mtL s x, mtV ss xs with
    | some a, some b => some (a ++ b)
    | _, _ => none
  | _, _ => none
def flV : List SV → List Prm → Option (List AV × List Prm)
  | [], ps => some ([], ps)
  | .one s :: ss, ps =>
    match s.fl ps with
    | some x =>
      match flV ss x.2 with
      | some y => some (.s1 (.one x.1) :: y.1, y.2)
      | none => none
    | none => none
  | .agg s :: ss, ps =>
    match flL s ps with
    | some x =>
      match flV ss x.2 with
      | some y => some (.s1 (.agg x.1) :: y.1, y.2)
      | none => none
    | none => none
def mtB : List (TypeId × List SL) → List (TypeId × List AL) → Option (List Prm)
  | [], [] => some []
  | s :: ss, x :: xs =>
    if s.1 = x.1 then
      match mtL s.2 x.2, mtB ss xs with
      | some a, some b => some (a ++ b)
      | _, _ => none
    else none
  | _, _ => none
def flB : List (TypeId × List SL) → List Prm → Option (List (TypeId × List AL) × List Prm)
  | [], ps => some ([], ps)
  | s :: ss, ps =>
    match flL s.2 ps with
    | some x =>
      match flB ss x.2 with
      | some y => some ((s.1, x.1) :: y.1, y.2)
      | none => none
    | none => none
def mtR : List (TypeId × Sh × Md) → List Row → Option (List Prm)
  | [], [] => some []
  | s :: ss, x :: xs =>
    if s.1 = x.e ∧ s.2.2.same x.md = true then
      match rowAs x s.2.1, mtR ss xs with
      | some a, some b => some (.row s.2.1 a :: b)
      | _, _ => none
    else none
  | _, _ => none
def flR : List (TypeId × Sh × Md) → List Prm → Option (List Row × List Prm)
  | [], ps => some ([], ps)
  | s :: ss, .row s' xs :: ps =>
    match rowAs ⟨0, s', xs, .dead⟩ s.2.1, flR ss ps with
    | some xs, some y => some (⟨s.1, s.2.1, xs, s.2.2⟩ :: y.1, y.2)
    | _, _ => none
  | _, _ => none
def Skel.mt (sk : Skel) (st : St) : Option (List Prm) :=
  match mtV sk.tmps st.tmps, mtB sk.boxes st.boxes, mtR sk.rows st.rows with
  | some a, some b, some c => some (a ++ (b ++ c))
  | _, _, _ => none
def Skel.fl (sk : Skel) (ps : List Prm) : Option St :=
  match flV sk.tmps ps with
  | none => none
  | some x =>
    match flB sk.boxes x.2 with
    | none => none
    | some y =>
      match flR sk.rows y.2 with
      | none => none
      | some z => some ⟨x.1, y.1, z.1⟩
theorem SL.mt_fl {s : SL} {x : AL} {ps : List Prm} (h : s.mt x = some ps) (qs : List Prm) : s.fl (ps ++ qs) = some (x, qs) := by
  unfold SL.mt at h
  split at h
  · simp only [Option.some.injEq] at h; subst h; rfl
  · simp only [Option.some.injEq] at h; subst h; rfl
  · split at h
    · rename_i hc; obtain ⟨rfl, rfl⟩ := hc; simp only [Option.some.injEq] at h; subst h; rfl
    · cases h
  · split at h
    · rename_i hc; subst hc; simp only [Option.some.injEq] at h; subst h; rfl
    · cases h
  · split at h
    · rename_i hc; obtain ⟨rfl, rfl, rfl⟩ := hc; simp only [Option.some.injEq] at h; subst h; rfl
    · cases h
  · split at h
    · rename_i hc; obtain ⟨rfl, rfl⟩ := hc; simp only [Option.some.injEq] at h; subst h; rfl
    · cases h
  · split at h
    · rename_i hc; obtain ⟨rfl, rfl⟩ := hc; simp only [Option.some.injEq] at h; subst h; rfl
    · cases h
  · simp only [Option.some.injEq] at h; subst h; rfl
  · simp only [Option.some.injEq] at h; subst h; rfl
  · cases h
theorem mtL_fl : ∀ {ss : List SL} {xs : List AL} {ps : List Prm}, mtL ss xs = some ps → ∀ qs, flL ss (ps ++ qs) = some (xs, qs)
  | [], [], ps, h, qs => by simp only [mtL, Option.some.injEq] at h; subst h; rfl
  | s :: ss, x :: xs, ps, h, qs => by
    simp only [mtL] at h
    split at h
    · rename_i a b h1 h2
      simp only [Option.some.injEq] at h
      subst h
      simp only [flL, List.append_assoc, SL.mt_fl h1, mtL_fl h2]
    · cases h
  | [], _ :: _, _, h, _ => by simp [mtL] at h
  | _ :: _, [], _, h, _ => by simp [mtL] at h
theorem mtV_fl : ∀ {ss : List SV} {xs : List AV} {ps : List Prm}, mtV ss xs = some ps → ∀ qs, flV ss (ps ++ qs) = some (xs, qs)
  | ss, xs, ps, h, qs => by
    unfold mtV at h
    split at h
    · simp only [Option.some.injEq] at h; subst h; rfl
    · split at h
      · rename_i a b h1 h2
        simp only [Option.some.injEq] at h
        subst h
        simp only [flV, List.append_assoc, SL.mt_fl h1, mtV_fl h2]
      · cases h
    · split at h
      · rename_i a b h1 h2
        simp only [Option.some.injEq] at h
        subst h
        simp only [flV, List.append_assoc, mtL_fl h1, mtV_fl h2]
      · cases h
    · cases h
theorem mtB_fl : ∀ {ss : List (TypeId × List SL)} {xs : List (TypeId × List AL)} {ps : List Prm}, mtB ss xs = some ps → ∀ qs, flB ss (ps ++ qs) = some (xs, qs)
  | [], [], ps, h, qs => by simp only [mtB, Option.some.injEq] at h; subst h; rfl
  | s :: ss, x :: xs, ps, h, qs => by
    simp only [mtB] at h
    split at h
    · rename_i he
      split at h
      · rename_i a b h1 h2
        simp only [Option.some.injEq] at h
        subst h
        simp only [flB, List.append_assoc, mtL_fl h1, mtB_fl h2, he]
      · cases h
    · cases h
  | [], _ :: _, _, h, _ => by simp [mtB] at h
  | _ :: _, [], _, h, _ => by simp [mtB] at h
theorem rowAs_same (e : TypeId) (s : Sh) (xs : List s.den) (md : Md) : ∀ (h : s.beq s = true), rowAs ⟨e, s, xs, md⟩ s = some xs := by
  intro h
  unfold rowAs
  split
  · rfl
  · rename_i he
    simp only at he
    rw [h] at he
    cases he
theorem mtR_fl : ∀ {ss : List (TypeId × Sh × Md)} {xs : List Row} {ps : List Prm}, mtR ss xs = some ps → ∀ qs, flR ss (ps ++ qs) = some (xs, qs)
  | [], [], ps, h, qs => by simp only [mtR, Option.some.injEq] at h; subst h; rfl
  | s :: ss, x :: xs, ps, h, qs => by
    simp only [mtR] at h
    split at h
    · rename_i he
      obtain ⟨he, hmd⟩ := he
      split at h
      · rename_i a b h1 h2
        simp only [Option.some.injEq] at h
        subst h
        have hb : s.2.1.beq s.2.1 = true := by
          unfold rowAs at h1
          split at h1
          · rename_i hb
            have := Sh.beq_eq hb
            rw [this] at hb
            exact hb
          · cases h1
        obtain ⟨hs, rfl⟩ := rowAs_eq h1
        have hmd2 := Md.same_eq hmd
        clear hmd
        obtain ⟨e, s', xs', md⟩ := x
        obtain ⟨e0, s0, md0⟩ := s
        simp only at hs he hmd2 hb
        subst hs; subst he; subst hmd2
        simp only [flR, List.cons_append, rowAs_same _ _ _ _ hb, mtR_fl h2]
      · cases h
    · cases h
  | [], _ :: _, _, h, _ => by simp [mtR] at h
  | _ :: _, [], _, h, _ => by simp [mtR] at h
theorem Skel.mt_fl {sk : Skel} {st : St} {ps : List Prm} (h : sk.mt st = some ps) : sk.fl ps = some st := by
  unfold Skel.mt at h
  split at h
  · rename_i a b c h1 h2 h3
    simp only [Option.some.injEq] at h
    subst h
    have h4 := mtR_fl h3 []
    rw [List.append_nil] at h4
    simp only [Skel.fl, mtV_fl h1, mtB_fl h2, h4]
  · cases h

structure LoopH where
  sk : Skel
  dead : List Nat
  nils : List (Nat × TypeId)
  xdead : List Nat
  shs : List Nat
  bns : List (Nat × Nat × TypeId)
  frz : List (Nat × Nat)
  rn : List Nat
section
variable (P : Program) {ρ : Type} (N : Nat × Nat)
def enter (H : LoopH) (F : List Prm → Kont ρ → Option ρ) (st : St) (k : Kont ρ) : Option ρ :=
  match st.clean P N H.dead H.nils H.shs H.bns H.frz H.rn with
  | none => none
  | some s =>
    match H.sk.mt s with
    | none => none
    | some ps => F ps k
def leave (H : LoopH) (st : St) (k : St → Option ρ) : Option ρ :=
  match st.clean P N H.xdead [] [] [] [] [] with
  | none => none
  | some s => k s
def turn (H : LoopH) (F : List Prm → Kont ρ → Option ρ) (k : Kont ρ) : Kont ρ := fun e st =>
  match e with
  | .normal => enter P N H F st k
  | e => leave P N H st (k e)
def enterA (H : LoopH) (F : List Prm → Kont ρ → Option ρ) (A : St → Kont ρ → Option ρ) (st : St) (k : Kont ρ) : Option ρ :=
  match st.clean P N H.dead H.nils H.shs H.bns H.frz H.rn with
  | none => A st k
  | some s =>
    match H.sk.mt s with
    | none => A st k
    | some ps => F ps k
def turnA (H : LoopH) (F : List Prm → Kont ρ → Option ρ) (A : St → Kont ρ → Option ρ) (k : Kont ρ) : Kont ρ := fun e st =>
  match e with
  | .normal => enterA P N H F A st k
  | e => leave P N H st (k e)
end
def LoopN (P : Program) {ρ : Type} (N : Nat × Nat) (x : Code) (n : Nat) (L : St → Kont ρ → Option ρ) : Prop := ∀ (r : ρ) (st : St) (k : Kont ρ) (g : Gh) (a : Act) (w : World), L st k = some r → Rel st g a w → Code.rounds P x (After N g k r) n a w
def noA {ρ : Type} : St → Kont ρ → Option ρ := fun _ _ => none
theorem rounds_more {P : Program} {x : Code} {Q : Exit → Act → World → Prop} : ∀ {n m : Nat} {a : Act} {w : World}, Code.rounds P x Q n a w → n ≤ m → Code.rounds P x Q m a w
  | 0, _, _, _, h, _ => h.elim
  | n + 1, 0, _, _, _, h => by omega
  | n + 1, m + 1, a, w, h, hle => by
    rw [rounds_succ] at h ⊢
    refine wp_mono h fun e a' w' he => ?_
    cases e with
    | normal => exact rounds_more (n := n) (m := m) he (by omega)
    | _ => exact he
theorem rounds_post {P : Program} {x : Code} {Q Q' : Exit → Act → World → Prop} (hq : ∀ e a w, Q e a w → Q' e a w) : ∀ {n : Nat} {a : Act} {w : World}, Code.rounds P x Q n a w → Code.rounds P x Q' n a w
  | 0, _, _, h => h.elim
  | n + 1, a, w, h => by
    rw [rounds_succ] at h ⊢
    refine wp_mono h fun e a' w' he => ?_
    cases e with
    | normal => exact rounds_post hq (n := n) he
    | _ => exact hq _ _ _ he
theorem LoopN.ok {P : Program} {ρ : Type} {N : Nat × Nat} {x : Code} {n : Nat} {L : St → Kont ρ → Option ρ} (h : LoopN P N x n L) : LoopOk P N x L := fun r st k g a w hl hR => wp_loop_rounds n (h r st k g a w hl hR)
theorem noA_ok {P : Program} {ρ : Type} {N : Nat × Nat} {x : Code} : LoopN P N x 0 (noA : St → Kont ρ → Option ρ) := fun r st k g a w hl _ => by cases hl
section
variable {P : Program} {ρ : Type} {N : Nat × Nat} {G : Env} {H : LoopH} {L : Nat → St → Kont ρ → Option ρ} {Fl : Nat → List Prm → Kont ρ → Option ρ} {x : Code}
theorem loop_okA {A : St → Kont ρ → Option ρ} {M : Nat} (hA : LoopN P N x M A) (hG : ∀ f E, G f = some E → Good P f E.F) (hL : ∀ y ∈ loopsOf x, ∀ id, firstReg y = some id → LoopOk P N y (L id)) (h0 : ∀ ps k, Fl 0 ps k = none)
    (hs : ∀ n ps k r, Fl (n + 1) ps k = some r → ∃ st1, H.sk.fl ps = some st1 ∧ evC P G L x st1 (turnA P N H (Fl n) A k) = some r) (m : Nat) : LoopN P N x (m + M) (enterA P N H (Fl m) A) := by
  intro r st k g a w h hR
  suffices ∀ (m : Nat) (st : St) (g1 : Gh) (a : Act) (w : World), enterA P N H (Fl m) A st k = some r → g.ext N g1 → Rel st g1 a w → Code.rounds P x (After N g k r) (m + M) a w from this m st g a w h (.refl _ _) hR
  have alt : ∀ (m : Nat) (st : St) (g1 : Gh) (a : Act) (w : World), A st k = some r → g.ext N g1 → Rel st g1 a w → Code.rounds P x (After N g k r) (m + M) a w := by
    intro m st g1 a w h hw hR
    exact rounds_more (rounds_post (fun _ _ _ h => h.ext hw) (hA r st k g1 a w h hR)) (by omega)
  intro m
  induction m with
  | zero =>
    intro st g1 a w h hw hR
    unfold enterA at h
    split at h
    · exact alt 0 st g1 a w h hw hR
    · split at h
      · exact alt 0 st g1 a w h hw hR
      · rw [h0] at h; cases h
  | succ n ih =>
    intro st g1 a w h hw hR
    unfold enterA at h
    split at h
    · exact alt (n + 1) st g1 a w h hw hR
    · rename_i s hst
      split at h
      · exact alt (n + 1) st g1 a w h hw hR
      · rename_i ps hps
        obtain ⟨st1, hfl, hev⟩ := hs n ps k r h
        rw [Skel.mt_fl hps] at hfl
        simp only [Option.some.injEq] at hfl
        subst hfl
        obtain ⟨g2, hw1, hR1⟩ := clean_rel hR hst
        have key := evC_sound (N := N) hG x hL s _ g2 a w hev hR1
        rw [show n + 1 + M = n + M + 1 from by omega, rounds_succ]
        refine wp_mono key ?_
        rintro e a' w' ⟨ex, st', g', hex, hw', hR', h'⟩
        have hx : g.ext N g' := (hw.trans hw1).trans hw'
        have out : ∀ (ex : Ex), leave P N H st' (k ex) = some r → ex.is e → After N g k r e a' w' := by
          intro ex h' hex
          unfold leave at h'
          split at h'
          · cases h'
          · rename_i s' hs'
            obtain ⟨g2, hw2, hR2⟩ := clean_rel hR' hs'
            exact ⟨ex, s', g2, hex, hx.trans hw2, hR2, h'⟩
        cases ex with
        | normal => cases e <;> first | exact hex.elim | exact ih st' g' a' w' h' hx hR'
        | exit i =>
          have := out (.exit i) h' hex
          cases e <;> first | exact hex.elim | exact this
        | ret =>
          have := out .ret h' hex
          cases e <;> first | exact hex.elim | exact this
theorem loop_ok (hG : ∀ f E, G f = some E → Good P f E.F) (hL : ∀ y ∈ loopsOf x, ∀ id, firstReg y = some id → LoopOk P N y (L id)) (h0 : ∀ ps k, Fl 0 ps k = none)
    (hs : ∀ n ps k r, Fl (n + 1) ps k = some r → ∃ st1, H.sk.fl ps = some st1 ∧ evC P G L x st1 (turn P N H (Fl n) k) = some r) (m : Nat) : LoopOk P N x (enter P N H (Fl m)) := by
  intro r st k g a w h hR
  suffices ∀ (m : Nat) (st : St) (g1 : Gh) (a : Act) (w : World), enter P N H (Fl m) st k = some r → g.ext N g1 → Rel st g1 a w → Code.rounds P x (After N g k r) m a w from wp_loop_rounds m (this m st g a w h (.refl _ _) hR)
  intro m
  induction m with
  | zero =>
    intro st g1 a w h hw hR
    unfold enter at h
    split at h
    · cases h
    · split at h
      · cases h
      · rw [h0] at h; cases h
  | succ n ih =>
    intro st g1 a w h hw hR
    unfold enter at h
    split at h
    · cases h
    · rename_i s hst
      split at h
      · cases h
      · rename_i ps hps
        obtain ⟨st1, hfl, hev⟩ := hs n ps k r h
        rw [Skel.mt_fl hps] at hfl
        simp only [Option.some.injEq] at hfl
        subst hfl
        obtain ⟨g2, hw1, hR1⟩ := clean_rel hR hst
        have key := evC_sound (N := N) hG x hL s _ g2 a w hev hR1
        refine wp_mono key ?_
        rintro e a' w' ⟨ex, st', g', hex, hw', hR', h'⟩
        have hx : g.ext N g' := (hw.trans hw1).trans hw'
        have out : ∀ (ex : Ex), leave P N H st' (k ex) = some r → ex.is e → After N g k r e a' w' := by
          intro ex h' hex
          unfold leave at h'
          split at h'
          · cases h'
          · rename_i s' hs'
            obtain ⟨g2, hw2, hR2⟩ := clean_rel hR' hs'
            exact ⟨ex, s', g2, hex, hx.trans hw2, hR2, h'⟩
        cases ex with
        | normal => cases e <;> first | exact hex.elim | exact ih st' g' a' w' h' hx hR'
        | exit i =>
          have := out (.exit i) h' hex
          cases e <;> first | exact hex.elim | exact this
        | ret =>
          have := out .ret h' hex
          cases e <;> first | exact hex.elim | exact this
end
end Go.Proofs.YtmbcnpbgcfiafaaGreat.Vm
