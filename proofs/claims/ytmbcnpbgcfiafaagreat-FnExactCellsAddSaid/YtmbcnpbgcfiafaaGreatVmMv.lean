/- A walk by reckoning: an append that moves a stretch of another row's elements, with the rows inside of them. -/
import Derived.Test.YtmbcnpbgcfiafaaGreatVmKp
namespace Go.Proofs.YtmbcnpbgcfiafaaGreat.Vm
open Go Go.RowKit Go.Proofs.YtmbcnpbgcfiafaaGreatW.PrintWords
set_option linter.unusedVariables false
set_option linter.unusedSectionVars false
set_option linter.unusedSimpArgs false

def relab2 (n r1 len q lo hi n2 size : Nat) (lab : Lab) : Lab := fun k =>
  if k < size then
    match lab k with
    | some (r, m) =>
      if r = r1 then some (n, m)
      else if r = q then
        match m with
        | j :: m' => if j < lo then some (n2, j :: m') else if j < hi then some (n, (len + (j - lo)) :: m') else some (r, j :: m')
        | [] => some (n2, [])
      else some (r, m)
    | none => none
  else some (n, [])
section
variable {wz w w1 : World} {base : Nat} {lab : Lab}
theorem append_mv {P : Program} {t ty e : TypeId} {i : TypeInfo} {z : Value} {s : Sh} (ht : P.underlying t = some (.slice e)) (hi : P.info? e = some i) (hz : i.zero = some z) (hsz : i.size = s.sz) (hzs : z.cells.size = s.sz) (hb0 : 0 < i.bytes)
    {r1 n q lo h n2 : Nat} {v x vq : Value} {xs ys zs : List s.den} (hv : Own s e wz w base lab r1 [] v xs) {B : Option Addr} {d : Nat} (hx : x = .slice B ys.length d) (hC : s.kd.C w B ys.length ys)
    (hbase : base ≤ w.heap.size) (hlen : (xs.length + ys.length) * i.bytes ≤ 140737488355328)
    {A : Option Addr} {nq cq : Nat} (hvq : vq = .slice A nq cq) (hq : Own s e wz w base lab q [] vq zs) (hne : q ≠ r1) (hlo : lo ≤ h) (hh : h ≤ zs.length) (hys : ys = (zs.take h).drop lo) (hB : 0 < ys.length → B = A.map (·.add (lo * s.sz))) :
    ∃ v' w', (Builtin.append_ #[t, t] ty #[v, x]).run P w = .ok v' w' ∧ w.grownBy w' v.ownBlock ∧ Own s e wz w' base (relab2 n r1 xs.length q lo h n2 w.heap.size lab) n [] v' (xs ++ ys) ∧
      Own s e wz w' base (relab2 n r1 xs.length q lo h n2 w.heap.size lab) n2 [] (.slice A lo cq) (zs.take lo) := by
  subst hx
  subst hvq
  obtain ⟨hvo, inner, hown, hel⟩ := hv
  have hp := s.sz_pos
  obtain ⟨hqo, innq, hownq, helq⟩ := hq
  -- the names of the old row's elements
  have old : ∀ (w' : World), (∀ k, k < w.heap.size → some k ≠ v.ownBlock → w'.heap[k]? = w.heap[k]?) → ∀ (j : Nat) (y : s.den) (cs : List Value), OE wz w base lab r1 s ([] ++ [j]) 0 y cs → OE wz w' base (relab2 n r1 xs.length q lo h n2 w.heap.size lab) n s ([] ++ [j]) 0 y cs := by
    intro w' hk j y cs h
    refine OE_move (q := [j]) (q' := [j]) (fun k m hlt _ hl => ⟨hk k hlt fun he => ?_, ?_⟩) (Nat.le_refl _) (fun _ _ h => h) s [] 0 y cs h
    · have := hvo k he.symm
      rw [hl] at this
      injection this with this
      injection this with _ this
      cases this
    · unfold relab2
      rw [if_pos hlt, hl]
      simp
  -- what is left of the other row
  have left : ∀ (w' : World), (∀ k, k < w.heap.size → some k ≠ v.ownBlock → w'.heap[k]? = w.heap[k]?) → Own s e wz w' base (relab2 n r1 xs.length q lo h n2 w.heap.size lab) n2 [] (.slice A lo cq) (zs.take lo) := by
    intro w' hk
    have hnot : ∀ k m, lab k = some (q, m) → some k ≠ v.ownBlock := by
      intro k m hl he
      have := hvo k he.symm
      rw [hl] at this
      injection this with this
      injection this with this _
      exact hne this
    obtain ⟨h1, inn, h2, h3⟩ := Own.take (⟨hqo, innq, hownq, helq⟩ : Own s e wz w base lab q [] (.slice A nq cq) zs) (show lo ≤ zs.length by omega)
    refine ⟨fun k hb => ?_, inn, own_move h2 fun k hb => hk k (own_lt h2 k hb) (hnot k _ (h1 k hb)), fun j y hj => ?_⟩
    · have hl := h1 k hb
      unfold relab2
      rw [if_pos (own_lt h2 k hb), hl]
      simp only [if_neg hne, if_true]
    · have hjl : j < lo := by have := (List.getElem?_eq_some_iff.1 hj).1; rw [List.length_take] at this; omega
      refine OE_move (q := [j]) (q' := [j]) (fun k m hlt _ hl => ⟨hk k hlt (hnot k _ hl), ?_⟩) (Nat.le_refl _) (fun _ _ h => h) s [] 0 y _ (h3 j y hj)
      unfold relab2
      rw [if_pos hlt, hl]
      simp only [List.cons_append, List.nil_append, if_neg hne, if_true, if_pos hjl]
  rcases Nat.eq_zero_or_pos ys.length with h0 | hpos
  · have hy : ys = [] := List.eq_nil_of_length_eq_zero h0
    clear hys hB hC
    subst hy
    obtain ⟨A', c, hA⟩ := own_slice hown
    have hle := own_le (hA ▸ hown)
    refine ⟨v, w, ?_, ⟨rfl, rfl, rfl, Nat.le_refl _, fun _ _ _ => rfl⟩, ⟨fun k hk => ?_, inner, by simpa using hown, fun j y hj => ?_⟩, left w fun _ _ _ => rfl⟩
    · rw [hA]
      exact append0 ht hi hle w
    · have := hvo k hk
      unfold relab2
      rw [if_pos (own_lt hown k hk), this]
      simp
    · rw [List.append_nil] at hj
      exact old w (fun _ _ _ => rfl) j y _ (hel j y hj)
  · obtain ⟨ad, cy, rfl, hcl, hck, hcell⟩ := C_cells hC hpos
    have hone : ∀ u ∈ cy, u.oneCell' = true := segs_one hp hcl fun j y hj => s.kd.K_one (hck j y hj)
    have hn : xs.length + ys.length ≤ 140737488355328 := Nat.le_trans (Nat.le_mul_of_pos_right _ hb0) hlen
    obtain ⟨v', w', hr, hown', hg, _, hat⟩ := run_append_own_at (P := P) (w := w) base t ty e i z s.sz i.bytes ht hi hz hsz rfl hzs hp v xs.length inner hown ad ys.length d cy hcl hcell hone (by simp only [maxLen]; omega) hlen hbase
    refine ⟨v', w', hr, hg, ⟨fun k hk => ?_, inner ++ cy, by rw [List.length_append]; exact hown', fun j y hj => ?_⟩, left w' fun k hk hne => hg.block k hk hne⟩
    · rcases hat with hat | hat
      · rw [hat] at hk
        have := hvo k hk
        unfold relab2
        rw [if_pos (own_lt hown k hk), this]
        simp
      · rw [hat] at hk
        injection hk with hk
        unfold relab2
        rw [if_neg (by omega)]
    · rcases Nat.lt_or_ge j xs.length with hlt | hge
      · rw [List.getElem?_append_left hlt] at hj
        have hin : (inner ++ cy).drop (j * s.sz) = inner.drop (j * s.sz) ++ cy := by
          rw [List.drop_append_of_le_length]
          rw [hown.1]
          exact Nat.mul_le_mul_right _ (by omega)
        have htk : ((inner.drop (j * s.sz)) ++ cy).take s.sz = (inner.drop (j * s.sz)).take s.sz := by
          rw [List.take_append_of_le_length]
          rw [List.length_drop, hown.1]
          have : j * s.sz + s.sz ≤ xs.length * s.sz := by rw [← Nat.succ_mul]; exact Nat.mul_le_mul_right _ hlt
          omega
        rw [hin, htk]
        exact old w' (fun k hk hne => hg.block k hk hne) j y _ (hel j y hj)
      · rw [List.getElem?_append_right hge] at hj
        have hin : (inner ++ cy).drop (j * s.sz) = cy.drop ((j - xs.length) * s.sz) := by
          rw [List.drop_append, List.drop_of_length_le (by rw [hown.1]; exact Nat.mul_le_mul_right _ hge), List.nil_append, hown.1, Nat.sub_mul]
        rw [hin]
        have hyl : ys.length = h - lo := by rw [hys, List.length_drop, List.length_take]; omega
        have hzp : 0 < zs.length := by omega
        obtain ⟨gq, capq, heq, _, _⟩ := hownq.form hzp
        injection heq with heq
        subst heq
        have hB' := hB hpos
        simp only [Option.map_some, Option.some.injEq] at hB'
        have hjy : j - xs.length < ys.length := (List.getElem?_eq_some_iff.1 hj).1
        have hz : zs[lo + (j - xs.length)]? = some y := by
          rw [hys, List.getElem?_drop, List.getElem?_take, if_pos (by omega)] at hj
          exact hj
        have hseg : (cy.drop ((j - xs.length) * s.sz)).take s.sz = (innq.drop ((lo + (j - xs.length)) * s.sz)).take s.sz := by
          apply List.ext_getElem?
          intro a
          rw [List.getElem?_take, List.getElem?_take]
          by_cases ha : a < s.sz
          · rw [if_pos ha, if_pos ha, List.getElem?_drop, List.getElem?_drop]
            have hb1 : (j - xs.length) * s.sz + a < cy.length := by
              rw [hcl]
              have : (j - xs.length) * s.sz + s.sz ≤ ys.length * s.sz := by rw [← Nat.succ_mul]; exact Nat.mul_le_mul_right _ hjy
              omega
            have hb2 : (lo + (j - xs.length)) * s.sz + a < innq.length := by
              rw [hownq.1]
              have : (lo + (j - xs.length)) * s.sz + s.sz ≤ zs.length * s.sz := by rw [← Nat.succ_mul]; exact Nat.mul_le_mul_right _ (by omega)
              omega
            have h2 := hownq.cells (g := gq) rfl _ _ (List.getElem?_eq_getElem hb2)
            have h3 := hcell _ _ (List.getElem?_eq_getElem hb1)
            rw [hB', add_add, ← Nat.add_assoc, ← Nat.add_mul] at h3
            rw [h2] at h3
            injection h3 with h3
            rw [List.getElem?_eq_getElem hb1, List.getElem?_eq_getElem hb2, h3]
          · rw [if_neg ha, if_neg ha]
        rw [hseg]
        refine OE_move (q := [lo + (j - xs.length)]) (q' := [j]) (fun k m hlt _ hl => ⟨hg.block k hlt fun he => ?_, ?_⟩) (Nat.le_refl _) (fun _ _ h => h) s [] 0 y _ (helq _ y hz)
        · have := hvo k he.symm
          rw [hl] at this
          injection this with this
          injection this with this _
          exact hne this
        · unfold relab2
          rw [if_pos hlt, hl]
          simp only [List.cons_append, List.nil_append, if_neg hne, if_true, if_neg (show ¬ lo + (j - xs.length) < lo by omega), if_pos (show lo + (j - xs.length) < h by omega)]
          rw [show xs.length + (lo + (j - xs.length) - lo) = j from by omega]
end
def AL.toAl (q n : Nat) : AL → AL
  | .sl r => if r = q then .al n else .sl r
  | x => x
def A1.toAl (q n : Nat) : A1 → A1
  | .one x => .one (x.toAl q n)
  | .agg xs => .agg (xs.map (AL.toAl q n))
def AV.toAl (q n : Nat) : AV → AV
  | .s1 x => .s1 (x.toAl q n)
  | .tup xs => .tup (xs.map (A1.toAl q n))
section
variable {g : Gh} {q n : Nat} (h : ∀ v, g.rw[q]? = some v → ∃ A m k c, g.rw[n]? = some (.slice A m c) ∧ m ≤ k ∧ k ≤ c ∧ v = .slice A k c)
include h
theorem AL.toAl_rel {x : AL} {v : Value} (hx : x.R g v) : (x.toAl q n).R g v := by
  cases x with
  | sl r =>
    show (if r = q then AL.al n else AL.sl r).R g v
    split
    · rename_i e; subst e; exact h v hx
    · exact hx
  | unk => exact hx
  | val _ => exact hx
  | ptr _ _ => exact hx
  | ept _ _ _ _ => exact hx
  | vw _ _ _ _ => exact hx
  | fn _ _ => exact hx
  | al _ => exact hx
  | err _ => exact hx
  | hs => exact hx
theorem AL.toAls_rel : ∀ {xs : List AL} {vs : List Value}, F2 (AL.R g) xs vs → F2 (AL.R g) (xs.map (AL.toAl q n)) vs
  | [], [], _ => trivial
  | _ :: _, _ :: _, hF => ⟨AL.toAl_rel h hF.1, AL.toAls_rel hF.2⟩
theorem A1.toAl_rel {x : A1} {v : Value} (hx : x.R g v) : (x.toAl q n).R g v := by
  cases x with
  | one y => exact AL.toAl_rel h hx
  | agg xs =>
    obtain ⟨cs, e, hF⟩ := hx
    exact ⟨cs, e, AL.toAls_rel h hF⟩
theorem A1.toAls_rel : ∀ {xs : List A1} {vs : List Value}, F2 (A1.R g) xs vs → F2 (A1.R g) (xs.map (A1.toAl q n)) vs
  | [], [], _ => trivial
  | _ :: _, _ :: _, hF => ⟨A1.toAl_rel h hF.1, A1.toAls_rel hF.2⟩
theorem AV.toAl_rel {x : AV} {v : Value} (hx : x.R g v) : (x.toAl q n).R g v := by
  cases x with
  | s1 y => exact A1.toAl_rel h hx
  | tup xs =>
    obtain ⟨vs, e, hF⟩ := hx
    exact ⟨vs, e, A1.toAls_rel h hF⟩
theorem AV.toAls_rel : ∀ {xs : List AV} {vs : List Value}, F2 (AV.R g) xs vs → F2 (AV.R g) (xs.map (AV.toAl q n)) vs
  | [], [], _ => trivial
  | _ :: _, _ :: _, hF => ⟨AV.toAl_rel h hF.1, AV.toAls_rel hF.2⟩
theorem Mem.toAl {bs : List (TypeId × List AL)} {rs : List Row} {w : World} (hm : Mem bs rs g w) : Mem (bs.map fun b => (b.1, b.2.map (AL.toAl q n))) rs g w := by
  refine ⟨by rw [List.length_map]; exact hm.bl, fun {b t cs blk} hb hx => ?_, hm.free, hm.inj, hm.rl, hm.row, hm.st, hm.dom⟩
  rw [List.getElem?_map] at hb
  obtain ⟨bc, hbb, he⟩ := Option.map_eq_some_iff.1 hb
  injection he with h1 h2
  subst h1; subst h2
  obtain ⟨vs, hh, hF⟩ := hm.box (t := bc.1) (cs := bc.2) hbb hx
  exact ⟨vs, hh, AL.toAls_rel h hF⟩
end
section
variable (P : Program)
def appendM (st : St) (t : TypeId) (x y : AL) : Option (Nat × AL × St) :=
  match P.underlying t with
  | some (.slice e) =>
    match P.info? e, headA P st e x, y with
    | some i, some h, .vw q sz lo hi =>
      match i.zero, st.rows[q]? with
      | some z, some row =>
        match row.md, rowAs row h.s with
        | .own, some zs =>
          if i.size = h.s.sz ∧ z.cells.size = h.s.sz ∧ 0 < i.bytes ∧ sz = h.s.sz ∧ row.e = e ∧ q ≠ h.r.getD st.rows.length then
            some ((h.xs.length + ((zs.take hi.toNat).drop lo.toNat).length) * i.bytes, .sl st.rows.length,
              ⟨st.tmps.map (AV.toAl q (st.rows.length + 1)), st.boxes.map fun b => (b.1, b.2.map (AL.toAl q (st.rows.length + 1))),
                (killed (h.r.toList ++ [q]) 0 st.rows ++ [⟨e, h.s, h.xs ++ (zs.take hi.toNat).drop lo.toNat, .own⟩]) ++ [⟨e, h.s, zs.take lo.toNat, .own⟩]⟩)
          else none
        | _, _ => none
      | _, _ => none
    | _, _, _ => none
  | _ => none
end
theorem appendM_run {P : Program} {st st' : St} {g : Gh} {a : Act} {w : World} (hR : Rel st g a w) {t ty : TypeId} {x y : AL} {v u : Value} (hx : x.R g v) (hy : y.R g u) {b : Nat} {z : AL} (h : appendM P st t x y = some (b, z, st')) (hb : b ≤ 140737488355328) :
    ∃ g' w' v', g.le g' ∧ Rel st' g' a w' ∧ z.R g' v' ∧ (Builtin.append_ #[t, t] ty #[v, u]).run P w = .ok v' w' := by
  have hm := hR.mem
  unfold appendM at h
  split at h
  · rename_i e hu
    split at h
    · rename_i i hd q sz lo hi' hi hhd
      split at h
      · rename_i zv row hz hrow
        split at h
        · rename_i zs hmd hzs
          split at h
          · rename_i hc
            obtain ⟨hc1, hc2, hc3, hc4, hc5, hc6⟩ := hc
            have h := Option.some.inj h
            have hb1 := congrArg Prod.fst h
            have hz1 := congrArg (fun x => x.2.1) h
            have hs1 := congrArg (fun x => x.2.2) h
            simp only at hb1 hz1 hs1
            clear h
            subst hz1; subst hs1
            rw [← hb1] at hb
            subst hc4
            have hO := headA_rel hm hx hhd
            obtain ⟨A, n, c, A', hv, h0, h1, h2, h3, h4, h5, rfl⟩ := hy
            have hoq := hm.row hrow hv
            unfold RowRel at hoq
            rw [hmd] at hoq
            obtain ⟨hs, hxs⟩ := rowAs_eq hzs
            obtain ⟨re, rs, rxs, rmd⟩ := row
            have hs : rs = hd.s := hs
            subst hs
            have hxs : zs = rxs := hxs
            subst hxs
            have hc5 : re = e := hc5
            subst hc5
            have hn : n = zs.length := by
              obtain ⟨_, inner, hown, _⟩ := hoq
              obtain ⟨A2, c2, he⟩ := own_slice hown
              injection he
            have hq0 : Own hd.s re g.rz w 0 g.tag q [] (.slice A n c) zs := hoq
            obtain ⟨A2, c2, he2, hlc, hCz⟩ := hq0.reads (fun a u => hm.st.cell)
            injection he2 with e1 e2 e3
            subst e1; subst e3
            have hyl : ((zs.take hi'.toNat).drop lo.toNat).length = hi'.toNat - lo.toNat := by rw [List.length_drop, List.length_take]; omega
            obtain ⟨h7, h8⟩ := vw_reads (n := c) hCz hlc (lo := lo.toNat) (hi := hi'.toNat) (by omega) (by omega) h4
            have hvb : ∀ k, v.ownBlock = some k → g.tag k = some (hd.r.getD st.rows.length, []) := hO.1
            obtain ⟨v', w', hr, hg, hown1, hown2⟩ := append_mv (n := st.rows.length) (n2 := st.rows.length + 1) (ty := ty) (lo := lo.toNat) (h := hi'.toNat) hu hi hz hc1 hc2 hc3 hO (x := .slice A' (hi'.toNat - lo.toNat) (c - lo.toNat)) (B := A') (d := c - lo.toNat) (by rw [hyl]) h8 (Nat.zero_le _) hb rfl hq0 hc6 (by omega) (by omega) rfl (fun hp => h4 (by omega))
            have hkeepT : ∀ k, k < w.heap.size → (∀ r m, g.tag k = some (r, m) → (hd.r.toList ++ [q]).contains r = false) → w'.heap[k]? = w.heap[k]? ∧ relab2 st.rows.length (hd.r.getD st.rows.length) hd.xs.length q lo.toNat hi'.toNat (st.rows.length + 1) w.heap.size g.tag k = g.tag k := by
              intro k hk hids
              refine ⟨hg.block k hk fun he => ?_, ?_⟩
              · cases hr1 : hd.r with
                | none =>
                  rw [headA_none hx hhd hr1] at he
                  cases he
                | some r1 =>
                  have := hids _ _ (hvb k he.symm)
                  rw [hr1] at this
                  simp at this
              · unfold relab2
                rw [if_pos hk]
                cases ht : g.tag k with
                | none => rfl
                | some rm =>
                  obtain ⟨r, m⟩ := rm
                  have hid := hids r m ht
                  simp only
                  split
                  · rename_i hr1
                    cases hr2 : hd.r with
                    | none => rw [hr1, hr2]; rfl
                    | some r1 =>
                      rw [hr2] at hr1 hid
                      have hr1 : r = r1 := hr1
                      rw [hr1] at hid
                      simp at hid
                  · split
                    · rename_i hq
                      rw [hq] at hid
                      simp at hid
                    · rfl
            have hm1 := hm.turnE (w1 := w') (hd.r.toList ++ [q]) (relab2 st.rows.length (hd.r.getD st.rows.length) hd.xs.length q lo.toNat hi'.toNat (st.rows.length + 1) w.heap.size g.tag) v' ⟨re, hd.s, hd.xs ++ (zs.take hi'.toNat).drop lo.toNat, .own⟩ rfl
              ⟨hm.st.tab, hg.os.trans hm.st.os, hg.tape.trans hm.st.tape, hg.output.trans hm.st.output, Nat.le_trans hm.st.size hg.size, fun {k o} hk => by
                refine (hg.block k (hm.fz_lt hk) fun he => ?_).trans (hm.st.fz hk)
                have := hm.dom (hvb k he.symm)
                rw [this] at hk
                (cases hk), hm.st.rd⟩
              (fun k x hk => by
                unfold relab2 at hk
                split at hk
                · cases ht : g.tag k with
                  | none => rw [ht] at hk; cases hk
                  | some y => exact hm.dom ht
                · exact hm.fz_new (by omega))
              hkeepT hown1
            have hlen : (killed (hd.r.toList ++ [q]) 0 st.rows ++ [(⟨re, hd.s, hd.xs ++ (zs.take hi'.toNat).drop lo.toNat, .own⟩ : Row)]).length = st.rows.length + 1 := by rw [List.length_append, killed_length]; rfl
            obtain ⟨g2, hle2, hrw2, _, _, hm2⟩ := hm1.addRow ⟨re, hd.s, zs.take lo.toNat, .own⟩ (.slice A lo.toNat c) (by
              rw [hlen]
              unfold RowRel
              exact hown2)
            have hle1 : g.le ⟨g.bx, g.rw ++ [v'], relab2 st.rows.length (hd.r.getD st.rows.length) hd.xs.length q lo.toNat hi'.toNat (st.rows.length + 1) w.heap.size g.tag, g.wz, g.lent, g.w0, g.rz⟩ := ⟨fun h => h, get_append_some, rfl, fun h => h, fun h => h, fun h => .inl h⟩
            have hle := hle1.trans hle2
            have hrl : st.rows.length = g.rw.length := hm.rl
            have hal : ∀ v, g2.rw[q]? = some v → ∃ A m k c, g2.rw[st.rows.length + 1]? = some (.slice A m c) ∧ m ≤ k ∧ k ≤ c ∧ v = .slice A k c := by
              intro v1 hv1
              have hv2 := hle.rw hv
              rw [hv2] at hv1
              injection hv1 with hv1
              refine ⟨A, lo.toNat, n, c, ?_, by omega, by omega, hv1.symm⟩
              rw [hrw2]
              show ((g.rw ++ [v']) ++ [_])[st.rows.length + 1]? = _
              rw [List.getElem?_append_right (by rw [List.length_append, hrl]; exact Nat.le_refl _), List.length_append, hrl]
              simp
            refine ⟨g2, w', v', hle, ⟨AV.toAls_rel hal (hR.tmps.imp fun _ _ => AV.R_le hle), hR.defers, Mem.toAl hal hm2⟩, ?_, hr⟩
            show g2.rw[st.rows.length]? = _
            rw [hrw2]
            show ((g.rw ++ [v']) ++ [_])[st.rows.length]? = _
            rw [List.getElem?_append_left (by rw [List.length_append, hrl]; exact Nat.lt_succ_self _), List.getElem?_append_right (by rw [hrl]; exact Nat.le_refl _), hrl, Nat.sub_self]
            rfl
          · cases h
        · cases h
      · cases h
    · cases h
  · cases h
end Go.Proofs.YtmbcnpbgcfiafaaGreat.Vm
