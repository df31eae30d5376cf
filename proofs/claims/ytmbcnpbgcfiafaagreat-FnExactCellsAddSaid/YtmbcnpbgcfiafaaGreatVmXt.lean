/- The library's functions that are taken by contracts of our own: slices.Sorted, slices.Grow, slices.Insert. -/
import Derived.Test.YtmbcnpbgcfiafaaGreatVmU
import Derived.Test.YtmbcnpbgcfiafaaGreatVmXw
import Derived.Test.YtmbcnpbgcfiafaaGreatVmShelf
namespace Go.Proofs.YtmbcnpbgcfiafaaGreat.Run
open Go Go.RowKit Go.Proofs.YtmbcnpbgcfiafaaGreatW.PrintWords Go.Proofs.YtmbcnpbgcfiafaaGreat.Vm
set_option linter.unusedVariables false
set_option linter.unusedSimpArgs false
abbrev CellT : Type := (Int × Int × Int × Int × Int × Int × (Int × Int) × Int × Int × List Int)
noncomputable def X.sorted (xs : List Int) : Option (List Int × List Int) := bif decide (xs.length ≤ 17592186043904) then some (xs, xs.mergeSort (fun x y => decide (x ≤ y))) else none
def X.grow0 (n : Int) (xs : List Int) : Option (List Int) :=
  match xs with
  | [] => bif decide (0 ≤ n ∧ n ≤ 17592186044416) then some [] else none
  | _ :: _ => none
def X.insert (i : Int) (xs ys : List CellT) : Option (List CellT) := bif decide (0 ≤ i ∧ i ≤ (xs.length : Int) ∧ 0 < ys.length ∧ (xs.length + ys.length) * 104 ≤ 140737488355328) then some (xs.take i.toNat ++ ys ++ xs.drop i.toNat) else none
def X.cmp (x y : CellT) : Int := if x.1 < y.1 then -1 else if y.1 < x.1 then 1 else if x.2.1 < y.2.1 then -1 else if y.2.1 < x.2.1 then 1 else if x.2.2.1 < y.2.2.1 then -1 else if y.2.2.1 < x.2.2.1 then 1 else if x.2.2.2.1 < y.2.2.2.1 then -1 else if y.2.2.2.1 < x.2.2.2.1 then 1 else if x.2.2.2.2.1 < y.2.2.2.2.1 then -1 else if y.2.2.2.2.1 < x.2.2.2.2.1 then 1 else 0
noncomputable def X.sort (xs : List CellT) : Option (List CellT) := bif decide (xs.length ≤ 4611686018427387903) && decide (xs.Pairwise (fun x y => X.cmp x y ≠ 0)) then some (xs.mergeSort (fun x y => decide (X.cmp x y ≤ 0))) else none
abbrev cellSh : Sh := (.pair (.int .i64) (.pair (.int .i64) (.pair (.int .i64) (.pair (.int .i64) (.pair (.int .i64) (.pair (.int .i64) (.pair (.pair (.int .i64) (.int .u64)) (.pair (.int .i64) (.pair (.int .i64) (.sl 3 (.int .i64)))))))))))
theorem mem_dead {bs : List (TypeId × List AL)} {rs rs' : List Row} {g : Gh} {w : World} (h : Mem bs rs g w) (hl : rs'.length = rs.length) (hr : ∀ {r : Nat} {row' : Row}, rs'[r]? = some row' → ∃ row, rs[r]? = some row ∧ (row' = row ∨ row'.md = .dead)) : Mem bs rs' g w :=
  ⟨h.bl, h.box, h.free, h.inj, hl.trans h.rl, fun {r row' v} h1 h2 => by
    obtain ⟨row, h3, h4⟩ := hr h1
    rcases h4 with rfl | h4
    · exact h.row h3 h2
    · have := (h.row h3 h2).slice
      unfold RowRel; rw [h4]; exact this, h.st, h.dom⟩
theorem turn_grown {bs : List (TypeId × List AL)} {rs : List Row} {g : Gh} {w w' : World} (hm : Mem bs rs g w) (ids : List Nat) (lab' : Lab) (v v' : Value) (row : Row) (hmd : row.md = .own) (hg : w.grownBy w' v.ownBlock) (r1 : Nat) (hv : ∀ k, v.ownBlock = some k → g.tag k = some (r1, []) ∧ ids.contains r1 = true)
    (hn : ∀ k, k < w.heap.size → g.tag k = none → lab' k = none) (hk : ∀ k r m, k < w.heap.size → g.tag k = some (r, m) → ids.contains r = false → lab' k = some (r, m))
    (hnew : Vm.Own row.s row.e g.rz w' 0 lab' rs.length [] v' row.xs) :
    ∃ g', g.le g' ∧ g'.rw = g.rw ++ [v'] ∧ Mem bs (killed ids 0 rs ++ [row]) g' w' := by
  refine hm.turn ids lab' v' row hmd ⟨hm.st.tab, hg.os.trans hm.st.os, hg.tape.trans hm.st.tape, hg.output.trans hm.st.output, Nat.le_trans hm.st.size hg.size, fun {k o} hk => ?_, hm.st.rd⟩ (fun k x hx => ?_) (fun k hlt hids => ?_) hnew
  · refine (hg.block k (hm.fz_lt hk) fun he => ?_).trans (hm.st.fz hk)
    have := hm.dom (hv k he.symm).1
    rw [this] at hk
    cases hk
  · rcases Nat.lt_or_ge k w.heap.size with h | h
    · cases ht : g.tag k with
      | none => rw [hn k h ht] at hx; cases hx
      | some y => exact hm.dom ht
    · exact hm.fz_new h
  · refine ⟨hg.block k hlt fun he => ?_, ?_⟩
    · have h1 := hv k he.symm
      rw [hids _ _ h1.1] at h1
      cases h1.2
    · cases ht : g.tag k with
      | none => exact hn k hlt ht
      | some y => exact hk k y.1 y.2 hlt ht (hids _ _ ht)
def sg333 : Sg := ⟨⟨[.one (.sl 0), hh], [], [(3, (.int .i64), .own)]⟩, [.int .i64, .row (.int .i64)], ⟨[.one (.sl 1)], [], [(3, (.int .i64), .dead), (3, (.int .i64), .own)]⟩, [.rowd (.int .i64), .row (.int .i64)]⟩
noncomputable def E333 : Fun2 := eOf sg333 X.grow0
theorem good333 : Vm.Good Tryz.prog 333 E333 := by
  refine good_ext Tryz.func333 (by kernel_rfl) (by kernel_rfl) fun a t st hst ht g w vals hw hm hF => ?_
  obtain ⟨(n : Int), (xs : List Int), u⟩ := a
  have hst' : some (⟨[.s1 (.one (.sl 0)), .s1 (.one (.val (.int .i64 n)))], [], [⟨3, .int .i64, xs, .own⟩]⟩ : St) = some st := hst
  injection hst' with hst'
  subst hst'
  have ht' : X.grow0 n xs = some t := ht
  match xs, ht', hm with
  | _ :: _, ht', _ => cases ht'
  | [], ht', hm =>
    have ht2 : (bif decide (0 ≤ n ∧ n ≤ 17592186044416) then some [] else none) = some t := ht'
    cases hd : decide (0 ≤ n ∧ n ≤ 17592186044416) with
    | false => rw [hd] at ht2; cases ht2
    | true =>
      rw [hd] at ht2
      injection ht2 with ht2
      subst ht2
      have hn := of_decide_eq_true hd
      match vals, hF with
      | [v, s], hF =>
        have hs : s = .int .i64 n := hF.2.1
        subst hs
        have hv : g.rw[0]? = some v := hF.1
        obtain ⟨hl, inner, hown, _⟩ : Vm.Own (.int .i64) 3 g.rz w 0 g.tag 0 [] v ([] : List Int) := hm.row (r := 0) rfl hv
        have hnn : n = ((n.toNat : Nat) : Int) := by omega
        have key : Calls Tryz.prog 333 #[v, .int .i64 ((n.toNat : Nat) : Int)] w fun e w' => ∃ v', e = .returned v' ∧ w.grownBy w' v.ownBlock ∧ w'.ownsRow 0 3 1 v' 0 [] ∧ (v'.ownBlock = v.ownBlock ∨ v'.ownBlock = some w.heap.size) := by
          rcases hown.2 with ⟨rfl, _⟩ | ⟨gb, cap, cur, rfl, _, hgb, _, hcm, hcz, _⟩
          · exact Xc.grow_none n.toNat (by omega) w
          · exact Xc.grow_some n.toNat (by omega) w gb cap cur hgb hcm hcz
        rw [← hnn] at key
        refine key.mono ?_
        rintro e w' ⟨v', rfl, hg, ho, hat⟩
        have hl' : ∀ k, v.ownBlock = some k → g.tag k = some (0, []) := hl
        obtain ⟨g', hle, hrw, hM⟩ := turn_grown hm [0] (fun k => if k < w.heap.size then (match g.tag k with | some (0, m) => some (1, m) | x => x) else some (1, [])) v v' ⟨3, .int .i64, ([] : List Int), .own⟩ rfl hg 0 (fun k hk => ⟨hl' k hk, rfl⟩)
          (fun k hk ht => by simp only [if_pos hk, ht])
          (fun k r m hk ht hc => by
            simp only [if_pos hk, ht]
            split
            · rename_i h; injection h with h; injection h with h1 h2; subst h1; cases hc
            · rfl)
          ⟨fun k hk => by
            rcases hat with hat | hat
            · have h1 : v.ownBlock = some k := by rw [← hat]; exact hk
              simp only [if_pos (own_lt hown k h1), hl' k h1]
              rfl
            · rw [hat] at hk
              injection hk with hk
              subst hk
              simp only [Nat.lt_irrefl, if_false]
              rfl, [], ho, fun i x hx => by cases hx⟩
        have hg0 : g'.rw[0]? = some v := by rw [hrw]; exact get_append_some hv
        have hrl : g.rw.length = 1 := hm.rl.symm
        exact ⟨g', [v'], rfl, hle.ext, hM, by show g'.rw[1]? = some v'; rw [hrw, List.getElem?_append_right (by omega), hrl]; rfl, trivial⟩
def sg286 : Sg := ⟨⟨[.one (.fn 332 [(0, 0)])], [(38, [.sl 0])], [(3, (.int .i64), .rop)]⟩, [.row (.int .i64)], ⟨[.one (.sl 1)], [(38, [.sl 0])], [(3, (.int .i64), .rop), (3, (.int .i64), .own)]⟩, [.row (.int .i64), .row (.int .i64)]⟩
noncomputable def E286 : Fun2 := eOf sg286 X.sorted
theorem good286 : Vm.Good Tryz.prog 286 E286 := by
  refine good_ext Tryz.func286 (by kernel_rfl) (by kernel_rfl) fun a t st hst ht g w vals hw hm hF => ?_
  obtain ⟨(xs : List Int), u⟩ := a
  have hst' : some (⟨[.s1 (.one (.fn 332 [(0, 0)]))], [(38, [.sl 0])], [⟨3, .int .i64, xs, .rop⟩]⟩ : St) = some st := hst
  injection hst' with hst'
  subst hst'
  have ht' : X.sorted xs = some t := ht
  unfold X.sorted at ht'
  cases hd : decide (xs.length ≤ 17592186043904) with
  | false => rw [hd] at ht'; cases ht'
  | true =>
    rw [hd] at ht'
    injection ht' with ht'
    subst ht'
    have hn := of_decide_eq_true hd
    match vals, hF with
    | [f], hF =>
      obtain ⟨us, hf, hus⟩ : ∃ us : Array Value, f = .func (.func 332) #[] us ∧ F2 (fun (x : Nat × Nat) u => ∃ blk, g.bx[x.1]? = some blk ∧ u = Value.pointer (some ⟨blk, x.2, none⟩)) [(0, 0)] us.toList := hF.1
      obtain ⟨u0, hu0⟩ : ∃ u0, us.toList = [u0] := by
        match hq : us.toList, hus with
        | [u0], _ => exact ⟨u0, rfl⟩
        | [], h => cases h
        | _ :: _ :: _, h => cases h.2
      rw [hu0] at hus
      obtain ⟨⟨blk, hblk, hu⟩, _⟩ := hus
      have hus2 : us = #[Value.pointer (some ⟨blk, 0, none⟩)] := by
        have : us = us.toList.toArray := by simp
        rw [this, hu0, hu]
      subst hus2
      subst hf
      obtain ⟨cs, hbh, hcs⟩ := hm.box (b := 0) rfl hblk
      obtain ⟨sv, hsv⟩ : ∃ sv, cs.toList = [sv] := by
        match hq : cs.toList, hcs with
        | [sv], _ => exact ⟨sv, rfl⟩
        | [], h => cases h
        | _ :: _ :: _, h => cases h.2
      rw [hsv] at hcs
      have hcs2 : cs = #[sv] := by
        have : cs = cs.toList.toArray := by simp
        rw [this, hsv]
      subst hcs2
      have hv : g.rw[0]? = some sv := hcs.1
      obtain ⟨A, c, rfl, hc, hC⟩ : ∃ A c, sv = .slice A xs.length c ∧ xs.length ≤ c ∧ (Sh.int .i64).kd.C g.rz A xs.length xs := hm.row (r := 0) rfl hv
      have hI : Xc.Ints w.heap.size w (.slice A xs.length c) xs := by
        match xs, hC with
        | [], _ => exact .inl ⟨A, c, rfl, rfl⟩
        | x :: xs, hC =>
          obtain ⟨ad, rfl, hcell⟩ := hC.2.2 (Nat.succ_pos _)
          have hget : ∀ (j : Nat) y, (x :: xs)[j]? = some y → w.cell? (ad.add j) = some (.int .i64 y) := by
            intro j y hj
            obtain ⟨cs, h1, h2, h3⟩ := hcell j y hj
            have h2' : cs = [.int .i64 y] := h2
            subst h2'
            have := h3 0 (.int .i64 y) rfl
            rw [show j * (Sh.int .i64).kd.sz + 0 = j from by show j * 1 + 0 = j; omega] at this
            exact hm.st.cell this
          obtain ⟨bk, o, sp⟩ := ad
          have h0 := hget 0 x rfl
          have hsp : sp = none := by
            cases sp with
            | none => rfl
            | some q =>
              have h0' : w.cell? ⟨bk, o, some q⟩ = some (.int .i64 x) := h0
              unfold World.cell? at h0'
              split at h0'
              · cases h0'
              · cases h0'
          subst hsp
          refine .inr ⟨bk, o, c, rfl, cell_lt (n := 0) h0, fun j hj => ?_⟩
          have := hget j _ (List.getElem?_eq_getElem hj)
          rw [show (⟨bk, o, none⟩ : Addr).add j = ⟨bk, o + j, none⟩ from by unfold Addr.add; split <;> simp_all] at this
          rw [this, List.getElem?_eq_getElem hj]
          rfl
      have hcB : w.cell? ⟨blk, 0, none⟩ = some (.slice A xs.length c) := by simp [World.cell?, hbh]
      have hlt : blk < w.heap.size := (Array.getElem?_eq_some_iff.1 hbh).1
      have key := (callsIn_wide (n := 6)).1 (Xc.sorted_in Fence.wide 6 trivial trivial trivial trivial trivial rfl (by omega)
        ⟨fun b off cap ss W hH hb hs => callsIn_wide.2 (Tryz.slices_Sort_int b off cap ss W hH hb hs), fun p cap W => callsIn_wide.2 (Tryz.slices_Sort_int_none p cap W)⟩ blk _ xs (by omega) w hlt hcB hI)
      refine key.mono ?_
      rintro e w' ⟨v', rfl, ho, hb⟩
      have hg : w.grownBy w' (Value.slice none 0 0).ownBlock := ⟨hb.os, hb.tape, hb.output, hb.size, fun k hk _ => hb.block k hk⟩
      have hrl : g.rw.length = 1 := hm.rl.symm
      have ho2 : w'.ownsRow w.heap.size 3 1 v' (xs.mergeSort (fun x y => decide (x ≤ y))).length ((xs.mergeSort (fun x y => decide (x ≤ y))).map (Value.int .i64)) := by rw [List.length_mergeSort]; exact ho
      have hz : ∀ (i : Nat) (x : Int), (xs.mergeSort (fun x y => decide (x ≤ y)))[i]? = some x → OE g.rz w' 0 (fun k => if k < w.heap.size then g.tag k else some (1, [])) 1 (.int .i64) ([] ++ [i]) 0 x ((((xs.mergeSort (fun x y => decide (x ≤ y))).map (Value.int .i64)).drop (i * 1)).take 1) := by
        intro i x hx
        show _ = _
        rw [Nat.mul_one, ← List.map_drop, ← List.map_take]
        obtain ⟨hi, he⟩ := List.getElem?_eq_some_iff.1 hx
        rw [List.drop_eq_getElem_cons hi, List.take_succ_cons, List.take_zero, he]
        rfl
      obtain ⟨g', hle, hrw, hM⟩ := turn_grown hm [] (fun k => if k < w.heap.size then g.tag k else some (1, [])) (.slice none 0 0) v' ⟨3, .int .i64, xs.mergeSort (fun x y => decide (x ≤ y)), .own⟩ rfl hg 0 (fun k hk => by cases hk)
        (fun k hk ht => by simp only [if_pos hk, ht]) (fun k r m hk ht hc => by simp only [if_pos hk, ht])
        ⟨fun k hk => by
          have hbk := own_base ho k hk
          simp only [if_neg (show ¬ k < w.heap.size from by omega)]
          rfl, _, own_weaken ho2 (Nat.zero_le _), hz⟩
      exact ⟨g', [v'], rfl, hle.ext, hM, by show g'.rw[1]? = some v'; rw [hrw, List.getElem?_append_right (by omega), hrl]; rfl, trivial⟩

theorem seg_left {cs ds : List Value} {n sz t : Nat} (h : cs.length = n * sz) (ht : t < n) : ((cs ++ ds).drop (t * sz)).take sz = (cs.drop (t * sz)).take sz := by
  have h1 : t * sz + sz ≤ n * sz := by rw [← Nat.succ_mul]; exact Nat.mul_le_mul_right _ ht
  rw [List.drop_append_of_le_length (by omega), List.take_append_of_le_length (by rw [List.length_drop]; omega)]
theorem seg_right {cs ds : List Value} {n sz t : Nat} (h : cs.length = n * sz) (ht : n ≤ t) : ((cs ++ ds).drop (t * sz)).take sz = (ds.drop ((t - n) * sz)).take sz := by
  have h1 : n * sz ≤ t * sz := Nat.mul_le_mul_right _ ht
  rw [List.drop_append, List.drop_of_length_le (by omega), List.nil_append, h, Nat.sub_mul]
def sg224 : Sg := ⟨⟨[.one (.sl 0), hh, .one (.sl 1)], [], [(113, cellSh, .own), (113, cellSh, .own)]⟩, [.int .i64, .row cellSh, .row cellSh], ⟨[.one (.sl 2)], [], [(113, cellSh, .dead), (113, cellSh, .dead), (113, cellSh, .own)]⟩, [.rowd cellSh, .rowd cellSh, .row cellSh]⟩
noncomputable def E224 : Fun2 := eOf sg224 X.insert
def insLab (i m size : Nat) (lab : Lab) : Lab := fun k =>
  if k < size then
    match lab k with
    | some (0, j :: r) => some (2, (if j < i then j else j + m) :: r)
    | some (0, []) => some (2, [])
    | some (1, j :: r) => some (2, (i + j) :: r)
    | x => x
  else some (2, [])
theorem good224 : Vm.Good Tryz.prog 224 E224 := by
  refine good_ext Tryz.func224 (by kernel_rfl) (by kernel_rfl) fun a t st hst ht g w vals hw hm hF => ?_
  obtain ⟨(i : Int), (xs : List CellT), (ys : List CellT), u⟩ := a
  have hst' : some (⟨[.s1 (.one (.sl 0)), .s1 (.one (.val (.int .i64 i))), .s1 (.one (.sl 1))], [], [⟨113, cellSh, xs, .own⟩, ⟨113, cellSh, ys, .own⟩]⟩ : St) = some st := hst
  injection hst' with hst'
  subst hst'
  have ht' : X.insert i xs ys = some t := ht
  unfold X.insert at ht'
  cases hd : decide (0 ≤ i ∧ i ≤ (xs.length : Int) ∧ 0 < ys.length ∧ (xs.length + ys.length) * 104 ≤ 140737488355328) with
  | false => rw [hd] at ht'; cases ht'
  | true =>
    rw [hd] at ht'
    injection ht' with ht'
    subst ht'
    obtain ⟨d1, d2, d3, d4⟩ := of_decide_eq_true hd
    match vals, hF with
    | [v, s, y], hF =>
      have hs : s = .int .i64 i := hF.2.1
      subst hs
      have hv : g.rw[0]? = some v := hF.1
      have hy : g.rw[1]? = some y := hF.2.2.1
      obtain ⟨hlX, cX, hX, heX⟩ : Vm.Own cellSh 113 g.rz w 0 g.tag 0 [] v xs := hm.row (r := 0) rfl hv
      obtain ⟨hlY, cY, hY, heY⟩ : Vm.Own cellSh 113 g.rz w 0 g.tag 1 [] y ys := hm.row (r := 1) rfl hy
      obtain ⟨I, rfl⟩ : ∃ I : Nat, i = (I : Int) := ⟨i.toNat, by omega⟩
      have hX' : w.ownsRow 0 113 11 v xs.length cX := hX
      have hY' : w.ownsRow 0 113 11 y ys.length cY := hY
      have o1 : ∀ u ∈ cX, u.oneCell' = true := segs_one (sz := 11) (by decide) hX'.1 fun j x hj => OE_one cellSh _ _ _ _ (heX j x hj)
      have o2 : ∀ u ∈ cY, u.oneCell' = true := segs_one (sz := 11) (by decide) hY'.1 fun j x hj => OE_one cellSh _ _ _ _ (heY j x hj)
      refine (Xc.ins_all v y xs.length ys.length I cX cY w hX' hY' (fun k h1 h2 => by
        have e1 := hlX k h1
        rw [hlY k h2] at e1
        cases e1) (by omega) d3 d4 o1 o2).mono ?_
      rintro e w' ⟨v', rfl, hg, ho, hat⟩
      have hrl : g.rw.length = 2 := hm.rl.symm
      have hkX : ∀ (q : List Nat) (j : Nat) (m : List Nat) k, k < w.heap.size → g.tag k = some (0, j :: m) → w'.heap[k]? = w.heap[k]? := fun q j m k hk ht => hg.block k hk fun he => by
        rw [hlX k he.symm] at ht
        cases ht
      have hkY : ∀ (m : List Nat) k, k < w.heap.size → g.tag k = some (1, m) → w'.heap[k]? = w.heap[k]? := fun m k hk ht => hg.block k hk fun he => by
        rw [hlX k he.symm] at ht
        cases ht
      have hlen : (xs.take I ++ ys ++ xs.drop I).length = xs.length + ys.length := by
        simp only [List.length_append, List.length_take, List.length_drop]
        omega
      have c1 : (cX.take (I * 11)).length = I * 11 := by rw [List.length_take, hX'.1]; omega
      have c2 : (cX.take (I * 11) ++ cY).length = (I + ys.length) * 11 := by rw [List.length_append, c1, hY'.1]; omega
      have hel : ∀ (j : Nat) (x : CellT), (xs.take I ++ ys ++ xs.drop I)[j]? = some x → OE g.rz w' 0 (insLab I ys.length w.heap.size g.tag) 2 cellSh ([] ++ [j]) 0 x ((((cX.take (I * 11) ++ cY ++ cX.drop (I * 11)).drop (j * 11)).take 11)) := by
        intro j x hj
        rcases Nat.lt_or_ge j (I + ys.length) with h1 | h1
        · have hl1 : (xs.take I).length = I := by rw [List.length_take]; omega
          rw [seg_left (n := I + ys.length) c2 h1]
          rw [List.getElem?_append_left (by rw [List.length_append, hl1]; exact h1)] at hj
          rcases Nat.lt_or_ge j I with h2 | h2
          · rw [List.getElem?_append_left (by omega), List.getElem?_take_of_lt h2] at hj
            rw [seg_left (n := I) c1 h2]
            have e1 : ((cX.take (I * 11)).drop (j * 11)).take 11 = (cX.drop (j * 11)).take 11 := by
              conv => rhs; rw [← List.take_append_drop (I * 11) cX]
              rw [seg_left (n := I) c1 h2]
            rw [e1]
            refine OE_move (q := [j]) (q' := [j]) (fun k m hlt _ hl => ⟨hkX [] j m k hlt hl, ?_⟩) (Nat.le_refl _) (fun _ _ h => h) cellSh [] 0 x _ (heX j x hj)
            unfold insLab
            have hl' : g.tag k = some (0, j :: m) := hl
            simp only [if_pos hlt, hl', if_pos h2]
            rfl
          · rw [List.getElem?_append_right (by omega), hl1] at hj
            rw [seg_right (n := I) c1 h2]
            refine OE_move (q := [j - I]) (q' := [j]) (fun k m hlt _ hl => ⟨hkY _ k hlt hl, ?_⟩) (Nat.le_refl _) (fun _ _ h => h) cellSh [] 0 x _ (heY (j - I) x hj)
            unfold insLab
            have hl' : g.tag k = some (1, (j - I) :: m) := hl
            simp only [if_pos hlt, hl', show I + (j - I) = j from by omega]
            rfl
        · have hl1 : (xs.take I ++ ys).length = I + ys.length := by rw [List.length_append, List.length_take]; omega
          rw [seg_right (n := I + ys.length) c2 h1]
          rw [List.getElem?_append_right (by omega), hl1, List.getElem?_drop] at hj
          have e1 : (cX.drop (I * 11)).drop ((j - (I + ys.length)) * 11) = cX.drop ((I + (j - (I + ys.length))) * 11) := by
            rw [List.drop_drop, Nat.add_mul]
          rw [e1]
          refine OE_move (q := [I + (j - (I + ys.length))]) (q' := [j]) (fun k m hlt _ hl => ⟨hkX [] _ m k hlt hl, ?_⟩) (Nat.le_refl _) (fun _ _ h => h) cellSh [] 0 x _ (heX _ x hj)
          unfold insLab
          have hl' : g.tag k = some (0, (I + (j - (I + ys.length))) :: m) := hl
          simp only [if_pos hlt, hl', if_neg (show ¬ I + (j - (I + ys.length)) < I from by omega), show I + (j - (I + ys.length)) + ys.length = j from by omega]
          rfl
      obtain ⟨g', hle, hrw, hM⟩ := turn_grown hm [0, 1] (insLab I ys.length w.heap.size g.tag) v v' ⟨113, cellSh, (xs.take I ++ ys ++ xs.drop I : List CellT), .own⟩ rfl hg 0 (fun k hk => ⟨hlX k hk, rfl⟩)
        (fun k hk ht => by unfold insLab; simp only [if_pos hk, ht])
        (fun k r m hk ht hc => by
          unfold insLab
          simp only [if_pos hk, ht]
          split
          · rename_i h; injection h with h; injection h with h1 h2; subst h1; cases hc
          · rename_i h; injection h with h; injection h with h1 h2; subst h1; cases hc
          · rename_i h; injection h with h; injection h with h1 h2; subst h1; cases hc
          · rfl)
        ⟨fun k hk => by
          rcases hat with hat | hat
          · have h1 : v.ownBlock = some k := by rw [← hat]; exact hk
            unfold insLab
            simp only [if_pos (own_lt hX' k h1), hlX k h1]
            rfl
          · rw [hat] at hk
            injection hk with hk
            subst hk
            unfold insLab
            simp only [Nat.lt_irrefl, if_false]
            rfl, _, by show w'.ownsRow 0 113 11 v' (xs.take I ++ ys ++ xs.drop I).length _; rw [hlen]; exact ho, hel⟩
      have hM' : Mem [] [⟨113, cellSh, ([] : List CellT), .dead⟩, ⟨113, cellSh, ([] : List CellT), .dead⟩, ⟨113, cellSh, (xs.take I ++ ys ++ xs.drop I : List CellT), .own⟩] g' w' := by
        refine mem_dead hM rfl fun {r row'} h => ?_
        match r, h with
        | 0, h => exact ⟨_, rfl, .inr (by injection h with h; subst h; rfl)⟩
        | 1, h => exact ⟨_, rfl, .inr (by injection h with h; subst h; rfl)⟩
        | 2, h => exact ⟨_, rfl, .inl (by injection h with h; exact h.symm)⟩
        | r + 3, h => cases h
      exact ⟨g', [v'], rfl, hle.ext, hM', by show g'.rw[2]? = some v'; rw [hrw, List.getElem?_append_right (by omega), hrl]; rfl, trivial⟩
end Go.Proofs.YtmbcnpbgcfiafaaGreat.Run
