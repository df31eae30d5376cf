/- A walk by reckoning: clear, at a stretch of a row of the call's own. -/
import Derived.Test.YtmbcnpbgcfiafaaGreatVmZ
namespace Go.Proofs.YtmbcnpbgcfiafaaGreat.Vm
open Go Go.RowKit Go.Proofs.YtmbcnpbgcfiafaaGreatW.PrintWords
set_option linter.unusedVariables false
set_option linter.unusedSimpArgs false

theorem mk_rest {st : St} : ∀ (s : Sh) (o : Nat) (cs : List AL) {x : s.den × List AL × List (Nat × Nat)}, s.mk st o cs = some x → ∃ n, x.2.1 = cs.drop n
  | .int k, o, cs, x, h => by
    have h : mkInt k cs = some x := h
    unfold mkInt at h
    split at h
    · split at h
      · injection h with h; subst h; exact ⟨1, rfl⟩
      · cases h
    · cases h
  | .bool, o, cs, x, h => by
    have h : mkBool cs = some x := h
    unfold mkBool at h
    split at h
    · injection h with h; subst h; exact ⟨1, rfl⟩
    · cases h
  | .str, o, cs, x, h => by
    have h : mkStr cs = some x := h
    unfold mkStr at h
    split at h
    · injection h with h; subst h; exact ⟨1, rfl⟩
    · cases h
  | .hv, o, cs, x, h => by
    have h : mkHv cs = some x := h
    unfold mkHv at h
    split at h
    · injection h with h; subst h; exact ⟨1, rfl⟩
    · cases h
  | .sl e s, o, cs, x, h => by
    have h : mkRow st e s o cs = some x := h
    unfold mkRow at h
    split at h
    · injection h with h; subst h; exact ⟨1, rfl⟩
    · split at h
      · cases h
      · obtain ⟨y, _, rfl⟩ := Option.map_eq_some_iff.1 h; exact ⟨1, rfl⟩
    · cases h
  | .rs e s, o, cs, x, h => by
    have h : mkRo st s cs = some x := h
    unfold mkRo at h
    split at h
    · injection h with h; subst h; exact ⟨1, rfl⟩
    · split at h
      · cases h
      · split at h
        · obtain ⟨y, _, rfl⟩ := Option.map_eq_some_iff.1 h; exact ⟨1, rfl⟩
        · cases h
    · cases h
  | .hr e s, o, cs, x, h => by
    have h : mkHr st s cs = some x := h
    unfold mkHr at h
    split at h
    · injection h with h; subst h; exact ⟨1, rfl⟩
    · split at h
      · cases h
      · split at h
        · obtain ⟨y, _, rfl⟩ := Option.map_eq_some_iff.1 h; exact ⟨1, rfl⟩
        · cases h
    · cases h
  | .pair a b, o, cs, x, h => by
    have h : ((a.mk st o cs).bind fun x => (b.mk st (o + a.sz) x.2.1).map fun y => ((x.1, y.1), y.2.1, x.2.2 ++ y.2.2)) = some x := h
    obtain ⟨y, hy, h⟩ := Option.bind_eq_some_iff.1 h
    obtain ⟨z, hz, rfl⟩ := Option.map_eq_some_iff.1 h
    obtain ⟨n, hn⟩ := mk_rest a o cs hy
    obtain ⟨m, hm⟩ := mk_rest b (o + a.sz) _ hz
    exact ⟨n + m, by show z.2.1 = _; rw [hm, hn, List.drop_drop]⟩
theorem mk_vals {st st' : St} : ∀ (s : Sh) (o : Nat) (vs : List Value), s.mk st o (vs.map .val) = s.mk st' o (vs.map .val)
  | .int _, _, _ => rfl
  | .bool, _, _ => rfl
  | .str, _, _ => rfl
  | .hv, _, _ => rfl
  | .sl e s, o, vs => by
    show mkRow st e s o _ = mkRow st' e s o _
    cases vs with
    | nil => rfl
    | cons v vs => rw [List.map_cons]; cases v <;> (try rfl); rename_i a l c; cases a <;> (try rfl); cases l <;> (try rfl); cases c <;> rfl
  | .rs e s, o, vs => by
    show mkRo st s _ = mkRo st' s _
    cases vs with
    | nil => rfl
    | cons v vs => rw [List.map_cons]; cases v <;> (try rfl); rename_i a l c; cases a <;> (try rfl); cases l <;> (try rfl); cases c <;> rfl
  | .hr e s, o, vs => by
    show mkHr st s _ = mkHr st' s _
    cases vs with
    | nil => rfl
    | cons v vs => rw [List.map_cons]; cases v <;> (try rfl); rename_i a l c; cases a <;> (try rfl); cases l <;> (try rfl); cases c <;> rfl
  | .pair a b, o, vs => by
    show (a.mk st o _).bind _ = (a.mk st' o _).bind _
    rw [mk_vals (st := st) (st' := st') a o vs]
    cases h : a.mk st' o (vs.map .val) with
    | none => rfl
    | some x =>
      obtain ⟨n, hn⟩ := mk_rest a o _ h
      simp only [Option.bind_some]
      rw [hn, ← List.map_drop, mk_vals (st := st) (st' := st') b (o + a.sz) (vs.drop n)]
def clr {α : Type} (xs : List α) (lo m : Nat) (x : α) : List α := xs.take lo ++ List.replicate m x ++ xs.drop (lo + m)
theorem clr_get {α : Type} {xs : List α} {lo m : Nat} {x : α} (h : lo + m ≤ xs.length) (j : Nat) : (clr xs lo m x)[j]? = if lo ≤ j ∧ j < lo + m then some x else xs[j]? := by
  have hl : (xs.take lo).length = lo := by rw [List.length_take]; omega
  unfold clr
  by_cases h1 : j < lo
  · rw [if_neg (by omega), List.append_assoc, List.getElem?_append_left (by omega), List.getElem?_take, if_pos h1]
  · by_cases h2 : j < lo + m
    · rw [if_pos ⟨by omega, h2⟩, List.append_assoc, List.getElem?_append_right (by omega), List.getElem?_append_left (by rw [List.length_replicate]; omega), List.getElem?_replicate, if_pos (by omega)]
    · rw [if_neg (by omega), List.getElem?_append_right (by rw [List.length_append, List.length_replicate]; omega), List.length_append, List.length_replicate, hl, List.getElem?_drop]
      congr 1
      omega
theorem clr_len {α : Type} {xs : List α} {lo m : Nat} {x : α} (h : lo + m ≤ xs.length) : (clr xs lo m x).length = xs.length := by
  unfold clr
  simp
  omega
theorem clr_zero {α : Type} {xs : List α} {lo : Nat} {x : α} : clr xs lo 0 x = xs := by
  unfold clr
  simp
theorem clr_succ {α : Type} {xs : List α} {lo m : Nat} {x : α} (h : lo + (m + 1) ≤ xs.length) : (clr xs lo m x).set (lo + m) x = clr xs lo (m + 1) x := by
  apply List.ext_getElem?
  intro j
  rw [clr_get h, List.getElem?_set, clr_len (by omega), clr_get (by omega)]
  by_cases h1 : lo + m = j
  · rw [if_pos h1, if_pos (by omega), if_pos (by omega)]
  · rw [if_neg h1]
    by_cases h2 : lo ≤ j ∧ j < lo + m
    · rw [if_pos h2, if_pos (by omega)]
    · rw [if_neg h2, if_neg (by omega)]
theorem storeCells_app (ad : Addr) : ∀ (us vs : List Value) (i : Nat), storeCells ad (us ++ vs) i = (do storeCells ad us i; storeCells ad vs (i + us.length))
  | [], vs, i => by
    show storeCells ad vs i = _
    simp [storeCells]
  | u :: us, vs, i => by
    show (do store (ad.add i) u; storeCells ad (us ++ vs) (i + 1)) = _
    rw [storeCells_app ad us vs (i + 1)]
    show _ = (do (do store (ad.add i) u; storeCells ad us (i + 1)); storeCells ad vs (i + (us.length + 1)))
    simp only [bind_assoc]
    rw [show i + 1 + us.length = i + (us.length + 1) from by omega]
theorem storeCells_shift (ad : Addr) (k : Nat) : ∀ (vs : List Value) (i : Nat), storeCells ad vs (k + i) = storeCells (ad.add k) vs i
  | [], i => rfl
  | v :: vs, i => by
    show (do store (ad.add (k + i)) v; storeCells ad vs (k + i + 1)) = (do store ((ad.add k).add i) v; storeCells (ad.add k) vs (i + 1))
    rw [add_add, ← storeCells_shift ad k vs (i + 1)]
    rfl
theorem zeroCells_succ (z : Array Value) (m : Nat) : (Builtin.zeroCells z (m + 1)).toList = (Builtin.zeroCells z m).toList ++ z.toList := by
  apply List.ext_getElem?
  intro j
  unfold Builtin.zeroCells
  simp only [Array.toList_map, Array.toList_range]
  rw [List.getElem?_append]
  simp only [List.length_map, List.length_range]
  by_cases h1 : j < m * z.size
  · rw [if_pos h1, List.getElem?_map, List.getElem?_map, List.getElem?_range h1, List.getElem?_range (by rw [Nat.succ_mul]; omega)]
  · rw [if_neg h1]
    by_cases h2 : j < (m + 1) * z.size
    · have h3 : j - m * z.size < z.size := by rw [Nat.succ_mul] at h2; omega
      rw [List.getElem?_map, List.getElem?_range h2]
      have h4 : j % z.size = j - m * z.size := by
        have : j = m * z.size + (j - m * z.size) := by omega
        rw [this, Nat.mul_add_mod_self_right, Nat.mod_eq_of_lt h3]
        omega
      simp only [Option.map_some, h4]
      have h5 : j - m * z.size < z.toList.length := by simpa using h3
      rw [List.getElem?_eq_getElem h5]
      simp [h3]
    · rw [List.getElem?_map, List.getElem?_eq_none (by simpa using h2), List.getElem?_eq_none (by rw [Nat.succ_mul] at h2; simp; omega)]
      rfl
theorem Mem.weaker {bs : List (TypeId × List AL)} {rs rs' : List Row} {g : Gh} {w : World} (h : Mem bs rs g w) (hl : rs'.length = rs.length) (hr : ∀ {i : Nat} {row : Row}, rs'[i]? = some row → row.md = .dead ∨ rs[i]? = some row) : Mem bs rs' g w :=
  ⟨h.bl, h.box, h.free, h.inj, hl.trans h.rl, fun {i row v} h1 h2 => by
    rcases hr h1 with hd | hd
    · unfold RowRel
      rw [hd]
      have hlt : i < rs.length := by rw [← hl]; exact (List.getElem?_eq_some_iff.1 h1).1
      exact (h.row (List.getElem?_eq_getElem hlt) h2).slice
    · exact h.row hd h2, h.st, h.dom⟩
theorem put_whole {st : St} : ∀ (s : Sh) (x : s.den) (o : Nat) (cs : List AL), s.put st x o 0 s.sz cs = (s.mk st o cs).map fun y => (y.1, y.2.2)
  | .int _, _, _, _ => by unfold Sh.put; exact if_pos ⟨rfl, rfl⟩
  | .bool, _, _, _ => by unfold Sh.put; exact if_pos ⟨rfl, rfl⟩
  | .str, _, _, _ => by unfold Sh.put; exact if_pos ⟨rfl, rfl⟩
  | .sl _ _, _, _, _ => by unfold Sh.put; exact if_pos ⟨rfl, rfl⟩
  | .rs _ _, _, _, _ => by unfold Sh.put; exact if_pos ⟨rfl, rfl⟩
  | .hr _ _, _, _, _ => by unfold Sh.put; exact if_pos ⟨rfl, rfl⟩
  | .hv, _, _, _ => by unfold Sh.put; exact if_pos ⟨rfl, rfl⟩
  | .pair _ _, _, _, _ => by unfold Sh.put; exact if_pos ⟨rfl, rfl⟩
theorem killed_set {rs : List Row} {r : Nat} {row1 row2 : Row} : (killed [r] 0 ((killed [r] 0 rs).set r row1)).set r row2 = (killed [r] 0 rs).set r row2 := by
  apply List.ext_getElem?
  intro i
  rw [List.getElem?_set, List.getElem?_set]
  by_cases h1 : r = i
  · rw [if_pos h1, if_pos h1, killed_length, List.length_set]
  · rw [if_neg h1, if_neg h1]
    cases hi : rs[i]? with
    | none =>
      have hn : rs.length ≤ i := List.getElem?_eq_none_iff.1 hi
      rw [List.getElem?_eq_none (by rw [killed_length, List.length_set, killed_length]; exact hn), List.getElem?_eq_none (by rw [killed_length]; exact hn)]
    | some row =>
      have h2 := killed_at [r] 0 rs hi
      have h3 : ((killed [r] 0 rs).set r row1)[i]? = some (if dies [r] (0 + i) row.md = true then { row with md := .dead } else row) := by
        rw [List.getElem?_set_ne h1]
        exact h2
      rw [killed_at [r] 0 _ h3, h2]
      congr 1
      by_cases h4 : dies [r] (0 + i) row.md = true
      · rw [if_pos h4]
        split <;> rfl
      · rw [if_neg h4, if_neg h4]
theorem F2.of_vals {g : Gh} : ∀ vs : List Value, F2 (AL.R g) (vs.map .val) vs
  | [] => trivial
  | v :: vs => ⟨rfl, F2.of_vals vs⟩
theorem clr_rel {P : Program} {st : St} {g : Gh} {w : World} (hm : Mem st.boxes st.rows g w) {r : Nat} {row : Row} (hrow : st.rows[r]? = some row) (hmd : row.md = .own) {ad : Addr} {len cap : Nat} (hv : g.rw[r]? = some (.slice (some ad) len cap))
    {z : Array Value} {x0 : row.s.den} {rest : List AL} (hmk : ∀ st' : St, row.s.mk st' 0 (z.toList.map .val) = some (x0, rest, [])) (hl : z.size = row.s.sz) (hone : ∀ u ∈ z.toList, u.oneCell' = true) {lo : Nat} : ∀ m, lo + m ≤ len →
    ∃ w' g', g.le g' ∧ (storeCells (ad.add (lo * row.s.sz)) (Builtin.zeroCells z m).toList).run P w = .ok () w' ∧ Mem st.boxes ((killed [r] 0 st.rows).set r { row with xs := clr row.xs lo m x0 }) g' w' := by
  have ho := hm.row hrow hv
  unfold RowRel at ho
  rw [hmd] at ho
  have hlen : row.xs.length = len := by
    obtain ⟨hvo, inner, hown, hel⟩ := ho
    rcases hown.2 with ⟨he, _⟩ | ⟨gb, cap', cur, he, _⟩
    · cases he
    · injection he with he1 he2 he3
      exact he2.symm
  have hlt : r < st.rows.length := (List.getElem?_eq_some_iff.1 hrow).1
  intro m
  induction m with
  | zero =>
    intro _
    refine ⟨w, g, .refl g, ?_, ?_⟩
    · have : (Builtin.zeroCells z 0).toList = [] := by unfold Builtin.zeroCells; simp
      rw [this]
      rfl
    · rw [clr_zero]
      refine hm.weaker (by rw [List.length_set, killed_length]) fun {i row'} h => ?_
      rw [List.getElem?_set] at h
      by_cases h1 : r = i
      · subst h1
        rw [if_pos rfl, if_pos (by rw [killed_length]; exact hlt)] at h
        injection h with h
        subst h
        exact .inr hrow
      · rw [if_neg h1] at h
        obtain ⟨row0, h2, h3⟩ := killed_get [r] 0 st.rows h
        rcases h3 with h3 | ⟨_, h3⟩
        · exact .inl h3
        · subst h3
          exact .inr h2
  | succ m ih =>
    intro hb
    obtain ⟨w1, g1, hle, hrun, hm1⟩ := ih (by omega)
    let row1 : Row := { row with xs := clr row.xs lo m x0 }
    let st1 : St := ⟨st.tmps, st.boxes, (killed [r] 0 st.rows).set r row1⟩
    have hrow1 : st1.rows[r]? = some row1 := by
      show ((killed [r] 0 st.rows).set r row1)[r]? = some row1
      rw [List.getElem?_set_self (by rw [killed_length]; exact hlt)]
    have hput : row1.s.put st1 (row1.at_ ((lo + m : Nat) : Int)) 0 0 row1.s.sz (z.toList.map .val) = some (x0, []) := by
      rw [put_whole]
      show (row.s.mk st1 0 _).map _ = _
      rw [hmk st1]
      rfl
    obtain ⟨w2, g2, hle2, hrun2, hm2⟩ := Mem.setElem (P := P) (st := st1) hm1 hrow1 hmd (hle.rw hv) (i := lo + m) (off := 0) (n := row1.s.sz) (by omega) (us := z.toList) hput rfl rfl (F2.of_vals _) (by rw [Array.length_toList]; exact hl) hone
    refine ⟨w2, g2, hle.trans hle2, ?_, ?_⟩
    · rw [zeroCells_succ, storeCells_app, Sem.run_bind, hrun]
      simp only [Result.andThen_ok]
      have h5 : (Builtin.zeroCells z m).toList.length = m * row.s.sz := by
        unfold Builtin.zeroCells
        simp [hl]
      rw [h5, Nat.zero_add, ← Nat.add_zero (m * row.s.sz), storeCells_shift, add_add, ← Nat.add_mul]
      exact hrun2
    · have h6 : (clr row.xs lo m x0).set (lo + m) x0 = clr row.xs lo (m + 1) x0 := clr_succ (by omega)
      have h7 := hm2
      rw [show (killed (r :: List.map (fun x : Nat × Nat => x.1) []) 0 st1.rows) = killed [r] 0 ((killed [r] 0 st.rows).set r row1) from rfl, killed_set] at h7
      rw [← h6]
      exact h7
section
variable (P : Program)
def clearA (st : St) (t : TypeId) (x : AL) : Option St :=
  match P.underlying t with
  | some (.slice e) =>
    match P.info? e with
    | some i =>
      match i.zero, x with
      | some z, .vw r sz lo hi =>
        match st.rows[r]? with
        | some row =>
          match row.md with
          | .own =>
            if sz = row.s.sz ∧ z.cells.size = row.s.sz then
              match row.s.mk ⟨[], [], []⟩ 0 (z.cells.toList.map .val) with
              | some x0 =>
                match x0.2.2, z.cells.toList.all Value.oneCell' with
                | [], true => some { st with rows := (killed [r] 0 st.rows).set r { row with xs := clr row.xs lo.toNat (hi.toNat - lo.toNat) x0.1 } }
                | _, _ => none
              | none => none
            else none
          | _ => none
        | none => none
      | _, _ => none
    | none => none
  | _ => none
end
theorem clearA_run {P : Program} {st st' : St} {g : Gh} {w : World} (hm : Mem st.boxes st.rows g w) {t ty : TypeId} {x : AL} {v : Value} (hx : x.R g v) (h : clearA P st t x = some st') :
    ∃ w' g', g.le g' ∧ (Builtin.clear_ #[t] ty #[v]).run P w = .ok undef w' ∧ Mem st'.boxes st'.rows g' w' ∧ st'.tmps = st.tmps := by
  unfold clearA at h
  split at h
  · rename_i e hu
    split at h
    · rename_i i hi
      split at h
      · rename_i z r sz lo hi' hz
        split at h
        · rename_i row hrow
          split at h
          · rename_i hmd
            split at h
            · rename_i hc
              obtain ⟨hsz, hzs⟩ := hc
              split at h
              · rename_i x0 hx0
                obtain ⟨x0, rest, mv⟩ := x0
                split at h
                · rename_i hmv hone
                  simp only [Option.some.injEq] at h
                  subst h
                  have hmv : mv = [] := hmv
                  subst hmv
                  subst hsz
                  obtain ⟨A, n, c, A', hv, h0, h1, h2, h3, h4, h5, rfl⟩ := hx
                  have hmk : ∀ st' : St, row.s.mk st' 0 (z.cells.toList.map .val) = some (x0, rest, []) := fun st' => by rw [mk_vals (st := st') (st' := ⟨[], [], []⟩)]; exact hx0
                  have hone' : ∀ u ∈ z.cells.toList, u.oneCell' = true := List.all_eq_true.1 hone
                  have ho := hm.row hrow hv
                  unfold RowRel at ho
                  rw [hmd] at ho
                  obtain ⟨_, inner, hown, _⟩ := ho
                  cases A with
                  | some ad =>
                    have hb : lo.toNat + (hi'.toNat - lo.toNat) ≤ n := by omega
                    obtain ⟨w', g', hle, hrun, hm'⟩ := clr_rel (P := P) hm hrow hmd hv hmk hzs hone' (hi'.toNat - lo.toNat) hb
                    refine ⟨w', g', hle, ?_, hm', rfl⟩
                    cases hk : hi'.toNat - lo.toNat with
                    | zero =>
                      rw [hk] at hrun
                      have e0 : (Builtin.zeroCells z.cells 0).toList = [] := by unfold Builtin.zeroCells; simp
                      rw [e0] at hrun
                      have hw : w = w' := by
                        have : Result.ok () w = Result.ok () w' := hrun
                        injection this
                      subst hw
                      cases A' <;> simp [Builtin.clear_, run_underlying hu, undef]
                    | succ k =>
                      rw [hk] at hrun
                      have hA : A' = some (ad.add (lo.toNat * row.s.sz)) := h4 (by omega)
                      subst hA
                      have hzv : (zeroValue e).run P w = .ok z w := by simp [zeroValue, typeInfo, hi, hz]
                      simp [Builtin.clear_, run_underlying hu, hzv, hrun, undef]
                  | none =>
                    have hn : n = 0 := by
                      rcases hown.2 with ⟨he, h6⟩ | ⟨gb, cap', cur, he, _⟩
                      · injection he
                      · cases he
                    subst hn
                    have e1 : hi'.toNat - lo.toNat = 0 := by omega
                    have hlen : row.xs = [] := by
                      rcases hown.2 with ⟨he, h6⟩ | ⟨gb, cap', cur, he, _⟩
                      · exact List.eq_nil_of_length_eq_zero h6
                      · cases he
                    rw [e1, clr_zero]
                    have hlt : r < st.rows.length := (List.getElem?_eq_some_iff.1 hrow).1
                    refine ⟨w, g, .refl g, ?_, ?_, rfl⟩
                    · cases A' <;> simp [Builtin.clear_, run_underlying hu, undef]
                    · refine hm.weaker (by rw [List.length_set, killed_length]) fun {i row'} h => ?_
                      rw [List.getElem?_set] at h
                      by_cases h1 : r = i
                      · subst h1
                        rw [if_pos rfl, if_pos (by rw [killed_length]; exact hlt)] at h
                        injection h with h
                        subst h
                        exact .inr hrow
                      · rw [if_neg h1] at h
                        obtain ⟨row0, h2, h3⟩ := killed_get [r] 0 st.rows h
                        rcases h3 with h3 | ⟨_, h3⟩
                        · exact .inl h3
                        · subst h3
                          exact .inr h2
                · cases h
              · cases h
            · cases h
          · cases h
        · cases h
      · cases h
    · cases h
  · cases h
theorem killed_killed (ids jds : List Nat) : ∀ (n : Nat) (rs : List Row), killed ids n (killed jds n rs) = killed (jds ++ ids) n rs
  | _, [] => rfl
  | n, r :: rs => by
    simp only [killed]
    rw [killed_killed ids jds (n + 1) rs]
    congr 1
    unfold dies
    by_cases h1 : (!r.md.isRo && jds.contains (r.md.root n)) = true
    · have h2 : (!r.md.isRo && (jds ++ ids).contains (r.md.root n)) = true := by
        simp only [Bool.and_eq_true, List.contains_iff_mem, List.mem_append] at h1 ⊢
        exact ⟨h1.1, .inl h1.2⟩
      rw [if_pos h1, if_pos h2]
      split <;> rfl
    · rw [if_neg h1]
      have h3 : (!r.md.isRo && (jds ++ ids).contains (r.md.root n)) = (!r.md.isRo && ids.contains (r.md.root n)) := by
        cases hr : r.md.isRo
        · rw [hr] at h1
          have h4 : ¬ jds.contains (r.md.root n) = true := h1
          rw [Bool.eq_iff_iff]
          simp only [Bool.not_false, Bool.true_and, List.contains_iff_mem, List.mem_append] at h4 ⊢
          constructor
          · rintro (h | h)
            · exact absurd h h4
            · exact h
          · exact .inr
        · rfl
      rw [h3]
section
variable (P : Program)
def subIn (st : St) (ps : List (Nat × Operand)) : Option Nat :=
  (ps.flatMap fun x => (st.eval x.2).all).findSome? fun x =>
    match x with
    | .sl r =>
      match st.rows[r]? with
      | some row =>
        match row.md with
        | .sub _ _ _ _ => some r
        | _ => none
      | none => none
    | _ => none
def isDead (st : St) (r : Nat) : Bool :=
  match st.rows[r]? with
  | some row =>
    match row.md with
    | .dead => true
    | _ => false
  | none => false
def litD (st : St) (t : TypeId) (n : Nat) (parts : List (Nat × Operand)) : Option (AL × St) :=
  match litA P st t n parts with
  | some y => some y
  | none =>
    match subIn st parts with
    | some r =>
      match st.detach r with
      | some x =>
        match litA P x.1 t n parts with
        | some y =>
          match isDead y.2 r with
          | true => some y
          | false => none
        | none => none
      | none => none
    | none => none
end
theorem litD_run {P : Program} {st st' : St} {g : Gh} {a : Act} {w : World} (hR : Rel st g a w) {t : TypeId} {n : Nat} {parts : Array (Nat × Operand)} {y : AL} (h : litD P st t n parts.toList = some (y, st')) :
    ∃ g' w' v, g.le g' ∧ Mem st'.boxes st'.rows g' w' ∧ st'.tmps = st.tmps ∧ y.R g' v ∧ (Instr.buildSlice t n (parts.map fun x => (x.1, a.eval x.2))).run P w = .ok v w' := by
  unfold litD at h
  split at h
  · rename_i y' hy'
    rw [h] at hy'
    exact litA_run hR hy'
  · split at h
    · rename_i r hr
      split at h
      · rename_i x hx
        obtain ⟨st1, H⟩ := x
        split at h
        · rename_i y' hy'
          split at h
          · rw [h] at hy'
            obtain ⟨v, blk, m, c, hm1, ht1, _⟩ := detach_rel hR.mem hx
            have hle : g.le ⟨g.bx, g.rw, labTake H.q H.i H.off r g.tag, g.wz, g.lent, g.w0, g.rz⟩ := ⟨fun h => h, fun h => h, rfl, fun h => h, fun h => h, fun h => .inl h⟩
            have hR1 : Rel st1 ⟨g.bx, g.rw, labTake H.q H.i H.off r g.tag, g.wz, g.lent, g.w0, g.rz⟩ a w := ⟨by rw [ht1]; exact hR.tmps.imp fun _ _ => AV.R_le hle, hR.defers, hm1⟩
            obtain ⟨g', w', u, h1, h2, h3, h4, h5⟩ := litA_run hR1 hy'
            exact ⟨g', w', u, hle.trans h1, h2, h3.trans ht1, h4, h5⟩
          · cases h
        · cases h
      · cases h
    · cases h
end Go.Proofs.YtmbcnpbgcfiafaaGreat.Vm
