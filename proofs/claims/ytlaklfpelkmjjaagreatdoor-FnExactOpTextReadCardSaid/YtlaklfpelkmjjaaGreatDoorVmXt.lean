/- The library's functions that are taken by their contracts: strconv.Itoa, strings.Join. -/
import Derived.Test.YtlaklfpelkmjjaaGreatDoorVmU
import Derived.Test.YtlaklfpelkmjjaaGreatDoorVmShelf
import Derived.Lib.AppendIntMem
import Derived.Lib.SplitLaws
namespace Go.Proofs.YtlaklfpelkmjjaaGreatDoor.Run
open Go Go.RowKit Go.Proofs.YtlaklfpelkmjjaaGreatDoorW.PrintWords Go.Proofs.YtlaklfpelkmjjaaGreatDoor.Vm
set_option linter.unusedVariables false
set_option linter.unusedSimpArgs false
def X.itoa (n : Int) : Option ByteArray := bif decide (-9223372036854775808 ≤ n ∧ n ≤ 9223372036854775807) then some ⟨(Lib.itoa n).toArray⟩ else none
def X.join (sep : ByteArray) (xs : List ByteArray) : Option ByteArray := bif decide ((Lib.join (xs.map (·.data.toList)) sep.data.toList).length ≤ 140737488355328 ∧ xs.length ≤ 140737488355328) then some ⟨(Lib.join (xs.map (·.data.toList)) sep.data.toList).toArray⟩ else none
def sg55 : Sg := ⟨⟨[hh], [], []⟩, [.int .i64], ⟨[hh], [], []⟩, [.str]⟩
def E55 : Fun2 := eOf sg55 X.itoa
theorem good55 : Vm.Good Tryz.prog 55 E55 := by
  refine good_ext Tryz.func55 (by kernel_rfl) (by kernel_rfl) fun a t st hst ht g w vals hw hm hF => ?_
  obtain ⟨n, u⟩ := a
  have hst' : some (⟨[.s1 (.one (.val (.int .i64 n)))], [], []⟩ : St) = some st := hst
  injection hst' with hst'
  subst hst'
  have ht' : X.itoa n = some t := ht
  unfold X.itoa at ht'
  cases hd : decide (-9223372036854775808 ≤ n ∧ n ≤ 9223372036854775807) with
  | false => rw [hd] at ht'; cases ht'
  | true =>
    rw [hd] at ht'
    injection ht' with ht'
    subst ht'
    have hn := of_decide_eq_true hd
    match vals, hF with
    | [v], hF =>
      have hv : v = .int .i64 n := hF.1
      subst hv
      refine (Tryz.strconv_Itoa n hn.1 hn.2 w (tab_is (i := 7) (by kernel_rfl) (by simp [tabL]) hm.st)).mono fun e w' hw' => ?_
      obtain ⟨rfl, k, os, rfl⟩ := hw'
      exact ⟨g, [.string ⟨(Lib.itoa n).toArray⟩], rfl, .refl _ _, hm.keep (Lib.below_grow _ w (Nat.le_refl _) k os), rfl, trivial⟩
theorem mem_nil {g : Gh} {w : World} (hs : Stab g w) : Mem [] [] ⟨[], [], fun _ => none, g.wz, g.lent, g.w0⟩ w :=
  { bl := rfl, box := fun h _ => by simp at h, free := fun h => by simp at h, inj := fun h _ => by simp at h, rl := rfl, row := fun h _ => by simp at h, st := hs.mono rfl (fun _ => rfl), dom := fun h => by cases h }
def sg56 : Sg := ⟨⟨[.one (.sl 0), hh], [], [(9, .str, .ro)]⟩, [.str, .row .str], ⟨[hh], [], []⟩, [.str]⟩
def E56 : Fun2 := eOf sg56 X.join
theorem good56 : Vm.Good Tryz.prog 56 E56 := by
  refine good_ext Tryz.func56 (by kernel_rfl) (by kernel_rfl) fun a t st hst ht g w vals hw hm hF => ?_
  obtain ⟨(sep : ByteArray), (xs : List ByteArray), u⟩ := a
  have hst' : some (⟨[.s1 (.one (.sl 0)), .s1 (.one (.val (.string sep)))], [], [⟨9, .str, xs, .ro⟩]⟩ : St) = some st := hst
  injection hst' with hst'
  subst hst'
  have ht' : X.join sep xs = some t := ht
  unfold X.join at ht'
  cases hd : decide ((Lib.join (xs.map (·.data.toList)) sep.data.toList).length ≤ 140737488355328 ∧ xs.length ≤ 140737488355328) with
  | false => rw [hd] at ht'; cases ht'
  | true =>
    rw [hd] at ht'
    injection ht' with ht'
    subst ht'
    have hn := of_decide_eq_true hd
    match vals, hF with
    | [v, s], hF =>
      have hs : s = .string sep := hF.2.1
      subst hs
      have hv : g.rw[0]? = some v := hF.1
      obtain ⟨A, c, rfl, hc, hC⟩ := hm.row (r := 0) rfl hv
      have fin : ∀ (S : ByteArray) e w', e = .returned (.string S) → Below w.heap.size w w' → Vm.Ends (0, 0) (resOf sg56.rsk (encP sg56.rks (toA sg56.rks S))) g e w' := by
        intro S e w' he hb
        exact ⟨⟨[], [], fun _ => none, g.wz, g.lent, g.w0⟩, [.string S], he, ⟨fun h => by omega, fun h => by omega, rfl, fun h => h⟩, mem_nil (hm.keep hb).st, rfl, trivial⟩
      match xs, hC, hc, hn, fin with
      | [], _, _, _, fin => exact (Tryz.strings_Join_none A c sep w).mono fun e w' ⟨he, hw'⟩ => fin _ e w' he (hw' ▸ Below.refl _ _)
      | x :: xs, hC, hc, hn, fin =>
        obtain ⟨ad, rfl, hcell⟩ := hC.2.2 (Nat.succ_pos _)
        have hget : ∀ (j : Nat) y, (x :: xs)[j]? = some y → w.cell? (ad.add j) = some (.string y) := by
          intro j y hj
          obtain ⟨cs, h1, h2, h3⟩ := hcell j y hj
          have h2' : cs = [.string y] := h2
          subst h2'
          have := h3 0 (.string y) rfl
          rw [show j * Sh.str.kd.sz + 0 = j from by show j * 1 + 0 = j; omega] at this
          exact hm.st.cell this
        obtain ⟨bk, o, sp⟩ := ad
        have h0 := hget 0 x rfl
        have hsp : sp = none := by
          cases sp with
          | none => rfl
          | some q =>
            have h0' : w.cell? ⟨bk, o, some q⟩ = some (.string x) := h0
            unfold World.cell? at h0'
            split at h0'
            · cases h0'
            · cases h0'
        subst hsp
        have hbk : bk < w.heap.size := cell_lt (n := 0) h0
        refine (Tryz.strings_Join bk o c (x :: xs) sep w (fun j y hj => ?_) hbk hn.2 hc hn.1).mono fun e w' ⟨he, hb⟩ => fin _ e w' he hb
        have := hget j y hj
        rwa [show (⟨bk, o, none⟩ : Addr).add j = ⟨bk, o + j, none⟩ from by unfold Addr.add; split <;> simp_all] at this
def X.fields (s : ByteArray) : Option (List ByteArray) := bif decide ((s.size < 4294967281 ∧ ∀ b ∈ s.data.toList, b.toNat < 128) ∧ (Lib.fields s.data.toList).length ≤ 9223372036854775807) then some ((Lib.fields s.data.toList).map fun l => (⟨l.toArray⟩ : ByteArray)) else none
def sg19 : Sg := ⟨⟨[hh], [], []⟩, [.str], ⟨[.one (.sl 0)], [], [(9, .str, .own)]⟩, [.row .str]⟩
def E19 : Fun2 := eOf sg19 X.fields
theorem own_strs {wz w : World} {lab : Lab} {r : Nat} (L : List ByteArray) (hlab : lab w.heap.size = some (r, [])) (hn : L.length ≤ 9223372036854775807) : Own .str 9 wz (w.alloc (.cells (L.map Value.string).toArray 9)) 0 lab r [] (.slice (some ⟨w.heap.size, 0, none⟩) L.length L.length) L := by
  have ho := World.ownsRow_lit (base := 0) (e := 9) (size := 1) w (L.map Value.string).toArray L.length (Nat.zero_le _) (by unfold maxLen; omega) (by simp)
  have ho' : (w.alloc (.cells (L.map Value.string).toArray 9)).ownsRow 0 9 Sh.str.sz (.slice (some ⟨w.heap.size, 0, none⟩) L.length L.length) L.length (L.map Value.string) := by simpa [Sh.sz] using ho
  refine ⟨fun k hk => ?_, L.map Value.string, ho', fun i x hx => ?_⟩
  · have : w.heap.size = k := by simpa [Value.ownBlock] using hk
    rw [← this]; exact hlab
  · show ((L.map Value.string).drop (i * 1)).take 1 = [.string x]
    have hi : i < (L.map Value.string).length := by rw [List.length_map]; exact (List.getElem?_eq_some_iff.1 hx).1
    rw [Nat.mul_one, List.drop_eq_getElem_cons hi]
    have h2 := (List.getElem?_eq_some_iff.1 hx).2
    rw [List.take_succ_cons, List.take_zero, List.getElem_map]
    exact congrArg (fun y : ByteArray => [Value.string y]) h2
theorem good19 : Vm.Good Tryz.prog 19 E19 := by
  refine good_ext Tryz.func19 (by kernel_rfl) (by kernel_rfl) fun a t st hst ht g w vals hw hm hF => ?_
  obtain ⟨(s : ByteArray), u⟩ := a
  have hst' : some (⟨[.s1 (.one (.val (.string s)))], [], []⟩ : St) = some st := hst
  injection hst' with hst'
  subst hst'
  have ht' : X.fields s = some t := ht
  unfold X.fields at ht'
  cases hd : decide ((s.size < 4294967281 ∧ ∀ b ∈ s.data.toList, b.toNat < 128) ∧ (Lib.fields s.data.toList).length ≤ 9223372036854775807) with
  | false => rw [hd] at ht'; cases ht'
  | true =>
    rw [hd] at ht'
    injection ht' with ht'
    subst ht'
    obtain ⟨hn, hlen⟩ := of_decide_eq_true hd
    match vals, hF with
    | [v], hF =>
      have hv : v = .string s := hF.1
      subst hv
      refine (Tryz.strings_Fields_laid s w hn.1 (fun j b hb => hn.2 b (List.mem_of_getElem? hb)) (tab_is (i := 0) (by kernel_rfl) (by simp [tabL]) hm.st)).mono fun e w' hw' => ?_
      obtain ⟨rfl, rfl⟩ := hw'
      have hb := below_alloc (Below.refl _ w) (.cells ((Lib.fields s.data.toList).map fun l => Value.string ⟨l.toArray⟩).toArray 9)
      have hfz : g.fz w.heap.size = none := hm.fz_new (Nat.le_refl _)
      have hO := own_strs (wz := g.wz) (w := w) (lab := fun k => if k = w.heap.size then some (0, []) else none) (r := 0) ((Lib.fields s.data.toList).map fun l => (⟨l.toArray⟩ : ByteArray)) (by simp) (by rw [List.length_map]; exact hlen)
      rw [List.map_map, List.length_map] at hO
      refine ⟨⟨[], [.slice (some ⟨w.heap.size, 0, none⟩) (Lib.fields s.data.toList).length (Lib.fields s.data.toList).length], fun k => if k = w.heap.size then some (0, []) else none, g.wz, g.lent, g.w0⟩, [.slice (some ⟨w.heap.size, 0, none⟩) (Lib.fields s.data.toList).length (Lib.fields s.data.toList).length], rfl, ⟨fun h => absurd h (Nat.not_lt_zero _), fun h => absurd h (Nat.not_lt_zero _), rfl, fun h => h⟩, ?_, rfl, trivial⟩
      refine { bl := rfl, box := fun h _ => ?_, free := fun h => by simp at h, inj := fun h _ => by simp at h, rl := rfl, row := fun {r row v} h1 h2 => ?_, st := (hm.keep hb).st.mono rfl (fun _ => rfl), dom := fun {k x} h => ?_ }
      · cases h
      · have h1' : ([⟨9, .str, (Lib.fields s.data.toList).map fun l => (⟨l.toArray⟩ : ByteArray), .own⟩] : List Row)[r]? = some row := h1
        match r, h1', h2 with
        | 0, h1', h2 =>
          injection h1' with h1'
          injection h2 with h2
          subst h1' h2
          show Own .str 9 _ _ 0 _ 0 [] _ _
          simp only [Function.comp_def] at hO
          exact hO
        | r + 1, h1', h2 => simp at h1'
      · have h' : (if k = w.heap.size then some ((0 : Nat), ([] : List Nat)) else none) = some x := h
        split at h'
        · rename_i hk
          rw [hk]; exact hfz
        · cases h'
theorem tab_cell {i : Nat} {p : List Value → Prop} (ht : (i, p) ∈ tabL) {g : Gh} {w : World} (h : Stab g w) : ∃ cs t f, p cs ∧ w.heap[i]? = some (.cells cs.toArray t f) := by
  obtain ⟨cs, t, f, h0, h1⟩ := h.tab _ ht
  exact ⟨cs, t, f, h0, h.fz h1⟩
theorem var_of {P : Program} {name : String} {i : Nat} (hg : P.globalNamed name = some i) {w : World} {cs : List Value} {t : TypeId} {f : Nat × Nat} (h : w.heap[i]? = some (.cells cs.toArray t f)) : w.var? P name = some cs.toArray := by
  unfold World.var?
  rw [hg, Option.bind_some, h]
def X.split (s sep : ByteArray) : Option (List ByteArray) := bif decide (s.size < 4294967281 ∧ 1 ≤ sep.size) then some (Lib.splitB sep 0 (Lib.countB s sep) s) else none
def sg17 : Sg := ⟨⟨[hh, hh], [], []⟩, [.str, .str], ⟨[.one (.sl 0)], [], [(9, .str, .own)]⟩, [.row .str]⟩
def E17 : Fun2 := eOf sg17 X.split
theorem good17 : Vm.Good Tryz.prog 17 E17 := by
  refine good_ext Tryz.func17 (by kernel_rfl) (by kernel_rfl) fun a t st hst ht g w vals hw hm hF => ?_
  obtain ⟨(s : ByteArray), (sep : ByteArray), u⟩ := a
  have hst' : some (⟨[.s1 (.one (.val (.string s))), .s1 (.one (.val (.string sep)))], [], []⟩ : St) = some st := hst
  injection hst' with hst'
  subst hst'
  have ht' : X.split s sep = some t := ht
  unfold X.split at ht'
  cases hd : decide (s.size < 4294967281 ∧ 1 ≤ sep.size) with
  | false => rw [hd] at ht'; cases ht'
  | true =>
    rw [hd] at ht'
    injection ht' with ht'
    subst ht'
    obtain ⟨hn, h1⟩ := of_decide_eq_true hd
    have hle := Lib.countB_le sep h1 s.size s (Nat.le_refl _)
    have hlen := Lib.splitB_all sep h1 0 (Lib.countB s sep) s rfl
    match vals, hF with
    | [v, v2], hF =>
      have hv : v = .string s := hF.1
      have hv2 : v2 = .string sep := hF.2.1
      subst hv
      subst hv2
      obtain ⟨cs, tt, ff, ⟨m, rfl⟩, hcell⟩ := tab_cell (i := 4) (p := anyN .i64) (by simp [tabL]) hm.st
      refine (Tryz.strings_Split s sep m w hn (by unfold World.cell?; rw [hcell]; rfl) h1).mono fun e w' hw' => ?_
      obtain ⟨rfl, rfl⟩ := hw'
      rw [← hlen]
      generalize Lib.splitB sep 0 (Lib.countB s sep) s = L at hlen ⊢
      have hb := below_alloc (Below.refl _ w) (.cells (L.map Value.string).toArray 9)
      have hfz : g.fz w.heap.size = none := hm.fz_new (Nat.le_refl _)
      have hO := own_strs (wz := g.wz) (w := w) (lab := fun k => if k = w.heap.size then some (0, []) else none) (r := 0) L (by simp) (by omega)
      refine ⟨⟨[], [.slice (some ⟨w.heap.size, 0, none⟩) L.length L.length], fun k => if k = w.heap.size then some (0, []) else none, g.wz, g.lent, g.w0⟩, [.slice (some ⟨w.heap.size, 0, none⟩) L.length L.length], rfl, ⟨fun h => absurd h (Nat.not_lt_zero _), fun h => absurd h (Nat.not_lt_zero _), rfl, fun h => h⟩, ?_, rfl, trivial⟩
      refine { bl := rfl, box := fun h _ => ?_, free := fun h => by simp at h, inj := fun h _ => by simp at h, rl := rfl, row := fun {r row v} h1 h2 => ?_, st := (hm.keep hb).st.mono rfl (fun _ => rfl), dom := fun {k x} h => ?_ }
      · cases h
      · have h1' : ([⟨9, .str, L, .own⟩] : List Row)[r]? = some row := h1
        match r, h1', h2 with
        | 0, h1', h2 =>
          injection h1' with h1'
          injection h2 with h2
          subst h1' h2
          exact hO
        | r + 1, h1', h2 => simp at h1'
      · have h' : (if k = w.heap.size then some ((0 : Nat), ([] : List Nat)) else none) = some x := h
        split at h'
        · rename_i hk
          rw [hk]; exact hfz
        · cases h'
def X.atoi (s : ByteArray) : Option (Int × Bool) := bif decide (s.size ≤ 281474976710656) then (match Lib.atoiAll s.data.toList with
  | .ok v => some (v, false)
  | .«syntax» => some (0, true)
  | .range => some (Lib.atoiSat s.data.toList, true)) else none
def sg18 : Sg := ⟨⟨[hh], [], []⟩, [.str], ⟨[hh, .one .err], [], []⟩, [.int .i64, .bool]⟩
def E18 : Fun2 := eOf sg18 X.atoi
theorem good18 : Vm.Good Tryz.prog 18 E18 := by
  refine good_ext Tryz.func18 (by kernel_rfl) (by kernel_rfl) fun a t st hst ht g w vals hw hm hF => ?_
  obtain ⟨(s : ByteArray), u⟩ := a
  have hst' : some (⟨[.s1 (.one (.val (.string s)))], [], []⟩ : St) = some st := hst
  injection hst' with hst'
  subst hst'
  have ht' : X.atoi s = some t := ht
  unfold X.atoi at ht'
  cases hd : decide (s.size ≤ 281474976710656) with
  | false => rw [hd] at ht'; cases ht'
  | true =>
    rw [hd, cond_true] at ht'
    have hn := of_decide_eq_true hd
    match vals, hF with
    | [v], hF =>
      have hv : v = .string s := hF.1
      subst hv
      cases ha : Lib.atoiAll s.data.toList with
      | ok n =>
        rw [ha] at ht'
        injection ht' with ht'
        subst ht'
        refine (Tryz.strconv_Atoi_ok s (by omega) n ha w).mono fun e w' hw' => ?_
        obtain ⟨rfl, hw'⟩ := hw'
        have hb : Below w.heap.size w w' := by
          rcases hw' with rfl | ⟨t, rfl⟩
          · exact Below.refl _ _
          · exact ⟨rfl, rfl, rfl, by rw [Lib.bytesWorld_size]; omega, fun k hk => Lib.bytesWorld_at_old w _ _ k hk⟩
        exact ⟨g, [.int .i64 n, .nilIface], rfl, .refl _ _, hm.keep hb, rfl, ⟨fun _ => rfl, fun h => (by cases h)⟩, trivial⟩
      | «syntax» =>
        rw [ha] at ht'
        injection ht' with ht'
        subst ht'
        obtain ⟨cs, tt, ff, ⟨tp, p, rfl⟩, hcell⟩ := tab_cell (i := 2) (p := anyF) (by simp [tabL]) hm.st
        refine (Tryz.strconv_Atoi_syntax_var s hn ha tp p w (var_of (by kernel_rfl) hcell)).mono fun e w' hw' => ?_
        obtain ⟨N, rfl, hN, _, hb⟩ := hw'
        exact ⟨g, [.int .i64 0, _], rfl, .refl _ _, hm.keep hb, rfl, ⟨fun h => (by cases h), fun _ => ⟨_, _, rfl⟩⟩, trivial⟩
      | range =>
        rw [ha] at ht'
        injection ht' with ht'
        subst ht'
        obtain ⟨cs, tt, ff, ⟨tp, p, rfl⟩, hcell⟩ := tab_cell (i := 3) (p := anyF) (by simp [tabL]) hm.st
        refine (Tryz.strconv_Atoi_range_var s hn ha tp p w (var_of (by kernel_rfl) hcell)).mono fun e w' hw' => ?_
        obtain ⟨N, rfl, hN, _, hb⟩ := hw'
        exact ⟨g, [.int .i64 (Lib.atoiSat s.data.toList), _], rfl, .refl _ _, hm.keep hb, rfl, ⟨fun h => (by cases h), fun _ => ⟨_, _, rfl⟩⟩, trivial⟩
end Go.Proofs.YtlaklfpelkmjjaaGreatDoor.Run
