/- A walk by reckoning: a row whose elements the library moves about. Over there the rows inside are only read, each by its head; here they are the row's own again. -/
import Derived.Test.YtmbcnpbgcfiafaaGreatVmV
namespace Go.Proofs.YtmbcnpbgcfiafaaGreat.Vm
open Go Go.RowKit Go.Proofs.YtmbcnpbgcfiafaaGreatW.PrintWords
set_option linter.unusedVariables false
set_option linter.unusedSectionVars false
set_option linter.unusedSimpArgs false

def Sh.wh : Sh → Nat
  | .sl _ _ => 1
  | .pair a b => a.wh + b.wh
  | _ => 0
def Sh.pl : Sh → Bool
  | .rs _ _ => false
  | .hr _ _ => false
  | .hv => false
  | .pair a b => a.pl && b.pl
  | _ => true
def Sh.hsh : Sh → Sh
  | .sl e s => .hr e s
  | .pair a b => .pair a.hsh b.hsh
  | s => s
def Sh.hvs : Sh → Sh
  | .sl _ _ => .hv
  | .pair a b => .pair a.hvs b.hvs
  | s => s
def Sh.att : (s : Sh) → HD → s.den → s.hsh.den
  | .int _, _, x => x
  | .bool, _, x => x
  | .str, _, x => x
  | .sl _ _, h, x => (h, x)
  | .rs _ _, _, x => x
  | .hr _ _, _, x => x
  | .hv, _, x => x
  | .pair a b, h, x => (a.att h x.1, b.att h x.2)
def Sh.bare : (s : Sh) → s.hsh.den → s.den
  | .int _, x => x
  | .bool, x => x
  | .str, x => x
  | .sl _ _, x => x.2
  | .rs _ _, x => x
  | .hr _ _, x => x
  | .hv, x => x
  | .pair a b, x => (a.bare x.1, b.bare x.2)
def Sh.hdv : (s : Sh) → s.hsh.den → s.hvs.den
  | .int _, x => x
  | .bool, x => x
  | .str, x => x
  | .sl _ _, x => x.1
  | .rs _ _, x => x
  | .hr _ _, x => x
  | .hv, x => x
  | .pair a b, x => (a.hdv x.1, b.hdv x.2)
def Sh.heads : (s : Sh) → s.hsh.den → List HD
  | .sl _ _, x => [x.1]
  | .pair a b, x => a.heads x.1 ++ b.heads x.2
  | .int _, _ => []
  | .bool, _ => []
  | .str, _ => []
  | .rs _ _, _ => []
  | .hr _ _, _ => []
  | .hv, _ => []
def Sh.like : (s : Sh) → s.hsh.den → s.hsh.den → Prop
  | .sl _ _, x, y => x = y
  | .pair a b, x, y => a.like x.1 y.1 ∧ b.like x.2 y.2
  | .int _, _, _ => True
  | .bool, _, _ => True
  | .str, _, _ => True
  | .rs _ _, _, _ => True
  | .hr _ _, _, _ => True
  | .hv, _, _ => True
def HD.blk (h : HD) : Option Nat := h.1.map (·.block)
theorem HD.own_blk (h : HD) : h.v.ownBlock = h.blk := by
  obtain ⟨a, n, c⟩ := h
  cases a <;> rfl
theorem Sh.hsh_sz : ∀ s : Sh, s.hsh.sz = s.sz
  | .int _ | .bool | .str | .sl _ _ | .rs _ _ | .hr _ _ | .hv => rfl
  | .pair a b => by show a.hsh.sz + b.hsh.sz = a.sz + b.sz; rw [a.hsh_sz, b.hsh_sz]
theorem Sh.hvs_sz : ∀ s : Sh, s.hvs.sz = s.sz
  | .int _ | .bool | .str | .sl _ _ | .rs _ _ | .hr _ _ | .hv => rfl
  | .pair a b => by show a.hvs.sz + b.hvs.sz = a.sz + b.sz; rw [a.hvs_sz, b.hvs_sz]
open Classical in
noncomputable def anyH {ρ : Type} (s : Sh) (xs : List s.den) (f : List s.hsh.den → Option ρ) : Option ρ :=
  if h : ∃ r, ∀ hs : List HD, hs.length = xs.length → (hs.filterMap HD.blk).Nodup → f (List.zipWith s.att hs xs) = some r then some (Classical.choose h) else none
theorem anyH_some {ρ : Type} {s : Sh} {xs : List s.den} {f : List s.hsh.den → Option ρ} {r : ρ} (h : anyH s xs f = some r) {hs : List HD} (h1 : hs.length = xs.length) (h2 : (hs.filterMap HD.blk).Nodup) : f (List.zipWith s.att hs xs) = some r := by
  unfold anyH at h
  split at h
  · rename_i he
    injection h with h
    subst h
    exact Classical.choose_spec he hs h1 h2
  · cases h
theorem nodup_nil (n : Nat) : ((List.replicate n ((none, 0, 0) : HD)).filterMap HD.blk).Nodup := by
  have : (List.replicate n ((none, 0, 0) : HD)).filterMap HD.blk = [] := by
    rw [List.filterMap_eq_nil_iff]
    intro a ha
    rw [(List.mem_replicate.1 ha).2]
    rfl
  rw [this]
  exact List.nodup_nil
theorem anyH_eq {ρ : Type} {s : Sh} {xs : List s.den} {f : List s.hsh.den → Option ρ} {x : Option ρ} (h : ∀ hs : List HD, hs.length = xs.length → (hs.filterMap HD.blk).Nodup → f (List.zipWith s.att hs xs) = x) : anyH s xs f = x := by
  have h0 := h (List.replicate xs.length (none, 0, 0)) (by simp) (nodup_nil _)
  unfold anyH
  cases x with
  | some r =>
    have he : ∃ r, ∀ hs : List HD, hs.length = xs.length → (hs.filterMap HD.blk).Nodup → f (List.zipWith s.att hs xs) = some r := ⟨r, h⟩
    rw [dif_pos he]
    have := Classical.choose_spec he (List.replicate xs.length (none, 0, 0)) (by simp) (nodup_nil _)
    rw [h0] at this
    exact this.symm
  | none =>
    rw [dif_neg]
    rintro ⟨r, hr⟩
    have := hr (List.replicate xs.length (none, 0, 0)) (by simp) (nodup_nil _)
    rw [h0] at this
    cases this
def thawOk (s : Sh) (zs ys : List s.hsh.den) : Prop := (∀ y ∈ ys, ∃ z ∈ zs, s.like y z) ∧ ((ys.flatMap s.heads).filterMap HD.blk).Nodup
open Classical in
noncomputable def thaw {ρ : Type} (s : Sh) (zs ys : List s.hsh.den) (k : Option ρ) : Option ρ := if thawOk s zs ys then k else none
theorem thaw_some {ρ : Type} {s : Sh} {zs ys : List s.hsh.den} {k : Option ρ} {r : ρ} (h : thaw s zs ys k = some r) : thawOk s zs ys ∧ k = some r := by
  unfold thaw at h
  split at h
  · rename_i ho; exact ⟨ho, h⟩
  · cases h
theorem thaw_eq {ρ : Type} {s : Sh} {zs ys : List s.hsh.den} {k : Option ρ} (h : thawOk s zs ys) : thaw s zs ys k = k := by
  unfold thaw
  rw [if_pos h]

def HdOf : (s : Sh) → HD → List Value → Prop
  | .sl _ _, h, cs => cs = [h.v]
  | .pair a b, h, cs => HdOf a h (cs.take a.sz) ∧ HdOf b h (cs.drop a.sz)
  | _, _, _ => True
theorem HdOf_zero : ∀ (s : Sh), s.wh = 0 → ∀ (h : HD) (cs : List Value), HdOf s h cs
  | .int _, _, _, _ => trivial
  | .bool, _, _, _ => trivial
  | .str, _, _, _ => trivial
  | .rs _ _, _, _, _ => trivial
  | .hr _ _, _, _, _ => trivial
  | .hv, _, _, _ => trivial
  | .sl _ _, h, _, _ => by cases h
  | .pair a b, h, hd, cs => by
    have h' : a.wh + b.wh = 0 := h
    exact ⟨HdOf_zero a (by omega) _ _, HdOf_zero b (by omega) _ _⟩
section
variable {z z1 z' w w1 w2 w' : World} {lab lab1 lab' : Lab} {r r1 q : Nat} {p p0 p1 : List Nat}
theorem HdOf_ex : ∀ (s : Sh) (o : Nat) (x : s.den) (cs : List Value), s.wh ≤ 1 → OE z w 0 lab r s p o x cs → ∃ h : HD, HdOf s h cs ∧ ∀ k, h.blk = some k → k < w.heap.size ∧ ∃ o', lab k = some (r, p ++ [o'])
  | .int _, _, _, _, _, _ => ⟨(none, 0, 0), trivial, fun k h => by cases h⟩
  | .bool, _, _, _, _, _ => ⟨(none, 0, 0), trivial, fun k h => by cases h⟩
  | .str, _, _, _, _, _ => ⟨(none, 0, 0), trivial, fun k h => by cases h⟩
  | .rs _ _, _, _, _, _, _ => ⟨(none, 0, 0), trivial, fun k h => by cases h⟩
  | .hr _ _, _, _, _, _, _ => ⟨(none, 0, 0), trivial, fun k h => by cases h⟩
  | .hv, _, _, _, _, _ => ⟨(none, 0, 0), trivial, fun k h => by cases h⟩
  | .sl e s, o, x, cs, _, h => by
    obtain ⟨v, rfl, hl, inner, ho, _⟩ := OE_sl.1 h
    obtain ⟨A, c, rfl⟩ := own_slice ho
    refine ⟨(A, List.length x, c), rfl, fun k hk => ?_⟩
    have hk' : (Value.slice A (List.length x) c).ownBlock = some k := by rw [show (Value.slice A (List.length x) c) = HD.v (A, List.length x, c) from rfl, HD.own_blk]; exact hk
    exact ⟨own_lt ho k hk', o, hl k hk'⟩
  | .pair a b, o, x, cs, hw, h => by
    obtain ⟨c0, c1, rfl, h0, h1⟩ := h
    have hl := OE_len a _ _ _ _ h0
    have hw' : a.wh + b.wh ≤ 1 := hw
    rcases Nat.eq_zero_or_pos a.wh with ha | ha
    · obtain ⟨hd, h2, h3⟩ := HdOf_ex b (o + a.sz) x.2 c1 (by omega) h1
      refine ⟨hd, ⟨HdOf_zero a ha _ _, ?_⟩, h3⟩
      rw [← hl, List.drop_left]
      exact h2
    · obtain ⟨hd, h2, h3⟩ := HdOf_ex a o x.1 c0 (by omega) h0
      refine ⟨hd, ⟨?_, HdOf_zero b (by omega) _ _⟩, h3⟩
      rw [← hl, List.take_left]
      exact h2
theorem att_OE (hin : ∀ k m, k < w.heap.size → lab k = some (r, p ++ m) → w1.heap[k]? = w.heap[k]?) (hz : Cle z w1) (hd : HD) : ∀ (s : Sh) (o o1 : Nat) (x : s.den) (cs : List Value), s.pl = true → HdOf s hd cs → OE z w 0 lab r s p o x cs → OE w1 w2 0 lab1 r1 s.hsh p1 o1 (s.att hd x) cs
  | .int _, _, _, _, _, _, _, h => h
  | .bool, _, _, _, _, _, _, h => h
  | .str, _, _, _, _, _, _, h => h
  | .rs _ _, _, _, _, _, hp, _, _ => by cases hp
  | .hr _ _, _, _, _, _, hp, _, _ => by cases hp
  | .hv, _, _, _, _, hp, _, _ => by cases hp
  | .sl e s, o, o1, x, cs, _, hh, h => by
    obtain ⟨v, rfl, ho⟩ := OE_sl.1 h
    have ho' := ho.move (w1 := w1) (z1 := z) (lab' := lab) (fun k m hk _ hl => ⟨hin k _ hk (by rw [← List.append_assoc]; exact hl), hl⟩) (Nat.le_refl _) (fun _ _ h => h)
    obtain ⟨A, c, h1, h2, h3⟩ := ho'.reads hz
    exact ⟨⟨A, c, congrArg (fun u => [u]) h1, h2, h3⟩, hh⟩
  | .pair a b, o, o1, x, cs, hp, hh, h => by
    obtain ⟨c0, c1, rfl, h0, h1⟩ := h
    have hl := OE_len a _ _ _ _ h0
    have hp' : (a.pl && b.pl) = true := hp
    rw [Bool.and_eq_true] at hp'
    obtain ⟨g0, g1⟩ := hh
    rw [← hl, List.take_left] at g0
    rw [← hl, List.drop_left] at g1
    exact ⟨c0, c1, rfl, att_OE hin hz hd a o o1 x.1 c0 hp'.1 g0 h0, att_OE hin hz hd b (o + a.sz) (o1 + a.hsh.sz) x.2 c1 hp'.2 g1 h1⟩
theorem hdv_OE {base base1 : Nat} : ∀ (s : Sh) (o o1 : Nat) (y : s.hsh.den) (cs : List Value), s.pl = true → OE z w base lab r s.hsh p o y cs → OE z1 w1 base1 lab1 r1 s.hvs p1 o1 (s.hdv y) cs
  | .int _, _, _, _, _, _, h => h
  | .bool, _, _, _, _, _, h => h
  | .str, _, _, _, _, _, h => h
  | .rs _ _, _, _, _, _, hp, _ => by cases hp
  | .hr _ _, _, _, _, _, hp, _ => by cases hp
  | .hv, _, _, _, _, hp, _ => by cases hp
  | .sl e s, o, o1, y, cs, _, h => h.2
  | .pair a b, o, o1, y, cs, hp, h => by
    obtain ⟨c0, c1, rfl, h0, h1⟩ := h
    have hp' : (a.pl && b.pl) = true := hp
    rw [Bool.and_eq_true] at hp'
    exact ⟨c0, c1, rfl, hdv_OE a o o1 y.1 c0 hp'.1 h0, hdv_OE b (o + a.hsh.sz) (o1 + a.hvs.sz) y.2 c1 hp'.2 h1⟩
theorem thaw_OE (hz : Cle z z') {h0 : HD} (hmv : h0.blk ≠ none → ∀ k m, k < w.heap.size → lab k = some (r, p0 ++ m) → w'.heap[k]? = w.heap[k]? ∧ lab' k = some (q, p ++ m)) :
    ∀ (s : Sh) (o : Nat) (x0 : s.den) (y : s.hsh.den) (cs0 cs : List Value), s.pl = true → HdOf s h0 cs0 → OE z w 0 lab r s p0 o x0 cs0 → OE z1 w1 0 lab1 r1 s.hsh p1 o y cs → s.like y (s.att h0 x0) → OE z' w' 0 lab' q s p o (s.bare y) cs
  | .int _, _, _, _, _, _, _, _, _, h, _ => h
  | .bool, _, _, _, _, _, _, _, _, h, _ => h
  | .str, _, _, _, _, _, _, _, _, h, _ => h
  | .rs _ _, _, _, _, _, _, hp, _, _, _, _ => by cases hp
  | .hr _ _, _, _, _, _, _, hp, _, _, _, _ => by cases hp
  | .hv, _, _, _, _, _, hp, _, _, _, _ => by cases hp
  | .sl e s, o, x0, y, cs0, cs, _, hh, h, h2, hl => by
    have hl' : y = (h0, x0) := hl
    subst hl'
    obtain ⟨v, rfl, ho⟩ := OE_sl.1 h
    have hv : v = h0.v := by injection hh
    subst hv
    have hcs : cs = [h0.v] := h2.2
    subst hcs
    refine OE_sl.2 ⟨_, rfl, ?_⟩
    cases hb : h0.blk with
    | none =>
      obtain ⟨_, inner, h3, _⟩ := ho
      rcases h3.2 with ⟨h4, h5⟩ | ⟨g, cap, cur, h4, _⟩
      · have : x0 = ([] : List s.den) := List.eq_nil_of_length_eq_zero h5
        subst this
        rw [h4]
        exact Own.nil _ _ _ _ _ _ _ _
      · have := HD.own_blk h0
        rw [h4, hb] at this
        cases this
    | some k0 =>
      refine ho.move (fun k m hk _ hl => ?_) (Nat.le_refl _) hz
      have := hmv (by rw [hb]; simp) k ([o] ++ m) hk (by rw [← List.append_assoc]; exact hl)
      rwa [← List.append_assoc] at this
  | .pair a b, o, x0, y, cs0, cs, hp, hh, h, h2, hl => by
    obtain ⟨c0, c1, rfl, h3, h4⟩ := h
    obtain ⟨d0, d1, rfl, h5, h6⟩ := h2
    have hla := OE_len a _ _ _ _ h3
    have hp' : (a.pl && b.pl) = true := hp
    rw [Bool.and_eq_true] at hp'
    obtain ⟨g0, g1⟩ := hh
    rw [← hla, List.take_left] at g0
    rw [← hla, List.drop_left] at g1
    have hs : a.hsh.sz = a.sz := a.hsh_sz
    rw [hs] at h6
    exact ⟨d0, d1, rfl, thaw_OE hz hmv a o x0.1 y.1 c0 d0 hp'.1 g0 h3 h5 hl.1, thaw_OE hz hmv b (o + a.sz) x0.2 y.2 c1 d1 hp'.2 g1 h4 h6 hl.2⟩
end

def labH (r : Nat) (lab : Lab) : Lab := fun k =>
  match lab k with
  | some (q, i :: m) => if q = r then none else some (q, i :: m)
  | x => x
section
variable {r k : Nat} {lab : Lab}
theorem labH_root {q : Nat} (h : lab k = some (q, [])) : labH r lab k = some (q, []) := by unfold labH; rw [h]
theorem labH_other {x : Nat × List Nat} (h : lab k = some x) (hx : x.1 ≠ r) : labH r lab k = some x := by
  unfold labH
  rw [h]
  obtain ⟨q, m⟩ := x
  cases m with
  | nil => rfl
  | cons i m => exact if_neg hx
theorem labH_in {i : Nat} {m : List Nat} (h : lab k = some (r, i :: m)) : labH r lab k = none := by unfold labH; rw [h]; exact if_pos rfl
theorem labH_none (h : lab k = none) : labH r lab k = none := by unfold labH; rw [h]
theorem labH_some {x : Nat × List Nat} (h : labH r lab k = some x) : lab k = some x := by
  unfold labH at h
  split at h
  · rename_i q i m hl
    split at h
    · cases h
    · rw [hl]; exact h
  · exact h
end
def Gh.hid (g : Gh) (r : Nat) : Gh := ⟨g.bx, g.rw, labH r g.tag, g.wz, g.lent, g.w0, g.rz⟩
theorem Gh.hid_le (g : Gh) (r : Nat) : g.le (g.hid r) := ⟨fun h => h, fun h => h, rfl, fun h => h, fun h => h, fun h => .inl h⟩
def HeadsOf (g : Gh) (w : World) (r : Nat) (s : Sh) (inner : List Value) (xs : List s.den) (hs : List HD) : Prop :=
  hs.length = xs.length ∧ (hs.filterMap HD.blk).Nodup ∧ ∀ (i : Nat) (x : s.den) (h : HD), xs[i]? = some x → hs[i]? = some h → HdOf s h ((inner.drop (i * s.sz)).take s.sz) ∧ OE g.rz w 0 g.tag r s [i] 0 x ((inner.drop (i * s.sz)).take s.sz)
theorem heads_ex {g : Gh} {w : World} {r : Nat} {s : Sh} {e : TypeId} {v : Value} {xs : List s.den} (hw : s.wh ≤ 1) {inner : List Value} (h4 : ∀ (i : Nat) (x : s.den), xs[i]? = some x → OE g.rz w 0 g.tag r s [i] 0 x ((inner.drop (i * s.sz)).take s.sz)) :
    ∃ hs, HeadsOf g w r s inner xs hs := by
  have hex : ∀ i : Nat, ∃ h : HD, (∀ k, h.blk = some k → ∃ o', g.tag k = some (r, [i, o'])) ∧ ∀ x, xs[i]? = some x → HdOf s h ((inner.drop (i * s.sz)).take s.sz) := by
    intro i
    cases hx : xs[i]? with
    | none => exact ⟨(none, 0, 0), (fun k hk => by cases hk), (fun x hx => by cases hx)⟩
    | some x =>
      obtain ⟨h, h1, h2⟩ := HdOf_ex s 0 x _ hw (h4 i x hx)
      exact ⟨h, fun k hk => (h2 k hk).2, fun y hy => h1⟩
  obtain ⟨f, hf⟩ := Classical.axiomOfChoice hex
  refine ⟨(List.range xs.length).map f, by simp, ?_, fun i x h hx hh => ⟨?_, h4 i x hx⟩⟩
  · rw [List.filterMap_map]
    unfold List.Nodup
    rw [List.pairwise_filterMap]
    refine List.Pairwise.imp ?_ (List.pairwise_lt_range (n := xs.length))
    intro i j hij k hk k' hk' e
    subst e
    obtain ⟨o1, h1⟩ := (hf i).1 k hk
    obtain ⟨o2, h2⟩ := (hf j).1 k hk'
    rw [h1] at h2
    injection h2 with h2
    injection h2 with _ h2
    injection h2 with h2 _
    omega
  · have hi : i < xs.length := (List.getElem?_eq_some_iff.1 hx).1
    rw [List.getElem?_map, List.getElem?_range hi] at hh
    simp only [Option.map_some, Option.some.injEq] at hh
    subst hh
    exact (hf i).2 x hx
theorem zip_get {s : Sh} {hs : List HD} {xs : List s.den} {i : Nat} {z : s.hsh.den} (h : (List.zipWith s.att hs xs)[i]? = some z) : ∃ hd x, hs[i]? = some hd ∧ xs[i]? = some x ∧ z = s.att hd x := by
  rw [List.getElem?_zipWith] at h
  split at h
  · rename_i a b h1 h2
    injection h with h
    exact ⟨a, b, h1, h2, h.symm⟩
  · cases h
theorem Mem.setRow {bs : List (TypeId × List AL)} {rs : List Row} {g : Gh} {w : World} (h : Mem bs rs g w) (i : Nat) (row : Row) (hr : ∀ v, g.rw[i]? = some v → RowRel g w i row v) : Mem bs (rs.set i row) g w :=
  ⟨h.bl, h.box, h.free, h.inj, by rw [List.length_set]; exact h.rl, fun {j row' v} h1 h2 => by
    by_cases e : j = i
    · subst e
      by_cases hl : j < rs.length
      · rw [List.getElem?_set_self hl] at h1
        injection h1 with h1
        subst h1
        exact hr v h2
      · rw [List.getElem?_eq_none (by rw [List.length_set]; omega)] at h1
        cases h1
    · rw [List.getElem?_set_ne (Ne.symm e)] at h1
      exact h.row h1 h2, h.st, h.dom⟩
theorem ownN_set : ∀ {rs : List Row} {i : Nat} {row row' : Row}, rs[i]? = some row → row.md = .own → row'.md = .own → ownN (rs.set i row') = ownN rs
  | [], i, row, row', h, _, _ => by simp at h
  | r :: rs, 0, row, row', h, h1, h2 => by
    simp at h
    subst h
    simp only [List.set_cons_zero, ownN, h1, h2]
  | r :: rs, i + 1, row, row', h, h1, h2 => by
    have h' : rs[i]? = some row := by simpa using h
    have := ownN_set h' h1 h2
    simp only [List.set_cons_succ, ownN, this]
def St.byHeads (st : St) (r : Nat) (row : Row) (zs : List row.s.hsh.den) : St :=
  ⟨st.tmps, st.boxes, (killed [r] 0 st.rows).set r ⟨row.e, row.s.hvs, zs.map row.s.hdv, .own⟩⟩
theorem byHeads_mem {st : St} {g : Gh} {w : World} (hm : Mem st.boxes st.rows g w) {r : Nat} {row : Row} (hrow : st.rows[r]? = some row) (hmd : row.md = .own) (hp : row.s.pl = true) (hw : row.s.wh = 1) {v : Value} (hv : g.rw[r]? = some v) :
    ∃ inner hs, w.ownsRow 0 row.e row.s.sz v row.xs.length inner ∧ (∀ k, v.ownBlock = some k → g.tag k = some (r, [])) ∧ HeadsOf g w r row.s inner row.xs hs ∧ Mem st.boxes (st.byHeads r row (List.zipWith row.s.att hs row.xs)).rows (g.hid r) w := by
  have ho := hm.row hrow hv
  unfold RowRel at ho
  rw [hmd] at ho
  obtain ⟨h2, inner, h3, h4⟩ := ho
  obtain ⟨hs, hh⟩ := heads_ex (e := row.e) (v := v) (by omega) h4
  refine ⟨inner, hs, h3, h2, hh, hm.bl, fun {b t cs blk} h1 h2 => ?_, fun {b blk} h1 => ⟨labH_none (hm.free h1).1, (hm.free h1).2⟩, hm.inj, ?_, fun {j row' v'} h1 h5 => ?_, hm.st.mono rfl (fun _ => rfl) rfl, fun {k x} hk => hm.dom (labH_some hk)⟩
  · obtain ⟨vs, hh, hF⟩ := hm.box h1 h2
    exact ⟨vs, hh, hF.imp fun _ _ => AL.R_le (g.hid_le r)⟩
  · show (List.set _ _ _).length = _
    rw [List.length_set, killed_length]
    exact hm.rl
  · have h1' : ((killed [r] 0 st.rows).set r ⟨row.e, row.s.hvs, (List.zipWith row.s.att hs row.xs).map row.s.hdv, .own⟩)[j]? = some row' := h1
    by_cases e : j = r
    · subst e
      rw [List.getElem?_set_self (by rw [killed_length]; exact (List.getElem?_eq_some_iff.1 hrow).1)] at h1'
      injection h1' with h1'
      subst h1'
      have h5' : g.rw[j]? = some v' := h5
      rw [hv] at h5'
      injection h5' with h5'
      subst h5'
      unfold RowRel
      have hlen : ((List.zipWith row.s.att hs row.xs).map row.s.hdv).length = row.xs.length := by rw [List.length_map, List.length_zipWith, hh.1]; omega
      refine ⟨fun k hk => labH_root (h2 k hk), inner, ?_, fun i y hy => ?_⟩
      · show w.ownsRow 0 row.e row.s.hvs.sz v ((List.zipWith row.s.att hs row.xs).map row.s.hdv).length inner
        rw [hlen, row.s.hvs_sz]; exact h3
      · rw [List.getElem?_map, Option.map_eq_some_iff] at hy
        obtain ⟨z, hz, rfl⟩ := hy
        obtain ⟨hd, x, h6, h7, rfl⟩ := zip_get hz
        obtain ⟨h8, h9⟩ := hh.2.2 i x hd h7 h6
        rw [row.s.hvs_sz]
        have h10 := att_OE (w1 := w) (w2 := w) (lab1 := g.tag) (r1 := j) (p1 := [i]) (fun k m _ _ => rfl) (fun _ _ => hm.st.cell) hd row.s 0 0 x _ hp h8 h9
        exact hdv_OE row.s 0 0 _ _ hp h10
    · rw [List.getElem?_set_ne (Ne.symm e)] at h1'
      obtain ⟨row0, h6, h7⟩ := killed_get _ 0 st.rows h1'
      rcases h7 with h7 | ⟨hc, rfl⟩
      · unfold RowRel
        rw [h7]
        exact (hm.row h6 h5).slice
      · refine (hm.row h6 h5).move rfl (fun h => h) (fun h => h) fun k m hro hk hl => ⟨labH_other hl ?_, rfl⟩
        have := hc hro
        intro e2
        have e3 : Md.root j row'.md = r := e2
        rw [Nat.zero_add, e3] at this
        simp at this
def hFind (s : Sh) : Nat → List Row → Option (Nat × TypeId × List s.hsh.den)
  | _, [] => none
  | n, row :: rs =>
    match row.md with
    | .own =>
      match rowAs row s.hsh with
      | some ys => some (n, row.e, ys)
      | none => hFind s (n + 1) rs
    | _ => hFind s (n + 1) rs
theorem hFind_some {s : Sh} : ∀ {rs : List Row} {n : Nat} {j : Nat} {e : TypeId} {ys : List s.hsh.den}, hFind s n rs = some (j, e, ys) → n ≤ j ∧ rs[j - n]? = some ⟨e, s.hsh, ys, .own⟩
  | [], n, j, e, ys, h => by cases h
  | row :: rs, n, j, e, ys, h => by
    unfold hFind at h
    have next : hFind s (n + 1) rs = some (j, e, ys) → n ≤ j ∧ (row :: rs)[j - n]? = some ⟨e, s.hsh, ys, .own⟩ := by
      intro h
      obtain ⟨h1, h2⟩ := hFind_some h
      refine ⟨by omega, ?_⟩
      rw [show j - n = (j - (n + 1)) + 1 from by omega, List.getElem?_cons_succ]
      exact h2
    split at h
    · rename_i hmd
      split at h
      · rename_i zs hzs
        injection h with h
        injection h with h1 h2
        injection h2 with h2 h3
        subst h1; subst h2; subst h3
        obtain ⟨hs, rfl⟩ := rowAs_eq hzs
        refine ⟨Nat.le_refl _, ?_⟩
        rw [Nat.sub_self, List.getElem?_cons_zero]
        obtain ⟨e0, s0, xs0, md0⟩ := row
        have hs' : s0 = s.hsh := hs
        have hmd' : md0 = .own := hmd
        subst hs'
        subst hmd'
        rfl
      · exact next h
    · exact next h

theorem heads_zero : ∀ (s : Sh), s.wh = 0 → ∀ y : s.hsh.den, s.heads y = []
  | .int _, _, _ => rfl
  | .bool, _, _ => rfl
  | .str, _, _ => rfl
  | .rs _ _, _, _ => rfl
  | .hr _ _, _, _ => rfl
  | .hv, _, _ => rfl
  | .sl _ _, h, _ => by cases h
  | .pair a b, h, y => by
    have h' : a.wh + b.wh = 0 := h
    show a.heads y.1 ++ b.heads y.2 = []
    rw [heads_zero a (by omega), heads_zero b (by omega)]
    rfl
theorem heads_like {h : HD} : ∀ (s : Sh), s.wh = 1 → ∀ (y : s.hsh.den) (x : s.den), s.like y (s.att h x) → s.heads y = [h]
  | .int _, hw, _, _, _ => by cases hw
  | .bool, hw, _, _, _ => by cases hw
  | .str, hw, _, _, _ => by cases hw
  | .rs _ _, hw, _, _, _ => by cases hw
  | .hr _ _, hw, _, _, _ => by cases hw
  | .hv, hw, _, _, _ => by cases hw
  | .sl _ _, _, y, x, hl => by
    have hl' : y = (h, x) := hl
    subst hl'
    rfl
  | .pair a b, hw, y, x, hl => by
    have hw' : a.wh + b.wh = 1 := hw
    show a.heads y.1 ++ b.heads y.2 = [h]
    rcases Nat.eq_zero_or_pos a.wh with ha | ha
    · rw [heads_zero a ha, heads_like b (by omega) y.2 x.2 hl.2]
      rfl
    · rw [heads_like a (by omega) y.1 x.1 hl.1, heads_zero b (by omega)]
      rfl
section
variable {st : St} {g : Gh} {w w' : World} (hm : Mem st.boxes st.rows g w) {r : Nat} {row : Row} (hrow : st.rows[r]? = some row) (hmd : row.md = .own) (hp : row.s.pl = true) (hw : row.s.wh = 1) {v : Value} (hv : g.rw[r]? = some v)
  {inner : List Value} {hs : List HD} (hO : w.ownsRow 0 row.e row.s.sz v row.xs.length inner) (hlab : ∀ k, v.ownBlock = some k → g.tag k = some (r, [])) (hH : HeadsOf g w r row.s inner row.xs hs)
  {zs : List row.s.hsh.den} (hzs : zs = List.zipWith row.s.att hs row.xs) (hm1 : Mem st.boxes (st.byHeads r row zs).rows (g.hid r) w)
  {muts : List Nat} {avs : List AV} {m : Mini} (hmi : (st.byHeads r row zs).mini muts avs = some m)
include hm hrow hmi
theorem byHeads_at : (st.byHeads r row zs).rows[r]? = some ⟨row.e, row.s.hvs, zs.map row.s.hdv, .own⟩ := by
  show ((killed [r] 0 st.rows).set r _)[r]? = _
  rw [List.getElem?_set_self (by rw [killed_length]; exact (List.getElem?_eq_some_iff.1 hrow).1)]
theorem hid_notLent {k i : Nat} {p : List Nat} (hk : g.tag k = some (r, i :: p)) : ¬ Lent (g.hid r) m.B m.R k := by
  rintro (⟨r', p', h1, _⟩ | ⟨b, _, h2⟩)
  · have h1' : labH r g.tag k = some (r', p') := h1
    rw [labH_in hk] at h1'
    cases h1'
  · rw [(hm.free h2).1] at hk
    cases hk
include hv hp hO hlab hH hzs hm1 in
theorem over_heads {i : Nat} (hi : m.R.idxOf? r = some i) {hsv : List Value} (hm2 : Mem m.boxes m.rows ((g.hid r).over w m hsv) w) :
    Mem m.boxes (m.rows.set i ⟨row.e, row.s.hsh, zs, .own⟩) ((g.hid r).over w m hsv) w ∧ ownN (m.rows.set i ⟨row.e, row.s.hsh, zs, .own⟩) = ownN m.rows := by
  obtain ⟨hB, hR, lr, r1, r2, hlr, _, _, hrows⟩ := mini_some hmi
  obtain ⟨hll, hlg⟩ := lentRows_get hlr
  have hiR := idx_get hi
  obtain ⟨row1, md1, h1, h2, h3⟩ := hlg hiR
  rw [byHeads_at hm hrow hmi] at h1
  injection h1 with h1
  subst h1
  simp only [Md.lend, Option.some.injEq] at h2
  subst h2
  have hat : m.rows[i]? = some ⟨row.e, row.s.hvs, zs.map row.s.hdv, .own⟩ := by
    rw [hrows, List.getElem?_append_left (List.getElem?_eq_some_iff.1 h3).1]
    exact h3
  refine ⟨hm2.setRow i _ fun v' hv' => ?_, ownN_set hat rfl rfl⟩
  have hv2 : v' = v := by
    have h4 : ((m.R.map fun r => (g.hid r).rw.getD r undef) ++ hsv)[i]? = some v' := hv'
    rw [List.getElem?_append_left (by rw [List.length_map]; exact (List.getElem?_eq_some_iff.1 hiR).1), List.getElem?_map, hiR] at h4
    simp only [Option.map_some, Option.some.injEq] at h4
    rw [← h4]
    show g.rw.getD r undef = v
    rw [List.getD_eq_getElem?_getD, hv]
    rfl
  subst hv2
  unfold RowRel
  have hlen : zs.length = row.xs.length := by rw [hzs, List.length_zipWith, hH.1]; omega
  refine ⟨fun k hk => ?_, inner, ?_, fun j z hz => ?_⟩
  · show ((g.hid r).tag k).bind _ = _
    rw [show (g.hid r).tag k = some (r, []) from labH_root (hlab k hk)]
    simp only [Option.bind_some, hi, Option.map_some]
  · show w.ownsRow 0 row.e row.s.hsh.sz v' zs.length inner
    rw [hlen, row.s.hsh_sz]
    exact hO
  · have hz' : zs[j]? = some z := hz
    rw [hzs] at hz'
    obtain ⟨hd, x, h6, h7, rfl⟩ := zip_get hz'
    obtain ⟨h8, h9⟩ := hH.2.2 j x hd h7 h6
    show OE (wzOf (g.hid r) w m) w 0 _ i row.s.hsh ([] ++ [j]) 0 _ ((inner.drop (j * row.s.hsh.sz)).take row.s.hsh.sz)
    rw [row.s.hsh_sz]
    exact att_OE (fun k p _ hk => wzOf_get k (hid_notLent hm hrow hmi hk)) (fun a u => cell_wz (st := st.byHeads r row zs) hm1 (fun k hk => wzOf_get k hk)) hd row.s 0 0 x _ hp h8 h9
include hv hp hw hO hlab hH hzs hm1 in
set_option maxHeartbeats 2000000 in
theorem back_heads {hsv : List Value} (hfull : Full ((g.hid r).over w m hsv) w) (hlen : m.boxes.length = m.B.length) (hown : ownN m.rows = m.R.length) {res : Res} {g1 : Gh} {vs : List Value}
    (hext : ((g.hid r).over w m hsv).ext (m.boxes.length, ownN m.rows) g1) (hm3 : Mem res.boxes res.rows g1 w') (hF1 : F2 (A1.R g1) res.rets vs) {j : Nat} {e' : TypeId} {ys : List row.s.hsh.den} (hj : hFind row.s 0 res.rows = some (j, e', ys)) (hth : thawOk row.s zs ys)
    {st' : St} {rets : List A1} (hb : (st.byHeads r row zs).backAt m { res with rows := res.rows.set j ⟨e', row.s.hvs, ys.map row.s.hdv, .own⟩ } = some (st', rets)) {q : Nat} (hq : backR m.R (st.byHeads r row zs).rows.length j = some q) :
    ∃ g', g.le g' ∧ st'.tmps = st.tmps ∧ Mem st'.boxes (st'.rows.set q ⟨e', row.s, ys.map row.s.bare, .own⟩) g' w' ∧ F2 (A1.R g') rets vs := by
  obtain ⟨_, hjr⟩ := hFind_some hj
  rw [Nat.sub_zero] at hjr
  have hjl : j < g1.rw.length := by rw [← hm3.rl]; exact (List.getElem?_eq_some_iff.1 hjr).1
  obtain ⟨vj, hvj⟩ : ∃ vj, g1.rw[j]? = some vj := ⟨_, List.getElem?_eq_getElem hjl⟩
  have hOj := hm3.row hjr hvj
  unfold RowRel at hOj
  obtain ⟨hlj, inj, hoj, hej⟩ := hOj
  have hm3' : Mem res.boxes (res.rows.set j ⟨e', row.s.hvs, ys.map row.s.hdv, .own⟩) g1 w' := hm3.setRow j _ fun v' hv' => by
    rw [hvj] at hv'
    injection hv' with hv'
    subst hv'
    unfold RowRel
    refine ⟨hlj, inj, ?_, fun i y hy => ?_⟩
    · show w'.ownsRow 0 e' row.s.hvs.sz vj (ys.map row.s.hdv).length inj
      rw [List.length_map, row.s.hvs_sz, ← row.s.hsh_sz]
      exact hoj
    · rw [List.getElem?_map, Option.map_eq_some_iff] at hy
      obtain ⟨z, hz, rfl⟩ := hy
      have := hej i z hz
      show OE _ _ _ _ _ row.s.hvs _ _ _ ((inj.drop (i * row.s.hvs.sz)).take row.s.hvs.sz)
      rw [row.s.hvs_sz]
      have h5 : OE g1.rz w' 0 g1.tag j row.s.hsh ([] ++ [i]) 0 z ((inj.drop (i * row.s.hsh.sz)).take row.s.hsh.sz) := this
      rw [row.s.hsh_sz] at h5
      exact hdv_OE row.s 0 0 _ _ hp h5
  obtain ⟨g', hg', hle, htm, hm', hF', hfr, hold⟩ := back_rel3 (st := st.byHeads r row zs) (res := { res with rows := res.rows.set j ⟨e', row.s.hvs, ys.map row.s.hdv, .own⟩ }) hm1 hmi hfull hlen hown hext hm3' hF1 hb
  have gbx : g'.bx = g.bx := by rw [hg']; rfl
  have grw : g'.rw = g.rw ++ g1.rw.drop m.R.length := by rw [hg']; rfl
  have gfz : g'.fz = g.fz := by rw [hg']; rfl
  have gwz : g'.rz = g.rz := by rw [hg']; rfl
  have gtag : ∀ {k : Nat} {p : List Nat}, g1.tag k = some (j, p) → g'.tag k = some (q, p) := by
    intro k p hk
    rw [hg']
    exact backTag_new (hold hk) hk hq
  -- the rows inside: not owned meanwhile
  have hin : ∀ {k i : Nat} {p : List Nat}, k < w.heap.size → g.tag k = some (r, i :: p) → w'.heap[k]? = w.heap[k]? ∧ g'.tag k = none := by
    intro k i p hk hl
    obtain ⟨h1, h2⟩ := hfr k hk (hid_notLent hm hrow hmi hl)
    exact ⟨h1, h2.trans (labH_in hl)⟩
  obtain ⟨J, hJ⟩ := Classical.axiomOfChoice (r := fun (i0 : Nat) (o : Option Nat) => (∃ (j' : Nat) (y z : row.s.hsh.den), ys[j']? = some y ∧ zs[i0]? = some z ∧ row.s.like y z) → ∃ (j' : Nat) (y z : row.s.hsh.den), o = some j' ∧ ys[j']? = some y ∧ zs[i0]? = some z ∧ row.s.like y z) fun i0 => by
    by_cases h : ∃ (j' : Nat) (y z : row.s.hsh.den), ys[j']? = some y ∧ zs[i0]? = some z ∧ row.s.like y z
    · obtain ⟨j', y, z, h1, h2, h3⟩ := h
      exact ⟨some j', fun _ => ⟨j', y, z, rfl, h1, h2, h3⟩⟩
    · exact ⟨none, fun h' => absurd h' h⟩
  obtain ⟨tagF, htagF⟩ : ∃ tagF : Lab, tagF = fun k => match g'.tag k with
    | some x => some x
    | none => if k < w.heap.size then
        match g.tag k with
        | some (r', i0 :: p) => if r' = r then (J i0).map fun j' => (q, j' :: p) else none
        | _ => none
      else none := ⟨_, rfl⟩
  have tag_old : ∀ {k : Nat} {x : Nat × List Nat}, g'.tag k = some x → tagF k = some x := by
    intro k x hk
    rw [htagF]
    simp only [hk]
  have tag_some : ∀ {k : Nat} {x : Nat × List Nat}, tagF k = some x → g'.tag k = some x ∨ ∃ y, g.tag k = some y := by
    intro k x hk
    rw [htagF] at hk
    simp only at hk
    split at hk
    · rename_i y hy
      rw [hy]
      exact .inl hk
    · split at hk
      · split at hk
        · rename_i hy
          exact .inr ⟨_, hy⟩
        · cases hk
      · cases hk
  have tag_in : ∀ {k i0 j' : Nat} {p : List Nat}, k < w.heap.size → g.tag k = some (r, i0 :: p) → J i0 = some j' → tagF k = some (q, j' :: p) := by
    intro k i0 j' p hk hl hJ'
    rw [htagF]
    simp only [(hin hk hl).2, hl, if_pos hk, hJ', if_true, Option.map_some]
  have hleF : g'.le ⟨g'.bx, g'.rw, tagF, g'.wz, g'.lent, g'.w0, g'.rz⟩ := ⟨fun h => h, fun h => h, rfl, fun h => h, fun h => h, fun h => .inl h⟩
  have hmF : Mem st'.boxes st'.rows ⟨g'.bx, g'.rw, tagF, g'.wz, g'.lent, g'.w0, g'.rz⟩ w' := by
    refine ⟨hm'.bl, fun {b t cs blk} h1 h2 => ?_, fun {b blk} h1 => ⟨?_, (hm'.free h1).2⟩, hm'.inj, hm'.rl, fun {r' row' v'} h1 h2 => ?_, hm'.st.mono rfl (fun _ => rfl) rfl, fun {k x} hk => ?_⟩
    · obtain ⟨us, hh, hF⟩ := hm'.box h1 h2
      exact ⟨us, hh, hF.imp fun _ _ => AL.R_le hleF⟩
    · cases ht : tagF blk with
      | none => exact ht
      | some x =>
        rcases tag_some ht with h3 | ⟨y, h3⟩
        · rw [(hm'.free h1).1] at h3; cases h3
        · have h1' : g.bx[b]? = some blk := by rw [← gbx]; exact h1
          rw [(hm.free h1').1] at h3; cases h3
    · exact (hm'.row h1 h2).move rfl (fun h => h) (fun h => h) fun k p _ _ hk => ⟨tag_old hk, rfl⟩
    · rcases tag_some hk with h3 | ⟨y, h3⟩
      · exact hm'.dom h3
      · show g'.fz k = none
        rw [gfz]
        exact hm.dom h3
  refine ⟨⟨g'.bx, g'.rw, tagF, g'.wz, g'.lent, g'.w0, g'.rz⟩, (g.hid_le r).trans (hle.trans hleF), htm, hmF.setRow q _ fun vq hvq => ?_, hF'.imp fun _ _ => A1.R_le hleF⟩
  have hvv : vq = vj := by
    have hvq' : g'.rw[q]? = some vq := hvq
    rw [grw] at hvq'
    have hL : (st.byHeads r row zs).rows.length = g.rw.length := hm1.rl
    rcases backR_cases hq with ⟨h1, h2⟩ | ⟨h1, h2⟩
    · obtain ⟨_, _, lr, _, _, hlr, _, _, _⟩ := mini_some hmi
      obtain ⟨row1, _, h3, _, _⟩ := (lentRows_get hlr).2 h2
      have hql : q < g.rw.length := by rw [← hL]; exact (List.getElem?_eq_some_iff.1 h3).1
      rw [List.getElem?_append_left hql] at hvq'
      have h4 : ((g.hid r).over w m hsv).rw[j]? = some vq := by
        show ((m.R.map fun r' => g.rw.getD r' undef) ++ hsv)[j]? = some vq
        rw [List.getElem?_append_left (by rw [List.length_map]; exact h1), List.getElem?_map, h2]
        simp only [Option.map_some, List.getD_eq_getElem?_getD, hvq', Option.getD_some]
      have h5 := hext.rw (by rw [hown]; exact h1) h4
      rw [hvj] at h5
      exact (Option.some.inj h5).symm
    · rw [h2, hL, List.getElem?_append_right (by omega), List.getElem?_drop, show m.R.length + (g.rw.length + (j - m.R.length) - g.rw.length) = j from by omega, hvj] at hvq'
      exact (Option.some.inj hvq').symm
  subst hvv
  unfold RowRel
  refine ⟨fun k hk => tag_old (gtag (hlj k hk)), inj, ?_, fun j' y hy => ?_⟩
  · show w'.ownsRow 0 e' row.s.sz vq (ys.map row.s.bare).length inj
    rw [List.length_map, ← row.s.hsh_sz]
    exact hoj
  · rw [List.getElem?_map, Option.map_eq_some_iff] at hy
    obtain ⟨y0, hy0, rfl⟩ := hy
    obtain ⟨z, hz, hlk⟩ := hth.1 y0 (List.mem_of_getElem? hy0)
    obtain ⟨i0, hi0⟩ := List.getElem?_of_mem hz
    have hi0' := hi0
    rw [hzs] at hi0'
    obtain ⟨hd, x0, h6, h7, rfl⟩ := zip_get hi0'
    obtain ⟨h8, h9⟩ := hH.2.2 i0 x0 hd h7 h6
    have h5 : OE g1.rz w' 0 g1.tag j row.s.hsh ([] ++ [j']) 0 y0 ((inj.drop (j' * row.s.hsh.sz)).take row.s.hsh.sz) := hej j' y0 hy0
    rw [row.s.hsh_sz] at h5
    show OE g'.rz w' 0 tagF q row.s [j'] 0 (row.s.bare y0) ((inj.drop (j' * row.s.sz)).take row.s.sz)
    have hcle : Cle g.rz g'.rz := fun a u h => by rw [gwz]; exact h
    have hmv : hd.blk ≠ none → ∀ k p, k < w.heap.size → g.tag k = some (r, [i0] ++ p) → w'.heap[k]? = w.heap[k]? ∧ tagF k = some (q, [j'] ++ p) := by
      intro hne k p hk hl
      refine ⟨(hin hk hl).1, ?_⟩
      obtain ⟨j2, y2, z2, hJ2, hy2, hz2, hlk2⟩ := hJ i0 ⟨j', y0, _, hy0, hi0, hlk⟩
      rw [hi0] at hz2
      have hz3 : row.s.att hd x0 = z2 := Option.some.inj hz2
      subst hz3
      have hj2 : j2 = j' := by
        have e1 := heads_like row.s hw y0 x0 hlk
        have e2 := heads_like row.s hw y2 x0 hlk2
        obtain ⟨k0, hk0⟩ : ∃ k0, hd.blk = some k0 := by
          cases hb0 : hd.blk with
          | none => exact absurd hb0 hne
          | some k0 => exact ⟨k0, rfl⟩
        have hnd := hth.2
        unfold List.Nodup at hnd
        rw [List.pairwise_filterMap, List.pairwise_flatMap] at hnd
        have hpw := List.pairwise_iff_getElem.1 hnd.2
        have l1 := (List.getElem?_eq_some_iff.1 hy0)
        have l2 := (List.getElem?_eq_some_iff.1 hy2)
        obtain ⟨l1, g1'⟩ := l1
        obtain ⟨l2, g2'⟩ := l2
        rcases Nat.lt_trichotomy j2 j' with hlt | he | hgt
        · have := hpw j2 j' l2 l1 hlt hd (by rw [g2', e2]; simp) hd (by rw [g1', e1]; simp) k0 hk0 k0 hk0
          exact absurd rfl this
        · exact he
        · have := hpw j' j2 l1 l2 hgt hd (by rw [g1', e1]; simp) hd (by rw [g2', e2]; simp) k0 hk0 k0 hk0
          exact absurd rfl this
      subst hj2
      exact tag_in hk hl hJ2
    exact thaw_OE (z := g.rz) (z1 := g1.rz) (z' := g'.rz) (w := w) (w1 := w') (w' := w') (lab := g.tag) (lab1 := g1.tag) (lab' := tagF) (r := r) (r1 := j) (q := q) (p0 := [i0]) (p1 := [] ++ [j']) (p := [j']) hcle hmv row.s 0 x0 y0 _ _ hp h8 h9 h5 hlk
end
end Go.Proofs.YtmbcnpbgcfiafaaGreat.Vm
