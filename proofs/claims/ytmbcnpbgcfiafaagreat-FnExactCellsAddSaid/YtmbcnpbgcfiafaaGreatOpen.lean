/- How an argument that reads as data lies in memory: in the words of this seat's printed functions (kinds). For any types of whole numbers, bools, strings, slices and structs. -/
import Derived.Test.YtmbcnpbgcfiafaaGreatVmW
import Derived.ProofKit
import Derived.Deep.Slices
import Derived.Lib.SmallJoins
import Derived.ChangeOld
namespace Go.Proofs.YtmbcnpbgcfiafaaGreat.Opening
open Go.RowKit Go.WideShapes Go.Proofs.YtmbcnpbgcfiafaaGreatW.PrintWords

section
variable {H : Type} {enc : TypeId × Value → H} {P : Program} {W : World}
def Opens (enc : TypeId × Value → H) (P : Program) (W : World) {α : Type} (t : TypeId) (d : Kd α) (V : α → Prop) : Prop :=
  ∀ (fuel : Nat) (cs : List Value) (x : DataW H × List MemPlace), DataW.trod enc P W 0 (fun _ => true) true fuel t cs = some x → ∃ a, d.K W a cs ∧ V a
theorem opens_int {t : TypeId} {k : IntKind} (hu : P.underlying t = some (.int k)) : Opens enc P W t (Kd.int k) (fun n => (Lit.int k n).wf = true) := by
  intro fuel cs x h
  obtain ⟨n, rfl, _, hw⟩ := DataW.trod_int hu h
  exact ⟨n, rfl, hw⟩
theorem opens_bool {t : TypeId} (hu : P.underlying t = some .bool) : Opens enc P W t Kd.bool (fun _ => True) := by
  intro fuel cs x h
  obtain ⟨n, rfl, _⟩ := DataW.trod_bool hu h
  exact ⟨n, rfl, trivial⟩
theorem opens_string {t : TypeId} (hu : P.underlying t = some .string) : Opens enc P W t Kd.string (fun s => s.size ≤ maxLen) := by
  intro fuel cs x h
  obtain ⟨n, rfl, _, hs⟩ := DataW.trod_string hu h
  exact ⟨n, rfl, hs⟩
theorem cells_get {W : World} {base : Nat} {a : Addr} {n : Nat} {cs : List Value} (h : W.cells? base a n = some cs) : cs.length = n ∧ ∀ i u, cs[i]? = some u → W.cell? (a.add i) = some u := by
  obtain ⟨_, hl, hc⟩ := World.cells?_some h
  refine ⟨hl, fun i u hu => ?_⟩
  have hi : i < n := by have := (List.getElem?_eq_some_iff.1 hu).1; omega
  rw [hc i hi, hu]
theorem add_two (a : Addr) (i j : Nat) : (a.add i).add j = a.add (i + j) := by
  unfold Addr.add
  by_cases h1 : i = 0 <;> by_cases h2 : j = 0 <;> simp [h1, h2, Nat.add_assoc]
theorem opens_slice {α : Type} {t e : TypeId} {d : Kd α} {V : α → Prop} (hu : P.underlying t = some (.slice e)) (hc : P.cellsOf e = d.sz) (he : Opens enc P W e d V) :
    Opens enc P W t (Kd.slice e d) (fun xs => xs.length ≤ maxLen ∧ ∀ x ∈ xs, V x) := by
  intro fuel cs x h
  rcases Deep.open_slice hu h with ⟨rfl, _⟩ | ⟨a, len, cap, m, n, D, Pl, rfl, _, hl, hm, hmm, _, hx⟩
  · exact ⟨[], ⟨none, 0, rfl, Nat.le_refl _, Kd.C_nil d W⟩, by simp [maxLen], by simp⟩
  · have hlm : len ≤ m := by rw [hmm]; split <;> omega
    have key : ∀ i : Nat, i < len → ∃ y : α, V y ∧ ∃ c : List Value, c.length = d.sz ∧ d.K W y c ∧ ∀ j u, c[j]? = some u → W.cell? (a.add (i * d.sz + j)) = some u := by
      intro i hi
      obtain ⟨cs', h1, h2⟩ := hx i (by omega)
      obtain ⟨y, hK, hV⟩ := he n cs' _ h2
      obtain ⟨h3, h4⟩ := cells_get h1
      refine ⟨y, hV, cs', by rw [h3, hc], hK, fun j u hj => ?_⟩
      have := h4 j u hj
      rw [add_two, hc] at this
      exact this
    have key2 : ∀ i : Nat, ∃ y : Option α, i < len → ∃ z, y = some z ∧ V z ∧ ∃ c : List Value, c.length = d.sz ∧ d.K W z c ∧ ∀ j u, c[j]? = some u → W.cell? (a.add (i * d.sz + j)) = some u := by
      intro i
      by_cases hi : i < len
      · obtain ⟨y, h⟩ := key i hi
        exact ⟨some y, fun _ => ⟨y, rfl, h⟩⟩
      · exact ⟨none, fun h => absurd h hi⟩
    obtain ⟨f, hf⟩ := Classical.axiomOfChoice key2
    obtain ⟨xs, hxl, hxs⟩ : ∃ xs : List α, xs.length = len ∧ ∀ (i : Nat) (z : α), xs[i]? = some z → f i = some z := by
      have : ∀ k, k ≤ len → ∃ xs : List α, xs.length = k ∧ ∀ (i : Nat) (z : α), xs[i]? = some z → f i = some z := by
        intro k
        induction k with
        | zero => exact fun _ => ⟨[], rfl, fun i z h => by simp at h⟩
        | succ k ih =>
          intro hk
          obtain ⟨xs, hl, hx⟩ := ih (by omega)
          obtain ⟨z, hz, _⟩ := hf k (by omega)
          refine ⟨xs ++ [z], by simp [hl], fun i y hi => ?_⟩
          rcases Nat.lt_or_ge i xs.length with h | h
          · rw [List.getElem?_append_left h] at hi
            exact hx i y hi
          · rw [List.getElem?_append_right h] at hi
            have : i - xs.length = 0 := by
              rcases Nat.eq_zero_or_pos (i - xs.length) with h0 | h0
              · exact h0
              · rw [List.getElem?_eq_none (by simp only [List.length_cons, List.length_nil]; omega)] at hi
                cases hi
            rw [this] at hi
            simp at hi
            obtain rfl : i = k := by omega
            rw [hz, hi]
      exact this len (Nat.le_refl _)
    have hlen : ∀ i z, xs[i]? = some z → i < len := fun i z h => by have := (List.getElem?_eq_some_iff.1 h).1; omega
    refine ⟨xs, ⟨some a, cap, by rw [hxl], by omega, ?_⟩, by rw [hxl]; omega, fun z hz => ?_⟩
    · rw [hxl]
      refine ⟨hxl, by unfold maxLen at hm; omega, fun _ => ⟨a, rfl, fun j p hj => ?_⟩⟩
      obtain ⟨z, hz, _, c, h1, h2, h3⟩ := hf j (hlen j p hj)
      have := hxs j p hj
      rw [hz] at this
      injection this with this
      subst this
      exact ⟨c, h1, h2, h3⟩
    · obtain ⟨i, hi, hz'⟩ := List.getElem_of_mem hz
      have hs : xs[i]? = some z := by rw [List.getElem?_eq_getElem hi, hz']
      obtain ⟨z', he', hV, _⟩ := hf i (hlen i z hs)
      have := hxs i z hs
      rw [he'] at this
      injection this with this
      subst this
      exact hV
def OpensF (enc : TypeId × Value → H) (P : Program) (W : World) {α : Type} (fs : List Field) (o total : Nat) (d : Kd α) (V : α → Prop) : Prop :=
  ∀ (n : Nat) (cs : List Value), cs.length = total → (∀ f ∈ fs, ∃ x, DataW.trod enc P W 0 (fun _ => true) true n f.type ((cs.drop f.offset).take (P.cellsOf f.type)) = some x) → ∃ a, d.K W a (cs.drop o) ∧ V a
theorem opensF_last {α : Type} {f : Field} {o total : Nat} {d : Kd α} {V : α → Prop} (ho : f.offset = o) (ht : o + P.cellsOf f.type = total) (h : Opens enc P W f.type d V) : OpensF enc P W [f] o total d V := by
  intro n cs hl hx
  obtain ⟨x, hx⟩ := hx f (by simp)
  rw [ho, List.take_of_length_le (by simp; omega)] at hx
  exact h n _ x hx
theorem opensF_cons {α β : Type} {f : Field} {fs : List Field} {o o' total : Nat} {d : Kd α} {d' : Kd β} {V : α → Prop} {V' : β → Prop} (ho : f.offset = o) (ho' : o + P.cellsOf f.type = o') (h : Opens enc P W f.type d V)
    (h' : OpensF enc P W fs o' total d' V') : OpensF enc P W (f :: fs) o total (Kd.pair d d') (fun x => V x.1 ∧ V' x.2) := by
  intro n cs hl hx
  obtain ⟨x, hx0⟩ := hx f (by simp)
  obtain ⟨a, hK, hV⟩ := h n _ x hx0
  obtain ⟨b, hK', hV'⟩ := h' n cs hl (fun g hg => hx g (List.mem_cons_of_mem _ hg))
  refine ⟨(a, b), ⟨_, _, ?_, hK, hK'⟩, hV, hV'⟩
  rw [ho, ← ho', ← List.drop_drop, List.take_append_drop]
theorem opens_struct0 {α : Type} {t : TypeId} {fs : Array Field} {total : Nat} {d : Kd α} {V : α → Prop} (hu : P.underlying t = some (.struct fs)) (hc : P.cellsOf t = total) (hF : OpensF enc P W fs.toList 0 total d V) : Opens enc P W t d V := by
  intro fuel cs x h
  obtain ⟨xs, n, _, _, hlen, hxl, hx⟩ := DataW.trod_struct hu h
  exact hF n cs (by rw [hlen, hc]) (fun fd hfd => by
    obtain ⟨i, hi, he⟩ := List.getElem_of_mem hfd
    have h1 : fs[i]? = some fd := by
      rw [← he]
      simp at hi
      simp [hi]
    have h2 := hx i fd h1
    have hi' : i < xs.length := by simp at hi; omega
    rw [List.getElem?_eq_getElem hi'] at h2
    exact ⟨_, h2⟩)
theorem opens_struct {α β : Type} {t : TypeId} {fs : Array Field} {total : Nat} {d : Kd α} {V : α → Prop} (hu : P.underlying t = some (.struct fs)) (hc : P.cellsOf t = total) (hF : OpensF enc P W fs.toList 0 total d V)
    (f : β → α) (g : α → β) (hfg : ∀ a, f (g a) = a) : Opens enc P W t (Kd.iso d f) (fun x => V (f x)) := by
  intro fuel cs x h
  obtain ⟨a, hK, hV⟩ := opens_struct0 hu hc hF fuel cs x h
  refine ⟨g a, ?_, ?_⟩
  · show d.K W (f (g a)) cs
    rw [hfg]
    exact hK
  · show V (f (g a))
    rw [hfg]
    exact hV
theorem opens_arg {α : Type} {t : TypeId} {d : Kd α} {V : α → Prop} (h : Opens enc P W t d V) {v : Value} {x : DataW H} {ps : List MemPlace} (ht : DataW.Trod enc P W 0 (fun _ => true) true t v x ps) : ∃ a, d.K W a v.cells.toList ∧ V a := by
  obtain ⟨fuel, hf⟩ := ht
  exact h fuel _ _ hf
theorem arg_struct {t : TypeId} {fs : Array Field} {r : Reach} {base : Nat} {v : Value} (hu : P.underlying t = some (.struct fs)) (hv : Value.okWide P W r base t v) : ∃ cs, v = .agg cs ∧ v.cells.toList = cs.toList := by
  obtain ⟨cs, rfl, _⟩ := okWide_struct hu hv
  exact ⟨cs, rfl, by simp [Value.cells]⟩
end
end Go.Proofs.YtmbcnpbgcfiafaaGreat.Opening
