/- A walk by reckoning: rows of the call's own. Each block of such a row bears a name: the row's number and the way to it. -/
import Derived.Test.YthddkomphkanbaaWMore
import Derived.LoopN
namespace Go.Proofs.Ythddkomphkanbaa.Vm
open Go Go.RowKit Go.Proofs.YthddkomphkanbaaW.PrintWords
set_option linter.unusedVariables false
set_option linter.unusedSimpArgs false

/-! ### Shapes of what lies in a row -/
inductive Sh where
  | int (k : IntKind)
  | bool
  | str
  | sl (e : TypeId) (s : Sh)
  | pair (a b : Sh)
def Sh.den : Sh → Type
  | .int _ => Int
  | .bool => Bool
  | .str => ByteArray
  | .sl _ s => List s.den
  | .pair a b => a.den × b.den
def Sh.sz : Sh → Nat
  | .pair a b => a.sz + b.sz
  | _ => 1
def Sh.kd : (s : Sh) → Kd s.den
  | .int k => Kd.int k
  | .bool => Kd.bool
  | .str => Kd.string
  | .sl e s => Kd.slice e s.kd
  | .pair a b => Kd.pair a.kd b.kd
def Sh.dflt : (s : Sh) → s.den
  | .int _ => (0 : Int)
  | .bool => false
  | .str => ByteArray.empty
  | .sl _ _ => []
  | .pair a b => (a.dflt, b.dflt)
def Sh.beq : Sh → Sh → Bool
  | .int k, .int k' => decide (k = k')
  | .bool, .bool => true
  | .str, .str => true
  | .sl e s, .sl e' s' => decide (e = e') && s.beq s'
  | .pair a b, .pair a' b' => a.beq a' && b.beq b'
  | _, _ => false
theorem Sh.beq_eq : ∀ {a b : Sh}, a.beq b = true → a = b
  | .int k, .int k', h => by simp [Sh.beq] at h; rw [h]
  | .bool, .bool, _ => rfl
  | .str, .str, _ => rfl
  | .sl e s, .sl e' s', h => by
    simp [Sh.beq] at h
    rw [h.1, Sh.beq_eq h.2]
  | .pair a b, .pair a' b', h => by
    simp [Sh.beq] at h
    rw [Sh.beq_eq h.1, Sh.beq_eq h.2]
  | .int _, .bool, h | .int _, .str, h | .int _, .sl _ _, h | .int _, .pair _ _, h
  | .bool, .int _, h | .bool, .str, h | .bool, .sl _ _, h | .bool, .pair _ _, h
  | .str, .int _, h | .str, .bool, h | .str, .sl _ _, h | .str, .pair _ _, h
  | .sl _ _, .int _, h | .sl _ _, .bool, h | .sl _ _, .str, h | .sl _ _, .pair _ _, h
  | .pair _ _, .int _, h | .pair _ _, .bool, h | .pair _ _, .str, h | .pair _ _, .sl _ _, h => by simp [Sh.beq] at h
theorem Sh.kd_sz : ∀ s : Sh, s.kd.sz = s.sz
  | .int _ | .bool | .str | .sl _ _ => rfl
  | .pair a b => by show a.kd.sz + b.kd.sz = a.sz + b.sz; rw [a.kd_sz, b.kd_sz]
theorem Sh.sz_pos : ∀ s : Sh, 0 < s.sz
  | .int _ | .bool | .str | .sl _ _ => by simp [Sh.sz]
  | .pair a b => by have := a.sz_pos; simp only [Sh.sz]; omega

/-! ### Ownership -/
abbrev nth {α : Type} (xs : List α) (i : Nat) : Option α := xs[i]?
abbrev Lab := Nat → Option (Nat × List Nat)
/-- Cells that hold an element, its rows inside of the call's own, each block by the name (r, the way to it). -/
def OE (w : World) (base : Nat) (lab : Lab) (r : Nat) : (s : Sh) → List Nat → Nat → s.den → List Value → Prop
  | .int k, _, _, x, cs => cs = [.int k x]
  | .bool, _, _, x, cs => cs = [.bool x]
  | .str, _, _, x, cs => cs = [.string x]
  | .sl e s, p, o, xs, cs => ∃ v, cs = [v] ∧ (∀ k, v.ownBlock = some k → lab k = some (r, p ++ [o])) ∧ ∃ inner, w.ownsRow base e s.sz v (List.length xs) inner ∧
      ∀ (i : Nat) (x : s.den), nth (α := s.den) xs i = some x → OE w base lab r s (p ++ [o, i]) 0 x ((inner.drop (i * s.sz)).take s.sz)
  | .pair a b, p, o, x, cs => ∃ c0 c1, cs = c0 ++ c1 ∧ OE w base lab r a p o x.1 c0 ∧ OE w base lab r b p (o + a.sz) x.2 c1
/-- A row of the call's own. -/
def Own (s : Sh) (e : TypeId) (w : World) (base : Nat) (lab : Lab) (r : Nat) (p : List Nat) (v : Value) (xs : List s.den) : Prop :=
  (∀ k, v.ownBlock = some k → lab k = some (r, p)) ∧ ∃ inner, w.ownsRow base e s.sz v xs.length inner ∧ ∀ (i : Nat) (x : s.den), xs[i]? = some x → OE w base lab r s (p ++ [i]) 0 x ((inner.drop (i * s.sz)).take s.sz)
section
variable {w w1 : World} {base base' : Nat} {lab lab' : Lab} {r r' : Nat}
theorem OE_sl {e : TypeId} {s : Sh} {p : List Nat} {o : Nat} {xs : List s.den} {cs : List Value} : OE w base lab r (.sl e s) p o xs cs ↔ ∃ v, cs = [v] ∧ Own s e w base lab r (p ++ [o]) v xs := by
  constructor
  · rintro ⟨v, h1, h2, inner, h3, h4⟩
    exact ⟨v, h1, h2, inner, h3, fun i x hx => by have := h4 i x hx; rwa [List.append_assoc]⟩
  · rintro ⟨v, h1, h2, inner, h3, h4⟩
    exact ⟨v, h1, h2, inner, h3, fun i x hx => by have := h4 i x hx; rwa [List.append_assoc] at this⟩
theorem OE_len : ∀ (s : Sh) (p : List Nat) (o : Nat) (x : s.den) (cs : List Value), OE w base lab r s p o x cs → cs.length = s.sz
  | .int _, _, _, _, _, h => by obtain rfl := h; rfl
  | .bool, _, _, _, _, h => by obtain rfl := h; rfl
  | .str, _, _, _, _, h => by obtain rfl := h; rfl
  | .sl e s, _, _, _, _, h => by obtain ⟨v, rfl, _⟩ := h; rfl
  | .pair a b, p, o, x, cs, h => by
    obtain ⟨c0, c1, rfl, h0, h1⟩ := h
    rw [List.length_append, OE_len a _ _ _ _ h0, OE_len b _ _ _ _ h1]
    rfl
theorem OE_one : ∀ (s : Sh) (p : List Nat) (o : Nat) (x : s.den) (cs : List Value), OE w base lab r s p o x cs → ∀ u ∈ cs, u.oneCell' = true
  | .int _, _, _, _, _, h => by obtain rfl := h; simp [Value.oneCell']
  | .bool, _, _, _, _, h => by obtain rfl := h; simp [Value.oneCell']
  | .str, _, _, _, _, h => by obtain rfl := h; simp [Value.oneCell']
  | .sl e s, _, _, _, _, h => by
    obtain ⟨v, rfl, _, inner, ho, _⟩ := h
    obtain ⟨A, c, rfl⟩ := own_slice ho
    simp [Value.oneCell']
  | .pair a b, p, o, x, cs, h => by
    obtain ⟨c0, c1, rfl, h0, h1⟩ := h
    intro u hu
    rcases List.mem_append.1 hu with hu | hu
    · exact OE_one a _ _ _ _ h0 u hu
    · exact OE_one b _ _ _ _ h1 u hu
/-- Another world, other names: what lies in the named blocks stays. -/
theorem OE_move {q q' : List Nat} (hm : ∀ k m, k < w.heap.size → base ≤ k → lab k = some (r, q ++ m) → w1.heap[k]? = w.heap[k]? ∧ lab' k = some (r', q' ++ m)) (hb : base' ≤ base) :
    ∀ (s : Sh) (p : List Nat) (o : Nat) (x : s.den) (cs : List Value), OE w base lab r s (q ++ p) o x cs → OE w1 base' lab' r' s (q' ++ p) o x cs
  | .int _, _, _, _, _, h => h
  | .bool, _, _, _, _, h => h
  | .str, _, _, _, _, h => h
  | .sl e s, p, o, xs, cs, h => by
    obtain ⟨v, h1, h2, inner, h3, h4⟩ := h
    have key : ∀ k, v.ownBlock = some k → w1.heap[k]? = w.heap[k]? ∧ lab' k = some (r', q' ++ (p ++ [o])) := fun k hk =>
      hm k _ (own_lt h3 k hk) (own_base h3 k hk) (by have := h2 k hk; rwa [List.append_assoc] at this)
    refine ⟨v, h1, fun k hk => by have := (key k hk).2; rwa [← List.append_assoc] at this, inner, own_weaken (own_move h3 fun k hk => (key k hk).1) hb, fun i x hx => ?_⟩
    have := OE_move hm hb s (p ++ [o, i]) 0 x _ (by have := h4 i x hx; rwa [List.append_assoc] at this)
    rwa [← List.append_assoc] at this
  | .pair a b, p, o, x, cs, h => by
    obtain ⟨c0, c1, e, h0, h1⟩ := h
    exact ⟨c0, c1, e, OE_move hm hb a p o x.1 c0 h0, OE_move hm hb b p _ x.2 c1 h1⟩
theorem Own.move {s : Sh} {e : TypeId} {v : Value} {xs : List s.den} {q q' : List Nat} (h : Own s e w base lab r q v xs) (hm : ∀ k m, k < w.heap.size → base ≤ k → lab k = some (r, q ++ m) → w1.heap[k]? = w.heap[k]? ∧ lab' k = some (r', q' ++ m)) (hb : base' ≤ base) :
    Own s e w1 base' lab' r' q' v xs := by
  obtain ⟨h2, inner, h3, h4⟩ := h
  have key : ∀ k, v.ownBlock = some k → w1.heap[k]? = w.heap[k]? ∧ lab' k = some (r', q' ++ []) := fun k hk => hm k [] (own_lt h3 k hk) (own_base h3 k hk) (by rw [List.append_nil]; exact h2 k hk)
  exact ⟨fun k hk => by have := (key k hk).2; rwa [List.append_nil] at this, inner, own_weaken (own_move h3 fun k hk => (key k hk).1) hb, fun i x hx => OE_move hm hb s [i] 0 x _ (h4 i x hx)⟩
/-- The same names. -/
theorem Own.step {s : Sh} {e : TypeId} {v : Value} {xs : List s.den} {q : List Nat} (h : Own s e w base lab r q v xs) (hm : ∀ k m, k < w.heap.size → lab k = some (r, m) → w1.heap[k]? = w.heap[k]?) : Own s e w1 base lab r q v xs :=
  h.move (fun k m hk _ hl => ⟨hm k _ hk hl, hl⟩) (Nat.le_refl _)
theorem OE_K : ∀ (s : Sh) (p : List Nat) (o : Nat) (x : s.den) (cs : List Value), OE w base lab r s p o x cs → s.kd.K w x cs
  | .int _, _, _, _, _, h => h
  | .bool, _, _, _, _, h => h
  | .str, _, _, _, _, h => h
  | .sl e s, p, o, xs, cs, h => by
    obtain ⟨v, rfl, _, inner, h3, h4⟩ := h
    obtain ⟨A, c, hv, hc, hr⟩ := OwnRow.reads (R := s.kd.K w) (size := s.sz) ⟨inner, h3, h3.1, fun i x hx => OE_K s _ _ x _ (h4 i x hx)⟩
    exact ⟨A, c, by rw [hv], hc, by unfold Kd.C; rw [s.kd_sz]; exact hr⟩
  | .pair a b, p, o, x, cs, h => by
    obtain ⟨c0, c1, e, h0, h1⟩ := h
    exact ⟨c0, c1, e, OE_K a _ _ _ _ h0, OE_K b _ _ _ _ h1⟩
theorem Own.reads {s : Sh} {e : TypeId} {v : Value} {xs : List s.den} {q : List Nat} (h : Own s e w base lab r q v xs) : ∃ A c, v = .slice A xs.length c ∧ xs.length ≤ c ∧ s.kd.C w A xs.length xs := by
  obtain ⟨_, inner, h3, h4⟩ := h
  obtain ⟨A, c, hv, hc, hr⟩ := OwnRow.reads (R := s.kd.K w) (size := s.sz) ⟨inner, h3, h3.1, fun i x hx => OE_K s _ _ x _ (h4 i x hx)⟩
  exact ⟨A, c, hv, hc, by unfold Kd.C; rw [s.kd_sz]; exact hr⟩
theorem Own.nil (s : Sh) (e : TypeId) (w : World) (base : Nat) (lab : Lab) (r : Nat) (q : List Nat) : Own s e w base lab r q (.slice none 0 0) [] :=
  ⟨fun k hk => by simp [Value.ownBlock] at hk, [], own_nil _ _ _ _, fun i x hx => by simp at hx⟩
end
end Go.Proofs.Ythddkomphkanbaa.Vm
