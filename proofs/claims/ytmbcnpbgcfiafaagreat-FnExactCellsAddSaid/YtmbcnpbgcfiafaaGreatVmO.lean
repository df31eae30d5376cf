/- A walk by reckoning: rows of the call's own. Each block of such a row bears a name: the row's number and the way to it. -/
import Derived.Test.YtmbcnpbgcfiafaaGreatVmW
import Derived.LoopN
namespace Go.Proofs.YtmbcnpbgcfiafaaGreat.Vm
open Go Go.RowKit Go.Proofs.YtmbcnpbgcfiafaaGreatW.PrintWords
set_option linter.unusedVariables false
set_option linter.unusedSimpArgs false

abbrev HD := Option Addr × Nat × Nat
def HD.v (h : HD) : Value := .slice h.1 h.2.1 h.2.2
def hdKd {α : Type} (d : Kd α) : Kd (HD × α) where
  sz := d.sz
  E := d.E
  K := fun w x cs => d.K w x.2 cs ∧ cs = [x.1.v]
  M := fun w base ok x cs => d.M w base ok x.2 cs ∧ cs = [x.1.v]
  K_len := fun h => d.K_len h.1
  K_one := fun h => d.K_one h.1
  K_below := fun hb h => ⟨d.K_below hb h.1, h.2⟩
  K_of_M := fun h => ⟨d.K_of_M h.1, h.2⟩
  M_mono := fun ho h => ⟨d.M_mono ho h.1, h.2⟩
  M_bound := fun h => ⟨d.M_bound h.1, h.2⟩
  M_move := fun hm h => ⟨d.M_move hm h.1, h.2⟩
  M_lower := fun hb h => ⟨d.M_lower hb h.1, h.2⟩
inductive Sh where
  | int (k : IntKind)
  | bool
  | str
  | sl (e : TypeId) (s : Sh)
  | rs (e : TypeId) (s : Sh)
  | hr (e : TypeId) (s : Sh)
  | hv
  | pair (a b : Sh)
def Sh.den : Sh → Type
  | .int _ => Int
  | .bool => Bool
  | .str => ByteArray
  | .sl _ s => List s.den
  | .rs _ s => List s.den
  | .hr _ s => HD × List s.den
  | .hv => HD
  | .pair a b => a.den × b.den
def Sh.sz : Sh → Nat
  | .pair a b => a.sz + b.sz
  | _ => 1
def Sh.kd : (s : Sh) → Kd s.den
  | .int k => Kd.int k
  | .bool => Kd.bool
  | .str => Kd.string
  | .sl e s => Kd.slice e s.kd
  | .rs e s => Kd.slice e s.kd
  | .hr e s => hdKd (Kd.slice e s.kd)
  | .hv => Kd.scalar HD.v (fun _ => rfl)
  | .pair a b => Kd.pair a.kd b.kd
def Sh.dflt : (s : Sh) → s.den
  | .int _ => (0 : Int)
  | .bool => false
  | .str => ByteArray.empty
  | .sl _ _ => []
  | .rs _ _ => []
  | .hr _ _ => ((none, 0, 0), [])
  | .hv => (none, 0, 0)
  | .pair a b => (a.dflt, b.dflt)
def Sh.beq : Sh → Sh → Bool
  | .int k, .int k' => decide (k = k')
  | .bool, .bool => true
  | .str, .str => true
  | .sl e s, .sl e' s' => decide (e = e') && s.beq s'
  | .rs e s, .rs e' s' => decide (e = e') && s.beq s'
  | .hr e s, .hr e' s' => decide (e = e') && s.beq s'
  | .hv, .hv => true
  | .pair a b, .pair a' b' => a.beq a' && b.beq b'
  | _, _ => false
theorem Sh.beq_eq : ∀ {a b : Sh}, a.beq b = true → a = b := by
  intro a
  induction a with
  | int k => intro b h; cases b <;> simp [Sh.beq] at h; rw [h]
  | bool => intro b h; cases b <;> simp [Sh.beq] at h; rfl
  | str => intro b h; cases b <;> simp [Sh.beq] at h; rfl
  | sl e s ih => intro b h; cases b <;> simp [Sh.beq] at h; rw [h.1, ih h.2]
  | rs e s ih => intro b h; cases b <;> simp [Sh.beq] at h; rw [h.1, ih h.2]
  | hr e s ih => intro b h; cases b <;> simp [Sh.beq] at h; rw [h.1, ih h.2]
  | hv => intro b h; cases b <;> simp [Sh.beq] at h; rfl
  | pair a b iha ihb => intro b h; cases b <;> simp [Sh.beq] at h; rw [iha h.1, ihb h.2]
theorem Sh.kd_sz : ∀ s : Sh, s.kd.sz = s.sz
  | .int _ | .bool | .str | .sl _ _ | .rs _ _ | .hr _ _ | .hv => rfl
  | .pair a b => by show a.kd.sz + b.kd.sz = a.sz + b.sz; rw [a.kd_sz, b.kd_sz]
theorem Sh.sz_pos : ∀ s : Sh, 0 < s.sz
  | .int _ | .bool | .str | .sl _ _ | .rs _ _ | .hr _ _ | .hv => by simp [Sh.sz]
  | .pair a b => by have := a.sz_pos; simp only [Sh.sz]; omega

abbrev Cle (w w1 : World) : Prop := ∀ a u, w.cell? a = some u → w1.cell? a = some u
theorem ReadsRow_mono {α : Type} {R R' : α → List Value → Prop} {sz : Nat} {w w1 : World} {A : Option Addr} {n : Nat} {xs : List α} (hR : ∀ x c, R x c → R' x c) (hc : Cle w w1) (h : ReadsRow R sz w A n xs) : ReadsRow R' sz w1 A n xs := by
  obtain ⟨h1, h2, h3⟩ := h
  refine ⟨h1, h2, fun h0 => ?_⟩
  obtain ⟨ad, e, h4⟩ := h3 h0
  refine ⟨ad, e, fun j p hj => ?_⟩
  obtain ⟨c, h5, h6, h7⟩ := h4 j p hj
  exact ⟨c, h5, hR _ _ h6, fun i u hu => hc _ _ (h7 i u hu)⟩
theorem Sh.K_cells_mono : ∀ (s : Sh) {w w1 : World} (hc : Cle w w1) {x : s.den} {cs : List Value}, s.kd.K w x cs → s.kd.K w1 x cs
  | .int _, _, _, _, _, _, h => h
  | .bool, _, _, _, _, _, h => h
  | .str, _, _, _, _, _, h => h
  | .sl e s, w, w1, hc, xs, cs, h => by
    obtain ⟨A, n, h1, h2, h3⟩ : ∃ A n, cs = [.slice A (List.length xs) n] ∧ List.length xs ≤ n ∧ s.kd.C w A (List.length xs) xs := h
    exact ⟨A, n, h1, h2, ReadsRow_mono (fun _ _ hp => s.K_cells_mono hc hp) hc h3⟩
  | .rs e s, w, w1, hc, xs, cs, h => by
    obtain ⟨A, n, h1, h2, h3⟩ : ∃ A n, cs = [.slice A (List.length xs) n] ∧ List.length xs ≤ n ∧ s.kd.C w A (List.length xs) xs := h
    exact ⟨A, n, h1, h2, ReadsRow_mono (fun _ _ hp => s.K_cells_mono hc hp) hc h3⟩
  | .hr e s, w, w1, hc, xs, cs, h => by
    obtain ⟨⟨A, n, h1, h2, h3⟩, h4⟩ : (∃ A n, cs = [.slice A (List.length xs.2) n] ∧ List.length xs.2 ≤ n ∧ s.kd.C w A (List.length xs.2) xs.2) ∧ cs = [xs.1.v] := h
    exact ⟨⟨A, n, h1, h2, ReadsRow_mono (fun _ _ hp => s.K_cells_mono hc hp) hc h3⟩, h4⟩
  | .hv, _, _, _, _, _, h => h
  | .pair a b, w, w1, hc, x, cs, h => by
    obtain ⟨c0, c1, e, h0, h1⟩ : ∃ c0 c1, cs = c0 ++ c1 ∧ a.kd.K w x.1 c0 ∧ b.kd.K w x.2 c1 := h
    exact ⟨c0, c1, e, a.K_cells_mono hc h0, b.K_cells_mono hc h1⟩
theorem Sh.C_cells_mono (s : Sh) {w w1 : World} (hc : Cle w w1) {A : Option Addr} {n : Nat} {xs : List s.den} (h : s.kd.C w A n xs) : s.kd.C w1 A n xs :=
  ReadsRow_mono (fun _ _ hp => s.K_cells_mono hc hp) hc h
abbrev nth {α : Type} (xs : List α) (i : Nat) : Option α := xs[i]?
abbrev Lab := Nat → Option (Nat × List Nat)
def OE (z w : World) (base : Nat) (lab : Lab) (r : Nat) : (s : Sh) → List Nat → Nat → s.den → List Value → Prop
  | .int k, _, _, x, cs => cs = [.int k x]
  | .bool, _, _, x, cs => cs = [.bool x]
  | .str, _, _, x, cs => cs = [.string x]
  | .sl e s, p, o, xs, cs => ∃ v, cs = [v] ∧ (∀ k, v.ownBlock = some k → lab k = some (r, p ++ [o])) ∧ ∃ inner, w.ownsRow base e s.sz v (List.length xs) inner ∧
      ∀ (i : Nat) (x : s.den), nth (α := s.den) xs i = some x → OE z w base lab r s (p ++ [o, i]) 0 x ((inner.drop (i * s.sz)).take s.sz)
  | .rs e s, _, _, xs, cs => (Kd.slice e s.kd).K z xs cs
  | .hr e s, _, _, x, cs => (Kd.slice e s.kd).K z x.2 cs ∧ cs = [x.1.v]
  | .hv, _, _, x, cs => cs = [HD.v x]
  | .pair a b, p, o, x, cs => ∃ c0 c1, cs = c0 ++ c1 ∧ OE z w base lab r a p o x.1 c0 ∧ OE z w base lab r b p (o + a.sz) x.2 c1
def Own (s : Sh) (e : TypeId) (z w : World) (base : Nat) (lab : Lab) (r : Nat) (p : List Nat) (v : Value) (xs : List s.den) : Prop :=
  (∀ k, v.ownBlock = some k → lab k = some (r, p)) ∧ ∃ inner, w.ownsRow base e s.sz v xs.length inner ∧ ∀ (i : Nat) (x : s.den), xs[i]? = some x → OE z w base lab r s (p ++ [i]) 0 x ((inner.drop (i * s.sz)).take s.sz)
section
variable {z z1 w w1 : World} {base base' : Nat} {lab lab' : Lab} {r r' : Nat}
theorem OE_sl {e : TypeId} {s : Sh} {p : List Nat} {o : Nat} {xs : List s.den} {cs : List Value} : OE z w base lab r (.sl e s) p o xs cs ↔ ∃ v, cs = [v] ∧ Own s e z w base lab r (p ++ [o]) v xs := by
  constructor
  · rintro ⟨v, h1, h2, inner, h3, h4⟩
    exact ⟨v, h1, h2, inner, h3, fun i x hx => by have := h4 i x hx; rwa [List.append_assoc]⟩
  · rintro ⟨v, h1, h2, inner, h3, h4⟩
    exact ⟨v, h1, h2, inner, h3, fun i x hx => by have := h4 i x hx; rwa [List.append_assoc] at this⟩
theorem OE_len : ∀ (s : Sh) (p : List Nat) (o : Nat) (x : s.den) (cs : List Value), OE z w base lab r s p o x cs → cs.length = s.sz
  | .int _, _, _, _, _, h => by obtain rfl := h; rfl
  | .bool, _, _, _, _, h => by obtain rfl := h; rfl
  | .str, _, _, _, _, h => by obtain rfl := h; rfl
  | .sl e s, _, _, _, _, h => by obtain ⟨v, rfl, _⟩ := h; rfl
  | .rs e s, _, _, _, _, h => by obtain ⟨A, n, rfl, _⟩ := h; rfl
  | .hr e s, _, _, _, _, h => by obtain ⟨_, rfl⟩ := h; rfl
  | .hv, _, _, _, _, h => by obtain rfl := h; rfl
  | .pair a b, p, o, x, cs, h => by
    obtain ⟨c0, c1, rfl, h0, h1⟩ := h
    rw [List.length_append, OE_len a _ _ _ _ h0, OE_len b _ _ _ _ h1]
    rfl
theorem OE_one : ∀ (s : Sh) (p : List Nat) (o : Nat) (x : s.den) (cs : List Value), OE z w base lab r s p o x cs → ∀ u ∈ cs, u.oneCell' = true
  | .int _, _, _, _, _, h => by obtain rfl := h; simp [Value.oneCell']
  | .bool, _, _, _, _, h => by obtain rfl := h; simp [Value.oneCell']
  | .str, _, _, _, _, h => by obtain rfl := h; simp [Value.oneCell']
  | .sl e s, _, _, _, _, h => by
    obtain ⟨v, rfl, _, inner, ho, _⟩ := h
    obtain ⟨A, c, rfl⟩ := own_slice ho
    simp [Value.oneCell']
  | .rs e s, _, _, _, _, h => by
    obtain ⟨A, n, rfl, _⟩ := h
    simp [Value.oneCell']
  | .hr e s, _, _, _, _, h => by obtain ⟨_, rfl⟩ := h; simp [HD.v, Value.oneCell']
  | .hv, _, _, _, _, h => by obtain rfl := h; simp [HD.v, Value.oneCell']
  | .pair a b, p, o, x, cs, h => by
    obtain ⟨c0, c1, rfl, h0, h1⟩ := h
    intro u hu
    rcases List.mem_append.1 hu with hu | hu
    · exact OE_one a _ _ _ _ h0 u hu
    · exact OE_one b _ _ _ _ h1 u hu
theorem OE_move {q q' : List Nat} (hm : ∀ k m, k < w.heap.size → base ≤ k → lab k = some (r, q ++ m) → w1.heap[k]? = w.heap[k]? ∧ lab' k = some (r', q' ++ m)) (hb : base' ≤ base) (hz : Cle z z1) :
    ∀ (s : Sh) (p : List Nat) (o : Nat) (x : s.den) (cs : List Value), OE z w base lab r s (q ++ p) o x cs → OE z1 w1 base' lab' r' s (q' ++ p) o x cs
  | .int _, _, _, _, _, h => h
  | .bool, _, _, _, _, h => h
  | .str, _, _, _, _, h => h
  | .sl e s, p, o, xs, cs, h => by
    obtain ⟨v, h1, h2, inner, h3, h4⟩ := h
    have key : ∀ k, v.ownBlock = some k → w1.heap[k]? = w.heap[k]? ∧ lab' k = some (r', q' ++ (p ++ [o])) := fun k hk =>
      hm k _ (own_lt h3 k hk) (own_base h3 k hk) (by have := h2 k hk; rwa [List.append_assoc] at this)
    refine ⟨v, h1, fun k hk => by have := (key k hk).2; rwa [← List.append_assoc] at this, inner, own_weaken (own_move h3 fun k hk => (key k hk).1) hb, fun i x hx => ?_⟩
    have := OE_move hm hb hz s (p ++ [o, i]) 0 x _ (by have := h4 i x hx; rwa [List.append_assoc] at this)
    rwa [← List.append_assoc] at this
  | .rs e s, p, o, xs, cs, h => (Sh.rs e s).K_cells_mono hz (x := xs) h
  | .hr e s, p, o, x, cs, h => ⟨(Sh.rs e s).K_cells_mono hz (x := x.2) h.1, h.2⟩
  | .hv, _, _, _, _, h => h
  | .pair a b, p, o, x, cs, h => by
    obtain ⟨c0, c1, e, h0, h1⟩ := h
    exact ⟨c0, c1, e, OE_move hm hb hz a p o x.1 c0 h0, OE_move hm hb hz b p _ x.2 c1 h1⟩
theorem Own.move {s : Sh} {e : TypeId} {v : Value} {xs : List s.den} {q q' : List Nat} (h : Own s e z w base lab r q v xs) (hm : ∀ k m, k < w.heap.size → base ≤ k → lab k = some (r, q ++ m) → w1.heap[k]? = w.heap[k]? ∧ lab' k = some (r', q' ++ m)) (hb : base' ≤ base) (hz : Cle z z1) :
    Own s e z1 w1 base' lab' r' q' v xs := by
  obtain ⟨h2, inner, h3, h4⟩ := h
  have key : ∀ k, v.ownBlock = some k → w1.heap[k]? = w.heap[k]? ∧ lab' k = some (r', q' ++ []) := fun k hk => hm k [] (own_lt h3 k hk) (own_base h3 k hk) (by rw [List.append_nil]; exact h2 k hk)
  exact ⟨fun k hk => by have := (key k hk).2; rwa [List.append_nil] at this, inner, own_weaken (own_move h3 fun k hk => (key k hk).1) hb, fun i x hx => OE_move hm hb hz s [i] 0 x _ (h4 i x hx)⟩
theorem Own.step {s : Sh} {e : TypeId} {v : Value} {xs : List s.den} {q : List Nat} (h : Own s e z w base lab r q v xs) (hm : ∀ k m, k < w.heap.size → lab k = some (r, m) → w1.heap[k]? = w.heap[k]?) : Own s e z w1 base lab r q v xs :=
  h.move (fun k m hk _ hl => ⟨hm k _ hk hl, hl⟩) (Nat.le_refl _) (fun _ _ h => h)
theorem OE_K (hz : Cle z w) : ∀ (s : Sh) (p : List Nat) (o : Nat) (x : s.den) (cs : List Value), OE z w base lab r s p o x cs → s.kd.K w x cs
  | .int _, _, _, _, _, h => h
  | .bool, _, _, _, _, h => h
  | .str, _, _, _, _, h => h
  | .sl e s, p, o, xs, cs, h => by
    obtain ⟨v, rfl, _, inner, h3, h4⟩ := h
    obtain ⟨A, c, hv, hc, hr⟩ := OwnRow.reads (R := s.kd.K w) (size := s.sz) ⟨inner, h3, h3.1, fun i x hx => OE_K hz s _ _ x _ (h4 i x hx)⟩
    exact ⟨A, c, by rw [hv], hc, by unfold Kd.C; rw [s.kd_sz]; exact hr⟩
  | .rs e s, p, o, xs, cs, h => (Sh.rs e s).K_cells_mono hz (x := xs) h
  | .hr e s, p, o, x, cs, h => ⟨(Sh.rs e s).K_cells_mono hz (x := x.2) h.1, h.2⟩
  | .hv, _, _, _, _, h => h
  | .pair a b, p, o, x, cs, h => by
    obtain ⟨c0, c1, e, h0, h1⟩ := h
    exact ⟨c0, c1, e, OE_K hz a _ _ _ _ h0, OE_K hz b _ _ _ _ h1⟩
theorem Own.reads {s : Sh} {e : TypeId} {v : Value} {xs : List s.den} {q : List Nat} (h : Own s e z w base lab r q v xs) (hz : Cle z w) : ∃ A c, v = .slice A xs.length c ∧ xs.length ≤ c ∧ s.kd.C w A xs.length xs := by
  obtain ⟨_, inner, h3, h4⟩ := h
  obtain ⟨A, c, hv, hc, hr⟩ := OwnRow.reads (R := s.kd.K w) (size := s.sz) ⟨inner, h3, h3.1, fun i x hx => OE_K hz s _ _ x _ (h4 i x hx)⟩
  exact ⟨A, c, hv, hc, by unfold Kd.C; rw [s.kd_sz]; exact hr⟩
theorem Own.nil (s : Sh) (e : TypeId) (z w : World) (base : Nat) (lab : Lab) (r : Nat) (q : List Nat) : Own s e z w base lab r q (.slice none 0 0) [] :=
  ⟨fun k hk => by simp [Value.ownBlock] at hk, [], own_nil _ _ _ _, fun i x hx => by simp at hx⟩
def Sh.deep : Sh → Bool
  | .rs _ _ => false
  | .hr _ _ => false
  | .sl _ s => s.deep
  | .pair a b => a.deep && b.deep
  | _ => true
theorem OE_deep : ∀ (s : Sh), s.deep = true → ∀ (p : List Nat) (o : Nat) (x : s.den) (cs : List Value), OE z w base lab r s p o x cs → OE z1 w base lab r s p o x cs
  | .int _, _, _, _, _, _, h => h
  | .bool, _, _, _, _, _, h => h
  | .str, _, _, _, _, _, h => h
  | .sl e s, hd, p, o, xs, cs, h => by
    obtain ⟨v, h1, h2, inner, h3, h4⟩ := h
    exact ⟨v, h1, h2, inner, h3, fun i x hx => OE_deep s hd _ _ x _ (h4 i x hx)⟩
  | .rs _ _, hd, _, _, _, _, _ => by cases hd
  | .hr _ _, hd, _, _, _, _, _ => by cases hd
  | .hv, _, _, _, _, _, h => h
  | .pair a b, hd, p, o, x, cs, h => by
    simp only [Sh.deep, Bool.and_eq_true] at hd
    obtain ⟨c0, c1, e, h0, h1⟩ := h
    exact ⟨c0, c1, e, OE_deep a hd.1 _ _ _ _ h0, OE_deep b hd.2 _ _ _ _ h1⟩
theorem Own.deep {s : Sh} {e : TypeId} {v : Value} {xs : List s.den} {q : List Nat} (h : Own s e z w base lab r q v xs) (hd : s.deep = true) : Own s e z1 w base lab r q v xs := by
  obtain ⟨h2, inner, h3, h4⟩ := h
  exact ⟨h2, inner, h3, fun i x hx => OE_deep s hd _ _ x _ (h4 i x hx)⟩
def Sh.shal : Sh → Bool
  | .sl _ _ => false
  | .hr _ _ => false
  | .pair a b => a.shal && b.shal
  | _ => true
theorem OE_shal : ∀ (s : Sh), s.shal = true → ∀ (p : List Nat) (o : Nat) (x : s.den) (cs : List Value), OE z w base lab r s p o x cs ↔ s.kd.K z x cs
  | .int _, _, _, _, _, _ => Iff.rfl
  | .bool, _, _, _, _, _ => Iff.rfl
  | .str, _, _, _, _, _ => Iff.rfl
  | .sl _ _, hd, _, _, _, _ => by cases hd
  | .hr _ _, hd, _, _, _, _ => by cases hd
  | .rs e s, _, _, _, _, _ => Iff.rfl
  | .hv, _, _, _, _, _ => Iff.rfl
  | .pair a b, hd, p, o, x, cs => by
    simp only [Sh.shal, Bool.and_eq_true] at hd
    constructor
    · rintro ⟨c0, c1, e, h0, h1⟩
      exact ⟨c0, c1, e, (OE_shal a hd.1 _ _ _ _).1 h0, (OE_shal b hd.2 _ _ _ _).1 h1⟩
    · rintro ⟨c0, c1, e, h0, h1⟩
      exact ⟨c0, c1, e, (OE_shal a hd.1 _ _ _ _).2 h0, (OE_shal b hd.2 _ _ _ _).2 h1⟩
def Sh.shar : Sh → Sh
  | .sl e s => .rs e s
  | .pair a b => .pair a.shar b.shar
  | s => s
def Sh.norm : Sh → Sh
  | .rs e s => .sl e s
  | .hr e s => .sl e s
  | .pair a b => .pair a.norm b.norm
  | s => s
def Sh.hasR : Sh → Bool
  | .hr _ _ => true
  | .pair a b => a.hasR || b.hasR
  | _ => false
theorem Sh.norm_kd : ∀ s : Sh, s.hasR = false → ∃ h : s.norm.den = s.den, HEq s.norm.kd s.kd
  | .int _, _ => ⟨rfl, HEq.rfl⟩
  | .bool, _ => ⟨rfl, HEq.rfl⟩
  | .str, _ => ⟨rfl, HEq.rfl⟩
  | .sl _ _, _ => ⟨rfl, HEq.rfl⟩
  | .rs _ _, _ => ⟨rfl, HEq.rfl⟩
  | .hv, _ => ⟨rfl, HEq.rfl⟩
  | .hr _ _, h => by cases h
  | .pair a b, h => by
    simp only [Sh.hasR, Bool.or_eq_false_iff] at h
    obtain ⟨h1, h2⟩ := a.norm_kd h.1
    obtain ⟨h3, h4⟩ := b.norm_kd h.2
    refine ⟨by show (a.norm.den × b.norm.den) = (a.den × b.den); rw [h1, h3], ?_⟩
    show HEq (Kd.pair a.norm.kd b.norm.kd) (Kd.pair a.kd b.kd)
    generalize a.norm.kd = ka at *
    generalize b.norm.kd = kb at *
    revert ka kb h1 h3
    generalize a.norm.den = A
    generalize b.norm.den = B
    intro h1 h3 ka h2 kb h4
    subst h1; subst h3
    rw [eq_of_heq h2, eq_of_heq h4]
def Sh.nm : (s : Sh) → s.den → s.norm.den
  | .int _, x => x
  | .bool, x => x
  | .str, x => x
  | .sl _ _, x => x
  | .rs _ _, x => x
  | .hv, x => x
  | .hr _ _, x => x.2
  | .pair a b, x => (a.nm x.1, b.nm x.2)
theorem Sh.nm_K : ∀ (s : Sh) {w : World} {x : s.den} {cs : List Value}, s.kd.K w x cs → s.norm.kd.K w (s.nm x) cs
  | .int _, _, _, _, h => h
  | .bool, _, _, _, h => h
  | .str, _, _, _, h => h
  | .sl _ _, _, _, _, h => h
  | .rs _ _, _, _, _, h => h
  | .hv, _, _, _, h => h
  | .hr _ _, _, _, _, h => h.1
  | .pair a b, w, x, cs, h => by
    obtain ⟨c0, c1, e, h0, h1⟩ : ∃ c0 c1, cs = c0 ++ c1 ∧ a.kd.K w x.1 c0 ∧ b.kd.K w x.2 c1 := h
    exact ⟨c0, c1, e, a.nm_K h0, b.nm_K h1⟩
theorem Sh.norm_sz : ∀ s : Sh, s.norm.sz = s.sz
  | .int _ | .bool | .str | .sl _ _ | .rs _ _ | .hr _ _ | .hv => rfl
  | .pair a b => by show a.norm.sz + b.norm.sz = a.sz + b.sz; rw [a.norm_sz, b.norm_sz]
def Sh.nrm (s : Sh) (xs : List s.den) : List s.norm.den :=
  match h : s.hasR with
  | true => xs.map s.nm
  | false => cast (congrArg List (s.norm_kd h).1.symm) xs
theorem cast_len {D D' : Type} (e : D = D') (xs : List D) : (cast (congrArg List e) xs).length = xs.length := by subst e; rfl
theorem cast_C {D D' : Type} {k : Kd D} {k' : Kd D'} (e : D = D') (hk : HEq k' k) {w : World} {A : Option Addr} {n : Nat} {xs : List D} (h : k.C w A n xs) : k'.C w A n (cast (congrArg List e) xs) := by
  subst e
  rw [eq_of_heq hk]
  exact h
theorem Sh.nrm_len (s : Sh) (xs : List s.den) : (s.nrm xs).length = xs.length := by
  unfold Sh.nrm
  split
  · exact List.length_map ..
  · rename_i h; exact cast_len (s.norm_kd h).1.symm xs
theorem ReadsRow_map {α β : Type} {R : α → List Value → Prop} {R' : β → List Value → Prop} {sz : Nat} {w : World} {A : Option Addr} {n : Nat} {xs : List α} (f : α → β) (hR : ∀ x c, R x c → R' (f x) c) (h : ReadsRow R sz w A n xs) : ReadsRow R' sz w A n (xs.map f) := by
  obtain ⟨h1, h2, h3⟩ := h
  refine ⟨by rw [List.length_map]; exact h1, h2, fun h0 => ?_⟩
  obtain ⟨ad, e, h4⟩ := h3 h0
  refine ⟨ad, e, fun j p hj => ?_⟩
  rw [List.getElem?_map, Option.map_eq_some_iff] at hj
  obtain ⟨q, hq, rfl⟩ := hj
  obtain ⟨c, h5, h6, h7⟩ := h4 j q hq
  exact ⟨c, h5, hR _ _ h6, h7⟩
theorem Sh.norm_C (s : Sh) {w : World} {A : Option Addr} {n : Nat} {xs : List s.den} (h : s.kd.C w A n xs) : s.norm.kd.C w A n (s.nrm xs) := by
  unfold Sh.nrm
  split
  · have e : s.norm.kd.sz = s.kd.sz := by rw [s.norm.kd_sz, s.kd_sz, s.norm_sz]
    unfold Kd.C at h ⊢
    rw [e]
    exact ReadsRow_map s.nm (fun _ _ => s.nm_K) h
  · rename_i hr; exact cast_C (s.norm_kd hr).1.symm (s.norm_kd hr).2 h
end
end Go.Proofs.YtmbcnpbgcfiafaaGreat.Vm
