/- RecordOf of the program returns what the reference's RecordOf returns: the number of the bytes, the bytes and their sum, for at most 255 bytes, and nothing for more. For every slice of bytes (the statement itself speaks of at most 1048576). -/
import Derived.Test.YtpfjklmobjjgpaaStmtFnExactRecordOf
import Derived.Test.YtpfjklmobjjgpaaKit
namespace Go.Proofs.Ytpfjklmobjjgpaa.Pure
open Go.RowKit Go.Proofs.Ytpfjklmobjjgpaa.PFnExactRecordOf Go.Proofs.YtpfjklmobjjgpaaW.PrintWords Go.Proofs.YtpfjklmobjjgpaaW.PrintLast Go.Proofs.Ytpfjklmobjjgpaa.Kit
/-! eqByteS, markByteS, heldByteS -/
theorem eqByteS_l (a b : List Int) (hl : a.length = b.length) (hn : a.length ≤ 4611686018427387904) (d : Nat) : ∀ i : Nat, i ≤ a.length → a.length - i = d →
    Ev (fun k => laws_eqByteS.l0 k a b (i : Int)) (decide (a.drop i = b.drop i)) := by
  induction d with
  | zero =>
    intro i hi hd
    refine ev_one fun k => ?_
    simp only [laws_eqByteS.l0]
    rw [if_neg (by omega), List.drop_of_length_le (by omega), List.drop_of_length_le (by omega)]
    simp
  | succ d ih =>
    intro i hi hd
    have ha : i < a.length := by omega
    have hb : i < b.length := by omega
    rw [drop_cons a i ha, drop_cons b i hb]
    by_cases e : rd a (i : Int) = rd b (i : Int)
    · refine ev_step (f := fun k => laws_eqByteS.l0 k a b ((i + 1 : Nat) : Int)) ?_ fun k => ?_
      · have := ih (i + 1) (by omega) (by omega)
        simpa [e] using this
      · simp only [laws_eqByteS.l0]
        rw [if_pos (by omega), if_pos (by omega), if_pos (by omega), if_pos e, w64 (by omega) (by omega)]
        rfl
    · refine ev_one fun k => ?_
      simp only [laws_eqByteS.l0]
      rw [if_pos (by omega), if_pos (by omega), if_pos (by omega), if_neg e]
      simp [e]
theorem eqByteS_ev (a b : List Int) (hn : a.length ≤ 4611686018427387904) : Ev (fun k => laws_eqByteS.f k a b) (decide (a = b)) := by
  unfold laws_eqByteS.f
  by_cases e : a.length = b.length
  · simp only [show ((a.length : Int) = (b.length : Int)) from by omega, if_true]
    exact eqByteS_l a b e hn a.length 0 (by omega) (by omega)
  · have e' : ¬ ((a.length : Int) = (b.length : Int)) := by omega
    have e2 : a ≠ b := fun h => e (by rw [h])
    simp only [if_neg e', e2, decide_false]
    exact Ev.now _
/-- What marking leaves of a list: a list that is held as marked. -/
theorem markByteS_ev (a : List Int) (m : Int) (hm : 0 ≤ m) (hn : a.length + m ≤ 4611686018427387904) :
    ∃ r : List Int, r.length = a.length ∧ Ev (fun k => laws_markByteS.f k a m) (m + a.length, r) ∧ Ev (fun k => laws_heldByteS.f k r m) (m + a.length) := by
  have h1 : ∀ d i : Nat, ∀ xs : List Int, xs.length = a.length → i ≤ a.length → a.length - i = d →
      ∃ r : List Int, r.length = a.length ∧ (∀ j, j < i → rd r (j : Int) = rd xs (j : Int)) ∧ (∀ j, i ≤ j → j < a.length → rd r (j : Int) = (m + j) % 256) ∧ Ev (fun k => laws_markByteS.l0 k xs (m + i) (i : Int)) (m + a.length, r) := by
    intro d
    induction d with
    | zero =>
      intro i xs hx hi hd
      obtain rfl : i = a.length := by omega
      refine ⟨xs, hx, fun _ _ => rfl, fun j hj hj' => by omega, ev_one fun k => ?_⟩
      simp only [laws_markByteS.l0]
      rw [if_neg (by omega)]
    | succ d ih =>
      intro i xs hx hi hd
      obtain ⟨r, hr, hlo, hhi, hev⟩ := ih (i + 1) (xs.set i ((m + i) % 256)) (by simpa using hx) (by omega) (by omega)
      refine ⟨r, hr, fun j hj => ?_, fun j hj hj' => ?_, ev_step hev fun k => ?_⟩
      · rw [hlo j (by omega)]
        unfold rd
        simp [List.getD_eq_getElem?_getD, show i ≠ j from by omega]
      · rcases Nat.lt_or_ge i j with h | h
        · exact hhi j (by omega) hj'
        · obtain rfl : j = i := by omega
          rw [hlo j (by omega)]
          unfold rd
          simp [List.getD_eq_getElem?_getD, hx, hj']
      · simp only [laws_markByteS.l0]
        rw [if_pos (by omega), if_pos (by omega), w64 (by omega) (by omega), w64 (by omega) (by omega), show m + (i : Int) + 1 = m + ((i + 1 : Nat) : Int) from by omega, show (i : Int) + 1 = ((i + 1 : Nat) : Int) from by omega]
        simp
  obtain ⟨r, hr, _, hhi, hev⟩ := h1 a.length 0 a rfl (by omega) (by omega)
  refine ⟨r, hr, ?_, ?_⟩
  · simpa [laws_markByteS.f] using hev
  · have h2 : ∀ d i : Nat, i ≤ a.length → a.length - i = d → Ev (fun k => laws_heldByteS.l0 k r (m + i) (i : Int)) (m + a.length) := by
      intro d
      induction d with
      | zero =>
        intro i hi hd
        obtain rfl : i = a.length := by omega
        refine ev_one fun k => ?_
        simp only [laws_heldByteS.l0]
        rw [if_neg (by omega)]
      | succ d ih =>
        intro i hi hd
        refine ev_step (ih (i + 1) (by omega) (by omega)) fun k => ?_
        simp only [laws_heldByteS.l0]
        rw [if_pos (by omega), if_pos (by omega), if_pos (hhi i (by omega) (by omega)), w64 (by omega) (by omega), w64 (by omega) (by omega), show m + (i : Int) + 1 = m + ((i + 1 : Nat) : Int) from by omega, show (i : Int) + 1 = ((i + 1 : Nat) : Int) from by omega]
    simpa [laws_heldByteS.f] using h2 a.length 0 (by omega) (by omega)
/-! toByteS -/
theorem toByteS_ev (a : List Int) (hn : a.length ≤ 281474976710656) : Ev (fun k => laws_toByteS.f k a) a := by
  have h1 : ∀ d i : Nat, ∀ xs : List Int, xs.length = a.length → i ≤ a.length → a.length - i = d → xs.take i = a.take i → Ev (fun k => laws_toByteS.l0 k a xs (i : Int)) a := by
    intro d
    induction d with
    | zero =>
      intro i xs hx hi hd ht
      obtain rfl : i = a.length := by omega
      rw [List.take_of_length_le (by omega), List.take_of_length_le (by omega)] at ht
      subst ht
      refine ev_one fun k => ?_
      simp only [laws_toByteS.l0]
      rw [if_neg (by omega)]
    | succ d ih =>
      intro i xs hx hi hd ht
      refine ev_step (ih (i + 1) (xs.set i (rd a (i : Int))) (by simpa using hx) (by omega) (by omega) ?_) fun k => ?_
      · rw [rd_lt a i (by omega), List.take_add_one, List.take_add_one, List.take_set_of_le (Nat.le_refl i), ht]
        simp [show i < xs.length from by omega, show i < a.length from by omega]
      · simp only [laws_toByteS.l0]
        rw [if_pos (by omega), if_pos (by omega), if_pos (by omega), w64 (by omega) (by omega)]
        simp
  have := h1 a.length 0 (List.replicate a.length 0) (by simp) (by omega) (by omega) (by simp)
  unfold laws_toByteS.f
  refine ev_if_pos (by omega) (ev_if_pos (by omega) ?_)
  simpa using this
/-! RecordOf -/
def bsum (l : List Int) : Int := l.foldl (· + ·) 0
theorem bsum_take (l : List Int) (i : Nat) (h : i < l.length) : bsum (l.take (i + 1)) = bsum (l.take i) + rd l (i : Int) := by
  unfold bsum
  rw [rd_lt l i h, List.take_succ_eq_append_getElem h, List.foldl_append]
  rfl
theorem rd_byte (l : List Int) (hb : ∀ x ∈ l, 0 ≤ x ∧ x < 256) (i : Nat) (h : i < l.length) : 0 ≤ rd l (i : Int) ∧ rd l (i : Int) < 256 := by
  rw [rd_lt l i h]; exact hb _ (List.getElem_mem h)
theorem bsum_bd (l : List Int) (hb : ∀ x ∈ l, 0 ≤ x ∧ x < 256) (i : Nat) (h : i ≤ l.length) : 0 ≤ bsum (l.take i) ∧ bsum (l.take i) ≤ 255 * i := by
  induction i with
  | zero => simp [bsum]
  | succ i ih =>
    have := ih (by omega)
    have := rd_byte l hb i (by omega)
    rw [bsum_take l i (by omega)]
    omega
def record (l : List Int) : List Int := [(l.length : Int)] ++ l ++ [bsum l / 256, bsum l % 256]
theorem spec_RecordOf_ev (l : List Int) (hl : l.length ≤ 255) (hb : ∀ x ∈ l, 0 ≤ x ∧ x < 256) : Ev (fun k => spec_RecordOf.f k l) (record l) := by
  have h1 : ∀ d i : Nat, i ≤ l.length → l.length - i = d → Ev (fun k => spec_RecordOf.l0 k l (bsum (l.take i)) (i : Int)) (record l) := by
    intro d
    induction d with
    | zero =>
      intro i hi hd
      obtain rfl : i = l.length := by omega
      have hs := bsum_bd l hb l.length (Nat.le_refl _)
      rw [List.take_of_length_le (Nat.le_refl _)] at hs ⊢
      refine ev_one fun k => ?_
      simp only [spec_RecordOf.l0, Option.bind_some]
      rw [if_neg (by omega), if_pos (by simp; omega), if_pos (by simp; omega), tdiv_nat _ _ hs.1, tmod_nat _ _ hs.1, w64 (by omega) (by omega), tmod_nat _ _ (by omega)]
      unfold record
      rw [show (l.length : Int) % 256 = l.length from by omega, show bsum l / 256 % 256 % 256 = bsum l / 256 from by omega, show bsum l % 256 % 256 = bsum l % 256 from by omega]
    | succ d ih =>
      intro i hi hd
      have hr := rd_byte l hb i (by omega)
      have hs := bsum_bd l hb i (by omega)
      have := ih (i + 1) (by omega) (by omega)
      rw [bsum_take l i (by omega)] at this
      refine ev_step this fun k => ?_
      simp only [spec_RecordOf.l0]
      rw [if_pos (by omega), if_pos (by omega), w64 (n := rd l (i : Int)) (by omega) (by omega), w64 (by omega) (by omega), w64 (by omega) (by omega)]
      rfl
  have := h1 l.length 0 (by omega) (by omega)
  unfold spec_RecordOf.f
  refine ev_if_neg (by omega) ?_
  simpa [bsum] using this
theorem impl_RecordOf_ev (l : List Int) (hl : l.length ≤ 255) (hb : ∀ x ∈ l, 0 ≤ x ∧ x < 256) : Ev (fun k => impl_RecordOf.f k l) (record l) := by
  have h1 : ∀ d i : Nat, i ≤ l.length → l.length - i = d → Ev (fun k => impl_RecordOf.l0 k l (bsum (l.take i)) l (l.length : Int) (i : Int)) (record l) := by
    intro d
    induction d with
    | zero =>
      intro i hi hd
      obtain rfl : i = l.length := by omega
      have hs := bsum_bd l hb l.length (Nat.le_refl _)
      rw [List.take_of_length_le (Nat.le_refl _)] at hs ⊢
      refine ev_one fun k => ?_
      simp only [impl_RecordOf.l0, Option.bind_some]
      rw [if_neg (by omega), if_pos (by simp; omega), if_pos (by simp; omega)]
      unfold record
      rw [show (l.length : Int) % 256 = l.length from by omega, show bsum l / 256 % 256 = bsum l / 256 from by omega]
    | succ d ih =>
      intro i hi hd
      have hr := rd_byte l hb i (by omega)
      have hs := bsum_bd l hb i (by omega)
      have := ih (i + 1) (by omega) (by omega)
      rw [bsum_take l i (by omega)] at this
      refine ev_step this fun k => ?_
      simp only [impl_RecordOf.l0]
      rw [if_pos (by omega), if_pos (by omega), if_pos (by omega), w64 (n := rd l (i : Int)) (by omega) (by omega), w64 (by omega) (by omega), w64 (by omega) (by omega)]
      rfl
  have := h1 l.length 0 (by omega) (by omega)
  unfold impl_RecordOf.f
  refine ev_if_neg (by omega) ?_
  simpa [bsum] using this
theorem spec_RecordOf_nil (l : List Int) (hl : ¬ l.length ≤ 255) : Ev (fun k => spec_RecordOf.f k l) [] := by
  unfold spec_RecordOf.f
  exact ev_if_pos (by omega) (Ev.now _)
theorem impl_RecordOf_nil (l : List Int) (hl : ¬ l.length ≤ 255) : Ev (fun k => impl_RecordOf.f k l) [] := by
  unfold impl_RecordOf.f
  exact ev_if_pos (by omega) (Ev.now _)
theorem FnExactRecordOf : StmtFnExactRecordOf.Stmt := by
  intro l ⟨_, hwf⟩
  have hb : ∀ x ∈ l, 0 ≤ x ∧ x < 256 := fun x hx => u8_wf (hwf x hx)
  refine Ev.rounds (g := fun k => laws_FnExactRecordOf.f k l) ?_
  unfold laws_FnExactRecordOf.f
  by_cases hbig : (l.length : Int) > 1048576
  · exact ev_if_pos hbig (Ev.now _)
  refine ev_if_neg hbig ?_
  have ht := toByteS_ev l (by omega)
  obtain ⟨out, hs, hi, ho⟩ : ∃ out : List Int, Ev (fun k => spec_RecordOf.f k l) out ∧ Ev (fun k => impl_RecordOf.f k l) out ∧ out.length ≤ 300 := by
    by_cases h : l.length ≤ 255
    · exact ⟨_, spec_RecordOf_ev l h hb, impl_RecordOf_ev l h hb, by simp [record]; omega⟩
    · exact ⟨[], spec_RecordOf_nil l h, impl_RecordOf_nil l h, by simp⟩
  obtain ⟨r, hr, hm, hh⟩ := markByteS_ev out 1 (by omega) (by omega)
  obtain ⟨r2, hr2, hm2, _⟩ := markByteS_ev l 1 (by omega) (by omega)
  have he := eqByteS_ev out out (by omega)
  rw [decide_eq_true (rfl : out = out)] at he
  have he2 := eqByteS_ev l l (by omega)
  rw [decide_eq_true (rfl : l = l)] at he2
  refine Ev.bind ht (Ev.bind hs (Ev.bind ht (Ev.bind hi (Ev.bind he (ev_if_pos rfl (Ev.bind ht (Ev.bind he2 (ev_if_pos rfl (Ev.bind hm2 (ev_if_neg (by simp only; omega) (Ev.bind he ?_)))))))))))
  refine ev_step (f := fun k => (laws_markByteS.f k out 1).bind fun bt156 => ((laws_heldByteS.f k bt156.2 1).bind fun t158 => (if t158 < 0 then (some false) else (if t158 = bt156.1 then ((laws_toByteS.f k l).bind fun t159 => ((impl_RecordOf.f k t159).bind fun t162 => ((laws_eqByteS.f k t162 out).bind fun t165 => (if t165 = true then ((laws_heldByteS.f k bt156.2 1).bind fun t166 => (if t166 < 0 then (some false) else (if t166 = bt156.1 then (some true) else (some false)))) else (some false))))) else (some false))))) ?_ fun k => by simp only [laws_FnExactRecordOf.j0, Bool.not_true, Bool.false_eq_true, if_false]
  refine Ev.bind hm (Ev.bind hh (ev_if_neg (by omega) (ev_if_pos rfl (Ev.bind ht (Ev.bind hi (Ev.bind he (ev_if_pos rfl (Ev.bind hh (ev_if_neg (by omega) (ev_if_pos rfl (Ev.now _)))))))))))
end Go.Proofs.Ytpfjklmobjjgpaa.Pure
