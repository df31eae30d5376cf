/- SlotsNew of the program returns what the reference's SlotsNew returns: two slots of 7000 zero bytes each. No condition. -/
import Derived.Test.YtpfjklmobjjgpaaPFnExactSlotsNewx2
import Derived.Test.YtpfjklmobjjgpaaKit
namespace Go.Proofs.Ytpfjklmobjjgpaa.Pure
open Go.RowKit Go.Proofs.Ytpfjklmobjjgpaa.PFnExactSlotsNew Go.Proofs.YtpfjklmobjjgpaaW.PrintWords Go.Proofs.YtpfjklmobjjgpaaW.PrintLast Go.Proofs.Ytpfjklmobjjgpaa.Kit
/-! eqByteS, markByteS, heldByteS -/
theorem eqByteS_l (a b : List Int) (hl : a.length = b.length) (hn : a.length ≤ 4611686018427387904) (d : Nat) : ∀ i : Nat, i ≤ a.length → a.length - i = d →
    Ev (fun k => laws_eqByteS.l0 k a b (i : Int)) (decide (a.drop i = b.drop i)) := by
  induction d with
  | zero =>
    intro i hi hd
    refine ev_one fun k => ?_
    simp only [laws_eqByteS.l0]
    rw [if_neg (by omega), List.drop_of_length_le (by omega), List.drop_of_length_le (by omega)]
    simp
  | succ d ih =>
    intro i hi hd
    have ha : i < a.length := by omega
    have hb : i < b.length := by omega
    rw [drop_cons a i ha, drop_cons b i hb]
    by_cases e : rd a (i : Int) = rd b (i : Int)
    · refine ev_step (f := fun k => laws_eqByteS.l0 k a b ((i + 1 : Nat) : Int)) ?_ fun k => ?_
      · have := ih (i + 1) (by omega) (by omega)
        simpa [e] using this
      · simp only [laws_eqByteS.l0]
        rw [if_pos (by omega), if_pos (by omega), if_pos (by omega), if_pos e, w64 (by omega) (by omega)]
        rfl
    · refine ev_one fun k => ?_
      simp only [laws_eqByteS.l0]
      rw [if_pos (by omega), if_pos (by omega), if_pos (by omega), if_neg e]
      simp [e]
theorem eqByteS_ev (a b : List Int) (hn : a.length ≤ 4611686018427387904) : Ev (fun k => laws_eqByteS.f k a b) (decide (a = b)) := by
  unfold laws_eqByteS.f
  by_cases e : a.length = b.length
  · simp only [show ((a.length : Int) = (b.length : Int)) from by omega, if_true]
    exact eqByteS_l a b e hn a.length 0 (by omega) (by omega)
  · have e' : ¬ ((a.length : Int) = (b.length : Int)) := by omega
    have e2 : a ≠ b := fun h => e (by rw [h])
    simp only [if_neg e', e2, decide_false]
    exact Ev.now _
/-- What marking leaves of a list: a list that is held as marked. -/
theorem markByteS_ev (a : List Int) (m : Int) (hm : 0 ≤ m) (hn : a.length + m ≤ 4611686018427387904) :
    ∃ r : List Int, r.length = a.length ∧ Ev (fun k => laws_markByteS.f k a m) (m + a.length, r) ∧ Ev (fun k => laws_heldByteS.f k r m) (m + a.length) := by
  have h1 : ∀ d i : Nat, ∀ xs : List Int, xs.length = a.length → i ≤ a.length → a.length - i = d →
      ∃ r : List Int, r.length = a.length ∧ (∀ j, j < i → rd r (j : Int) = rd xs (j : Int)) ∧ (∀ j, i ≤ j → j < a.length → rd r (j : Int) = (m + j) % 256) ∧ Ev (fun k => laws_markByteS.l0 k xs (m + i) (i : Int)) (m + a.length, r) := by
    intro d
    induction d with
    | zero =>
      intro i xs hx hi hd
      obtain rfl : i = a.length := by omega
      refine ⟨xs, hx, fun _ _ => rfl, fun j hj hj' => by omega, ev_one fun k => ?_⟩
      simp only [laws_markByteS.l0]
      rw [if_neg (by omega)]
    | succ d ih =>
      intro i xs hx hi hd
      obtain ⟨r, hr, hlo, hhi, hev⟩ := ih (i + 1) (xs.set i ((m + i) % 256)) (by simpa using hx) (by omega) (by omega)
      refine ⟨r, hr, fun j hj => ?_, fun j hj hj' => ?_, ev_step hev fun k => ?_⟩
      · rw [hlo j (by omega)]
        unfold rd
        simp [List.getD_eq_getElem?_getD, show i ≠ j from by omega]
      · rcases Nat.lt_or_ge i j with h | h
        · exact hhi j (by omega) hj'
        · obtain rfl : j = i := by omega
          rw [hlo j (by omega)]
          unfold rd
          simp [List.getD_eq_getElem?_getD, hx, hj']
      · simp only [laws_markByteS.l0]
        rw [if_pos (by omega), if_pos (by omega), w64 (by omega) (by omega), w64 (by omega) (by omega), show m + (i : Int) + 1 = m + ((i + 1 : Nat) : Int) from by omega, show (i : Int) + 1 = ((i + 1 : Nat) : Int) from by omega]
        simp
  obtain ⟨r, hr, _, hhi, hev⟩ := h1 a.length 0 a rfl (by omega) (by omega)
  refine ⟨r, hr, ?_, ?_⟩
  · simpa [laws_markByteS.f] using hev
  · have h2 : ∀ d i : Nat, i ≤ a.length → a.length - i = d → Ev (fun k => laws_heldByteS.l0 k r (m + i) (i : Int)) (m + a.length) := by
      intro d
      induction d with
      | zero =>
        intro i hi hd
        obtain rfl : i = a.length := by omega
        refine ev_one fun k => ?_
        simp only [laws_heldByteS.l0]
        rw [if_neg (by omega)]
      | succ d ih =>
        intro i hi hd
        refine ev_step (ih (i + 1) (by omega) (by omega)) fun k => ?_
        simp only [laws_heldByteS.l0]
        rw [if_pos (by omega), if_pos (by omega), if_pos (hhi i (by omega) (by omega)), w64 (by omega) (by omega), w64 (by omega) (by omega), show m + (i : Int) + 1 = m + ((i + 1 : Nat) : Int) from by omega, show (i : Int) + 1 = ((i + 1 : Nat) : Int) from by omega]
    simpa [laws_heldByteS.f] using h2 a.length 0 (by omega) (by omega)
theorem FnExactSlotsNew : laws_FnExactSlotsNew.Pure := by
  refine Ev.rounds (g := fun k => laws_FnExactSlotsNew.f k) ?_
  unfold laws_FnExactSlotsNew.f spec_SlotsNew.f impl_SlotsNew.f
  simp only [show (7000 : Nat) ≤ 281474976710656 from by decide, if_true, Option.bind_some]
  generalize hz : (List.replicate 7000 0 : List Int) = z
  have hl : z.length = 7000 := by rw [← hz]; exact List.length_replicate
  clear hz
  have he := eqByteS_ev z z (by omega)
  rw [decide_eq_true (rfl : z = z)] at he
  obtain ⟨r, hr, hm, hh⟩ := markByteS_ev z 1 (by omega) (by omega)
  obtain ⟨r2, hr2, hm2, hh2⟩ := markByteS_ev z (1 + z.length) (by omega) (by omega)
  have hE : Ev (fun k => laws_eqSlots.f k z z z z) true := by
    unfold laws_eqSlots.f
    exact Ev.bind he (ev_if_pos rfl (Ev.bind he (ev_if_pos rfl (Ev.now _))))
  have hM : Ev (fun k => laws_markSlots.f k z z 1) (1 + (z.length : Int) + z.length, r, r2) := by
    unfold laws_markSlots.f
    exact Ev.bind hm (Ev.bind hm2 (Ev.now _))
  have hH : Ev (fun k => laws_heldSlots.f k r r2 1) (1 + (z.length : Int) + z.length) := by
    unfold laws_heldSlots.f
    exact Ev.bind hh (ev_if_neg (by omega) (Ev.bind hh2 (ev_if_neg (by omega) (Ev.now _))))
  refine Ev.bind hE (ev_if_pos rfl (Ev.bind hM (Ev.bind hH (ev_if_neg (by omega) (ev_if_pos rfl (Ev.bind hE (ev_if_pos rfl (Ev.bind hH (ev_if_neg (by omega) (ev_if_pos rfl (Ev.now _)))))))))))
end Go.Proofs.Ytpfjklmobjjgpaa.Pure
