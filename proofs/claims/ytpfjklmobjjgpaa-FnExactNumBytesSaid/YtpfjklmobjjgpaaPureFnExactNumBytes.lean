/- NumBytes of the program returns what the reference's NumBytes returns: the bytes of the number without a sign, seven bits each. For every int. -/
import Derived.Test.YtpfjklmobjjgpaaPFnExactNumBytesx1
import Derived.Test.YtpfjklmobjjgpaaKit
namespace Go.Proofs.Ytpfjklmobjjgpaa.Pure
open Go.RowKit Go.Proofs.Ytpfjklmobjjgpaa.PFnExactNumBytes Go.Proofs.YtpfjklmobjjgpaaW.PrintWords Go.Proofs.YtpfjklmobjjgpaaW.PrintLast Go.Proofs.Ytpfjklmobjjgpaa.Kit
/-- The bytes of a number, seven bits each. -/
def venc : Nat → Nat → List Int
  | 0, _ => []
  | d + 1, u => if u < 128 then [(u : Int)] else ((128 + u % 128 : Nat) : Int) :: venc d (u / 128)
theorem venc_length (d : Nat) : ∀ u, (venc d u).length ≤ d := by
  induction d with
  | zero => intro u; simp [venc]
  | succ d ih =>
    intro u
    unfold venc
    split
    · simp
    · have := ih (u / 128)
      simp only [List.length_cons]
      omega
theorem venc_pos (d : Nat) (u : Nat) : 1 ≤ (venc (d + 1) u).length := by
  unfold venc
  split <;> simp
/-- The number without a sign. -/
def zig (n : Int) : Nat := if n < 0 then (2 * (-1 - n) + 1).toNat else (2 * n).toNat
theorem zig_lt (n : Int) (h0 : -9223372036854775808 ≤ n) (h1 : n < 9223372036854775808) : zig n < 18446744073709551616 := by
  unfold zig; split <;> omega
/-! eqByteS, markByteS, heldByteS -/
theorem eqByteS_l (a b : List Int) (hl : a.length = b.length) (hn : a.length ≤ 4611686018427387904) (d : Nat) : ∀ i : Nat, i ≤ a.length → a.length - i = d →
    Ev (fun k => laws_eqByteS.l0 k a b (i : Int)) (decide (a.drop i = b.drop i)) := by
  induction d with
  | zero =>
    intro i hi hd
    refine ev_one fun k => ?_
    simp only [laws_eqByteS.l0]
    rw [if_neg (by omega), List.drop_of_length_le (by omega), List.drop_of_length_le (by omega)]
    simp
  | succ d ih =>
    intro i hi hd
    have ha : i < a.length := by omega
    have hb : i < b.length := by omega
    rw [drop_cons a i ha, drop_cons b i hb]
    by_cases e : rd a (i : Int) = rd b (i : Int)
    · refine ev_step (f := fun k => laws_eqByteS.l0 k a b ((i + 1 : Nat) : Int)) ?_ fun k => ?_
      · have := ih (i + 1) (by omega) (by omega)
        simpa [e] using this
      · simp only [laws_eqByteS.l0]
        rw [if_pos (by omega), if_pos (by omega), if_pos (by omega), if_pos e, w64 (by omega) (by omega)]
        rfl
    · refine ev_one fun k => ?_
      simp only [laws_eqByteS.l0]
      rw [if_pos (by omega), if_pos (by omega), if_pos (by omega), if_neg e]
      simp [e]
theorem eqByteS_ev (a b : List Int) (hn : a.length ≤ 4611686018427387904) : Ev (fun k => laws_eqByteS.f k a b) (decide (a = b)) := by
  unfold laws_eqByteS.f
  by_cases e : a.length = b.length
  · simp only [show ((a.length : Int) = (b.length : Int)) from by omega, if_true]
    exact eqByteS_l a b e hn a.length 0 (by omega) (by omega)
  · have e' : ¬ ((a.length : Int) = (b.length : Int)) := by omega
    have e2 : a ≠ b := fun h => e (by rw [h])
    simp only [if_neg e', e2, decide_false]
    exact Ev.now _
/-- What marking leaves of a list: a list that is held as marked. -/
theorem markByteS_ev (a : List Int) (m : Int) (hm : 0 ≤ m) (hn : a.length + m ≤ 4611686018427387904) :
    ∃ r : List Int, r.length = a.length ∧ Ev (fun k => laws_markByteS.f k a m) (m + a.length, r) ∧ Ev (fun k => laws_heldByteS.f k r m) (m + a.length) := by
  have h1 : ∀ d i : Nat, ∀ xs : List Int, xs.length = a.length → i ≤ a.length → a.length - i = d →
      ∃ r : List Int, r.length = a.length ∧ (∀ j, j < i → rd r (j : Int) = rd xs (j : Int)) ∧ (∀ j, i ≤ j → j < a.length → rd r (j : Int) = (m + j) % 256) ∧ Ev (fun k => laws_markByteS.l0 k xs (m + i) (i : Int)) (m + a.length, r) := by
    intro d
    induction d with
    | zero =>
      intro i xs hx hi hd
      obtain rfl : i = a.length := by omega
      refine ⟨xs, hx, fun _ _ => rfl, fun j hj hj' => by omega, ev_one fun k => ?_⟩
      simp only [laws_markByteS.l0]
      rw [if_neg (by omega)]
    | succ d ih =>
      intro i xs hx hi hd
      obtain ⟨r, hr, hlo, hhi, hev⟩ := ih (i + 1) (xs.set i ((m + i) % 256)) (by simpa using hx) (by omega) (by omega)
      refine ⟨r, hr, fun j hj => ?_, fun j hj hj' => ?_, ev_step hev fun k => ?_⟩
      · rw [hlo j (by omega)]
        unfold rd
        simp [List.getD_eq_getElem?_getD, show i ≠ j from by omega]
      · rcases Nat.lt_or_ge i j with h | h
        · exact hhi j (by omega) hj'
        · obtain rfl : j = i := by omega
          rw [hlo j (by omega)]
          unfold rd
          simp [List.getD_eq_getElem?_getD, hx, hj']
      · simp only [laws_markByteS.l0]
        rw [if_pos (by omega), if_pos (by omega), w64 (by omega) (by omega), w64 (by omega) (by omega), show m + (i : Int) + 1 = m + ((i + 1 : Nat) : Int) from by omega, show (i : Int) + 1 = ((i + 1 : Nat) : Int) from by omega]
        simp
  obtain ⟨r, hr, _, hhi, hev⟩ := h1 a.length 0 a rfl (by omega) (by omega)
  refine ⟨r, hr, ?_, ?_⟩
  · simpa [laws_markByteS.f] using hev
  · have h2 : ∀ d i : Nat, i ≤ a.length → a.length - i = d → Ev (fun k => laws_heldByteS.l0 k r (m + i) (i : Int)) (m + a.length) := by
      intro d
      induction d with
      | zero =>
        intro i hi hd
        obtain rfl : i = a.length := by omega
        refine ev_one fun k => ?_
        simp only [laws_heldByteS.l0]
        rw [if_neg (by omega)]
      | succ d ih =>
        intro i hi hd
        refine ev_step (ih (i + 1) (by omega) (by omega)) fun k => ?_
        simp only [laws_heldByteS.l0]
        rw [if_pos (by omega), if_pos (by omega), if_pos (hhi i (by omega) (by omega)), w64 (by omega) (by omega), w64 (by omega) (by omega), show m + (i : Int) + 1 = m + ((i + 1 : Nat) : Int) from by omega, show (i : Int) + 1 = ((i + 1 : Nat) : Int) from by omega]
    simpa [laws_heldByteS.f] using h2 a.length 0 (by omega) (by omega)
/-! NumBytes -/
theorem spec_NumBytes_l (d : Nat) : ∀ (u : Nat) (acc : List Int), u < 18446744073709551616 → u < 128 ^ (d + 1) → acc.length + d + 1 ≤ 1000000 →
    Ev (fun k => spec_NumBytes.l0 k (u : Int) acc) (acc ++ venc (d + 1) u) := by
  induction d with
  | zero =>
    intro u acc h64 hu ha
    have hu' : u < 128 := by simpa using hu
    refine ev_one fun k => ?_
    simp only [spec_NumBytes.l0]
    rw [if_neg (by omega), if_pos (by omega)]
    simp only [venc, if_pos hu']
    rw [show (u : Int) % 256 = u from by omega]
  | succ d ih =>
    intro u acc h64 hu ha
    by_cases h : u < 128
    · refine ev_one fun k => ?_
      simp only [spec_NumBytes.l0]
      rw [if_neg (by omega), if_pos (by omega)]
      rw [venc, if_pos h, show (u : Int) % 256 = u from by omega]
    · have hq : u / 128 < 128 ^ (d + 1) := by
        rw [Nat.div_lt_iff_lt_mul (by decide)]
        rw [Nat.pow_succ] at hu
        exact hu
      have := ih (u / 128) (acc ++ [((128 + u % 128 : Nat) : Int)]) (by omega) hq (by simp; omega)
      rw [venc, if_neg h]
      refine ev_step (f := fun k => spec_NumBytes.l0 k ((u / 128 : Nat) : Int) (acc ++ [((128 + u % 128 : Nat) : Int)])) (by simpa using this) fun k => ?_
      simp only [spec_NumBytes.l0]
      rw [if_pos (by omega), if_pos (by omega), tdiv_nat _ _ (by omega), tmod_nat _ _ (by omega)]
      have e1 : IntKind.u64.wrap ((u : Int) / 128) = ((u / 128 : Nat) : Int) := by rw [u64w (by omega) (by omega)]; omega
      have e2 : IntKind.u64.wrap (128 + (u : Int) % 128) % 256 = ((128 + u % 128 : Nat) : Int) := by rw [u64w (by omega) (by omega)]; omega
      rw [e1, e2]
theorem spec_NumBytes_ev (n : Int) (h0 : -9223372036854775808 ≤ n) (h1 : n < 9223372036854775808) : Ev (fun k => spec_NumBytes.f k n) (venc 10 (zig n)) := by
  have hz := zig_lt n h0 h1
  have key : Ev (fun k => spec_NumBytes.j0 k (zig n : Int)) (venc 10 (zig n)) := by
    refine ev_step (f := fun k => spec_NumBytes.l0 k (zig n : Int) []) ?_ fun k => by simp only [spec_NumBytes.j0]
    have := spec_NumBytes_l 9 (zig n) [] hz (by omega) (by simp)
    simpa using this
  by_cases h : n < 0
  · have e : (zig n : Int) = IntKind.u64.wrap ((IntKind.u64.wrap (2 * (IntKind.u64.wrap (wrap64 ((-1) - n))))) + 1) := by
      rw [w64 (by omega) (by omega)]
      simp only [u64_mod]
      unfold zig
      rw [if_pos h]
      omega
    rw [e] at key
    simp only [spec_NumBytes.f, if_pos h]
    exact key
  · have e : (zig n : Int) = IntKind.u64.wrap (2 * (IntKind.u64.wrap n)) := by
      simp only [u64_mod]
      unfold zig
      rw [if_neg h]
      omega
    rw [e] at key
    simp only [spec_NumBytes.f, if_neg h]
    exact key
theorem impl_NumBytes_l (d : Nat) : ∀ (u : Nat) (acc : List Int), u < 18446744073709551616 → u < 128 ^ (d + 1) → acc.length + d + 1 ≤ 1000000 →
    Ev (fun k => impl_NumBytes.l0 k acc (u : Int)) (acc ++ venc (d + 1) u) := by
  induction d with
  | zero =>
    intro u acc h64 hu ha
    have hu' : u < 128 := by simpa using hu
    refine ev_one fun k => ?_
    simp only [impl_NumBytes.l0]
    rw [if_neg (by omega), if_pos (by omega)]
    simp only [venc, if_pos hu']
    rw [show (u : Int) % 256 = u from by omega]
  | succ d ih =>
    intro u acc h64 hu ha
    by_cases h : u < 128
    · refine ev_one fun k => ?_
      simp only [impl_NumBytes.l0]
      rw [if_neg (by omega), if_pos (by omega)]
      rw [venc, if_pos h, show (u : Int) % 256 = u from by omega]
    · have hq : u / 128 < 128 ^ (d + 1) := by
        rw [Nat.div_lt_iff_lt_mul (by decide)]
        rw [Nat.pow_succ] at hu
        exact hu
      have := ih (u / 128) (acc ++ [((128 + u % 128 : Nat) : Int)]) (by omega) hq (by simp; omega)
      rw [venc, if_neg h]
      refine ev_step (f := fun k => impl_NumBytes.l0 k (acc ++ [((128 + u % 128 : Nat) : Int)]) ((u / 128 : Nat) : Int)) (by simpa using this) fun k => ?_
      simp only [impl_NumBytes.l0]
      rw [if_pos (by omega), if_pos (by omega), bits_or_128 _ (by omega) (by omega)]
      have e1 : (u : Int) / 128 = ((u / 128 : Nat) : Int) := by omega
      have e2 : 128 + (u : Int) % 256 % 128 = ((128 + u % 128 : Nat) : Int) := by omega
      rw [e1, e2]
theorem impl_zigzag_eq (n : Int) (h0 : -9223372036854775808 ≤ n) (h1 : n < 9223372036854775808) : impl_zigzag.f n = some (zig n : Int) := by
  unfold impl_zigzag.f
  congr 1
  by_cases h : n < 0
  · have e : IntKind.u64.wrap (n / 9223372036854775808) = 18446744073709551615 := by rw [u64_mod]; omega
    rw [e, bits_xor_ones _ (by rw [u64_mod]; omega) (by rw [u64_mod]; omega)]
    simp only [u64_mod]
    unfold zig
    rw [if_pos h]
    omega
  · have e : IntKind.u64.wrap (n / 9223372036854775808) = 0 := by rw [u64_mod]; omega
    rw [e, bits_xor_zero _ (by rw [u64_mod]; omega) (by rw [u64_mod]; omega)]
    simp only [u64_mod]
    unfold zig
    rw [if_neg h]
    omega
theorem impl_NumBytes_ev (n : Int) (h0 : -9223372036854775808 ≤ n) (h1 : n < 9223372036854775808) : Ev (fun k => impl_NumBytes.f k n) (venc 10 (zig n)) := by
  have hz := zig_lt n h0 h1
  unfold impl_NumBytes.f
  rw [impl_zigzag_eq n h0 h1]
  simp only [Option.bind_some]
  have := impl_NumBytes_l 9 (zig n) [] hz (by omega) (by simp)
  simpa using this
theorem FnExactNumBytes : laws_FnExactNumBytes.Pure := by
  intro n hw
  obtain ⟨h0, h1⟩ := i64_wf hw
  have hl := venc_length 10 (zig n)
  obtain ⟨r, hr, hm, hh⟩ := markByteS_ev (venc 10 (zig n)) 1 (by omega) (by omega)
  have he := eqByteS_ev (venc 10 (zig n)) (venc 10 (zig n)) (by omega)
  rw [decide_eq_true (rfl : venc 10 (zig n) = venc 10 (zig n))] at he
  refine Ev.rounds (g := fun k => laws_FnExactNumBytes.f k n) ?_
  unfold laws_FnExactNumBytes.f
  refine Ev.bind (spec_NumBytes_ev n h0 h1) ?_
  refine Ev.bind (impl_NumBytes_ev n h0 h1) ?_
  refine Ev.bind he (ev_if_pos rfl ?_)
  refine Ev.bind hm ?_
  refine Ev.bind hh (ev_if_neg (by omega) (ev_if_pos rfl ?_))
  refine Ev.bind (impl_NumBytes_ev n h0 h1) ?_
  refine Ev.bind he (ev_if_pos rfl ?_)
  exact Ev.bind hh (ev_if_neg (by omega) (ev_if_pos rfl (Ev.now _)))
end Go.Proofs.Ytpfjklmobjjgpaa.Pure
