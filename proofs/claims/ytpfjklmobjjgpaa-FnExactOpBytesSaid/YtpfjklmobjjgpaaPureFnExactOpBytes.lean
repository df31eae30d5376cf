/- OpBytes of the program returns what the reference's returns. For every argument. -/
import Derived.Test.YtpfjklmobjjgpaaStmtFnExactOpBytes
import Derived.Laws.BitsLemmas
import Derived.Laws.BitsAllLaws
import Derived.Laws.Bits64b
namespace Go.Proofs.Ytpfjklmobjjgpaa.Pure
open Go Go.RowKit Go.Proofs.Ytpfjklmobjjgpaa.Run Go.Proofs.Ytpfjklmobjjgpaa.StmtFnExactOpBytes Go.Proofs.YtpfjklmobjjgpaaW.PrintWords Go.Proofs.Ytpfjklmobjjgpaa.Vm
set_option linter.unusedVariables false
set_option linter.unusedSimpArgs false
/-! General words -/
theorem cdp {α : Type} {p : Prop} [Decidable p] {a b : α} (h : p) : (bif decide p then a else b) = a := by simp [h]
theorem cdn {α : Type} {p : Prop} [Decidable p] {a b : α} (h : ¬ p) : (bif decide p then a else b) = b := by simp [h]
theorem cnp {α : Type} {x y : Int} {a b : α} (h : x ≠ y) : (bif (x != y) then a else b) = a := by rw [show (x != y) = true from by simpa using h]; rfl
theorem cnn {α : Type} {x y : Int} {a b : α} (h : x = y) : (bif (x != y) then a else b) = b := by simp [bne, h]
theorem cep {α : Type} {x y : Int} {a b : α} (h : x = y) : (bif (x == y) then a else b) = a := by simp [h]
theorem cen {α : Type} {x y : Int} {a b : α} (h : x ≠ y) : (bif (x == y) then a else b) = b := by rw [show (x == y) = false from by simpa using h]; rfl
theorem cond_some {α : Type} (c : Bool) (x y : α) : (bif c then some x else some y) = some (bif c then x else y) := by cases c <;> rfl
theorem cond_and (c x : Bool) : (bif c then x else false) = (c && x) := by cases c <;> rfl
theorem dand (p q : Prop) [Decidable p] [Decidable q] : (decide p && decide q) = decide (p ∧ q) := by by_cases p <;> by_cases q <;> simp_all
theorem w64 {n : Int} (h0 : -9223372036854775808 ≤ n) (h1 : n < 9223372036854775808) : IntKind.i64.wrap n = n := by rw [IntKind.wrap_i64]; omega
theorem u64_mod (n : Int) : IntKind.u64.wrap n = n % 18446744073709551616 := by simp [IntKind.wrap, IntKind.bits, IntKind.signed]
theorem u64w {n : Int} (h0 : 0 ≤ n) (h1 : n < 18446744073709551616) : IntKind.u64.wrap n = n := by rw [u64_mod]; omega
theorem u8_mod (n : Int) : IntKind.u8.wrap n = n % 256 := by simp [IntKind.wrap, IntKind.bits, IntKind.signed]
theorem i64_wf {n : Int} (h : (Lit.int .i64 n).wf = true) : -9223372036854775808 ≤ n ∧ n < 9223372036854775808 := by
  simp only [Lit.wf, IntKind.min, IntKind.max, IntKind.signed, IntKind.bits, Bool.and_eq_true, decide_eq_true_eq, if_true] at h
  omega
theorem u8_wf {n : Int} (h : (Lit.int .u8 n).wf = true) : 0 ≤ n ∧ n < 256 := by
  simp [Lit.wf, IntKind.min, IntKind.max, IntKind.signed, IntKind.bits, Bool.and_eq_true] at h
  omega
theorem tmod_nat (n : Int) (m : Int) (h : 0 ≤ n) : Int.tmod n m = n % m := Int.tmod_eq_emod_of_nonneg h
theorem tdiv_nat (n : Int) (m : Int) (h : 0 ≤ n) : Int.tdiv n m = n / m := Int.tdiv_eq_ediv_of_nonneg h
theorem bits_or_128 (x : Int) (h0 : 0 ≤ x) (h1 : x < 256) : Go.bits .or .u8 x 128 = 128 + x % 128 := by
  obtain ⟨n, rfl⟩ := Int.eq_ofNat_of_zero_le h0
  have hn : n < 256 := by omega
  have key : ∀ m : Fin 256, Go.bits .or .u8 ((m.val : Nat) : Int) 128 = 128 + ((m.val : Nat) : Int) % 128 := by decide +kernel
  exact key ⟨n, hn⟩
theorem bits_xor_zero (x : Int) (h0 : 0 ≤ x) (h1 : x < 18446744073709551616) : Go.bits .xor .u64 x 0 = x := by
  obtain ⟨n, rfl⟩ := Int.eq_ofNat_of_zero_le h0
  have hn : n < 18446744073709551616 := by omega
  show IntKind.u64.wrap (((BitVec.ofInt 64 ((n : Nat) : Int)) ^^^ (BitVec.ofInt 64 0)).toNat : Int) = n
  have e : (BitVec.ofInt 64 0) = 0#64 := by decide
  rw [e, BitVec.xor_zero, BitVec.ofInt_natCast, BitVec.toNat_ofNat, u64_mod]
  omega
theorem bits_xor_ones (x : Int) (h0 : 0 ≤ x) (h1 : x < 18446744073709551616) : Go.bits .xor .u64 x 18446744073709551615 = 18446744073709551615 - x := by
  obtain ⟨n, rfl⟩ := Int.eq_ofNat_of_zero_le h0
  have hn : n < 18446744073709551616 := by omega
  show IntKind.u64.wrap (((BitVec.ofInt 64 ((n : Nat) : Int)) ^^^ (BitVec.ofInt 64 18446744073709551615)).toNat : Int) = 18446744073709551615 - n
  have e : (BitVec.ofInt 64 18446744073709551615) = BitVec.allOnes 64 := by decide
  rw [e, BitVec.xor_allOnes, BitVec.toNat_not, BitVec.ofInt_natCast, BitVec.toNat_ofNat, u64_mod]
  omega
theorem fu_ge (d : Nat) (h : d ≤ 1000000000000) : ∃ m, fu = d + 1 + m := ⟨fu - d - 1, by rw [fu_eq]; omega⟩
theorem nthI_nat {α : Type} (xs : List α) (i : Nat) (d : α) : nthI xs (i : Int) d = xs.getD i d := rfl
theorem drop_nth (xs : List Int) (i : Nat) (h : i < xs.length) : xs.drop i = nthI xs (i : Int) 0 :: xs.drop (i + 1) := by
  rw [nthI_nat, List.getD_eq_getElem?_getD, List.getElem?_eq_getElem h]; exact List.drop_eq_getElem_cons h
/-! eqByteS -/
theorem eqByteS_l (e0 : Bool → Option Bool) (e1 : Option Bool) (he : e0 false = some false) (he1 : e1 = some true) (a b : List Int) (hl : a.length = b.length) (hn : a.length ≤ 4611686018427387904) (d : Nat) : ∀ i m : Nat, i ≤ a.length → a.length - i = d →
    L.eqByteS_l0 (d + 1 + m) e0 e1 (i : Int) a b = some (decide (a.drop i = b.drop i)) := by
  induction d with
  | zero =>
    intro i m hi hd
    rw [show 0 + 1 + m = m + 1 from by omega, L.eqByteS_l0, cdn (by omega), List.drop_of_length_le (by omega), List.drop_of_length_le (by omega), he1]
    simp
  | succ d ih =>
    intro i m hi hd
    rw [show d + 1 + 1 + m = (d + 1 + m) + 1 from by omega, L.eqByteS_l0, cdp (by omega), cdp (by omega), cdp (by omega), drop_nth a i (by omega), drop_nth b i (by omega)]
    by_cases e : nthI a (i : Int) 0 = nthI b (i : Int) 0
    · rw [cnn e, w64 (by omega) (by omega), show (i : Int) + 1 = ((i + 1 : Nat) : Int) from by omega, ih (i + 1) m (by omega) (by omega), e]
      generalize nthI b (i : Int) 0 = x
      simp
    · rw [cnp e, he]
      generalize nthI b (i : Int) 0 = x at *
      generalize nthI a (i : Int) 0 = y at *
      simp [e]
theorem eqByteS_eq (a b : List Int) (hn : a.length ≤ 1000000000000) : L.eqByteS a b = some (decide (a = b)) := by
  unfold L.eqByteS
  by_cases e : a.length = b.length
  · obtain ⟨m, hm⟩ := fu_ge a.length hn
    have := eqByteS_l (fun y12 => some y12) (some true) rfl rfl a b e (by omega) a.length 0 m (by omega) (by omega)
    rw [hm]
    simpa [e] using this
  · have e2 : a ≠ b := fun h => e (by rw [h])
    have e3 : ¬ ((a.length : Int) = (b.length : Int)) := by omega
    rw [cnp e3]
    simp [e2]
/-! markByteS, heldByteS: what marking leaves of a list is a list that is held as marked -/
theorem markByteS_eq (a : List Int) (m : Int) (hm : 0 ≤ m) (hm2 : m ≤ 1000000000000) (hn : a.length ≤ 1000000000000) :
    ∃ r : List Int, r.length = a.length ∧ L.markByteS m a = some (m + a.length, r) ∧ L.heldByteS m r = some (m + a.length) := by
  obtain ⟨M, hM⟩ := fu_ge a.length hn
  have h1 : ∀ d i : Nat, ∀ xs : List Int, xs.length = a.length → i ≤ a.length → a.length - i = d →
      ∃ r : List Int, r.length = a.length ∧ (∀ j : Nat, j < i → nthI r (j : Int) 0 = nthI xs (j : Int) 0) ∧ (∀ j : Nat, i ≤ j → j < a.length → nthI r (j : Int) 0 = (m + j) % 256) ∧ L.markByteS_l0 (d + 1 + M) (fun y12 y13 => some (y12, y13)) (m + i) (i : Int) xs = some (m + a.length, r) := by
    intro d
    induction d with
    | zero =>
      intro i xs hx hi hd
      obtain rfl : i = a.length := by omega
      refine ⟨xs, hx, fun _ _ => rfl, fun j hj hj' => by omega, ?_⟩
      rw [show 0 + 1 + M = M + 1 from by omega, L.markByteS_l0, cdn (by omega)]
    | succ d ih =>
      intro i xs hx hi hd
      obtain ⟨r, hr, hlo, hhi, hev⟩ := ih (i + 1) (xs.set i ((m + i) % 256)) (by simpa using hx) (by omega) (by omega)
      refine ⟨r, hr, fun j hj => ?_, fun j hj hj' => ?_, ?_⟩
      · rw [hlo j (by omega), nthI_nat, nthI_nat]
        simp [List.getD_eq_getElem?_getD, show i ≠ j from by omega]
      · rcases Nat.lt_or_ge i j with h | h
        · exact hhi j (by omega) hj'
        · obtain rfl : j = i := by omega
          rw [hlo j (by omega), nthI_nat]
          simp [List.getD_eq_getElem?_getD, hx, hj']
      · rw [show d + 1 + 1 + M = (d + 1 + M) + 1 from by omega, L.markByteS_l0, cdp (by omega), cdp (by omega), w64 (by omega) (by omega), w64 (by omega) (by omega), u8_mod, show m + (i : Int) + 1 = m + ((i + 1 : Nat) : Int) from by omega, show (i : Int) + 1 = ((i + 1 : Nat) : Int) from by omega]
        exact hev
  obtain ⟨r, hr, _, hhi, hev⟩ := h1 a.length 0 a rfl (by omega) (by omega)
  refine ⟨r, hr, ?_, ?_⟩
  · unfold L.markByteS
    rw [hM]
    simpa using hev
  · have h2 : ∀ d i : Nat, i ≤ a.length → a.length - i = d → L.heldByteS_l0 (d + 1 + M) (fun y12 y13 => some y13) (fun y14 => some y14) (m + i) (i : Int) r = some (m + a.length) := by
      intro d
      induction d with
      | zero =>
        intro i hi hd
        obtain rfl : i = a.length := by omega
        rw [show 0 + 1 + M = M + 1 from by omega, L.heldByteS_l0, cdn (by omega)]
      | succ d ih =>
        intro i hi hd
        rw [show d + 1 + 1 + M = (d + 1 + M) + 1 from by omega, L.heldByteS_l0, cdp (by omega), cdp (by omega), hhi i (by omega) (by omega), u8_mod, w64 (by omega) (by omega), w64 (by omega) (by omega), show m + (i : Int) + 1 = m + ((i + 1 : Nat) : Int) from by omega, show (i : Int) + 1 = ((i + 1 : Nat) : Int) from by omega]
        simpa using ih (i + 1) (by omega) (by omega)
    unfold L.heldByteS
    rw [hM]
    simpa using h2 a.length 0 (by omega) (by omega)
/-! NumBytes -/
/-- The bytes of a number, seven bits each. -/
def venc : Nat → Nat → List Int
  | 0, _ => []
  | d + 1, u => if u < 128 then [(u : Int)] else ((128 + u % 128 : Nat) : Int) :: venc d (u / 128)
theorem venc_small {d u : Nat} (h : u < 128) : venc (d + 1) u = [(u : Int)] := by rw [venc, if_pos h]
theorem venc_big {d u : Nat} (h : ¬ u < 128) : venc (d + 1) u = ((128 + u % 128 : Nat) : Int) :: venc d (u / 128) := by rw [venc, if_neg h]
theorem venc_length (d : Nat) : ∀ u, (venc d u).length ≤ d := by
  induction d with
  | zero => intro u; simp [venc]
  | succ d ih =>
    intro u
    unfold venc
    split
    · simp
    · have := ih (u / 128)
      simp only [List.length_cons]
      omega
/-- The number without a sign. -/
def zig (n : Int) : Nat := if n < 0 then (2 * (-1 - n) + 1).toNat else (2 * n).toNat
theorem zig_lt (n : Int) (h0 : -9223372036854775808 ≤ n) (h1 : n < 9223372036854775808) : zig n < 18446744073709551616 := by
  unfold zig; split <;> omega
theorem sNumBytes_l (e : Int → List Int → Option (List Int)) (d : Nat) : ∀ (u m : Nat) (acc : List Int), (∀ (x : Nat) acc', x < 128 → acc'.length ≤ 1000000 → e (x : Int) acc' = some (acc' ++ [(x : Int)])) → u < 18446744073709551616 → u < 128 ^ (d + 1) → acc.length + d + 1 ≤ 1000000 →
    S.NumBytes_l0 (d + 1 + m) e (u : Int) acc = some (acc ++ venc (d + 1) u) := by
  induction d with
  | zero =>
    intro u m acc he h64 hu ha
    have hu' : u < 128 := by simpa using hu
    rw [show 0 + 1 + m = m + 1 from by omega, S.NumBytes_l0, cdn (by omega), he u acc hu' (by omega)]
    simp only [venc, if_pos hu']
  | succ d ih =>
    intro u m acc he h64 hu ha
    by_cases h : u < 128
    · rw [show d + 1 + 1 + m = (d + 1 + m) + 1 from by omega, S.NumBytes_l0, cdn (by omega), he u acc h (by omega), venc_small h]
    · have hq : u / 128 < 128 ^ (d + 1) := by
        rw [Nat.div_lt_iff_lt_mul (by decide)]
        rw [Nat.pow_succ] at hu
        exact hu
      have := ih (u / 128) m (acc ++ [((128 + u % 128 : Nat) : Int)]) he (by omega) hq (by simp; omega)
      have e1 : IntKind.u64.wrap ((u : Int).tdiv 128) = ((u / 128 : Nat) : Int) := by rw [tdiv_nat _ _ (by omega), u64w (by omega) (by omega)]; omega
      have e2 : IntKind.u8.wrap (IntKind.u64.wrap (128 + (u : Int).tmod 128)) = ((128 + u % 128 : Nat) : Int) := by rw [tmod_nat _ _ (by omega), u64w (by omega) (by omega), u8_mod]; omega
      rw [show d + 1 + 1 + m = (d + 1 + m) + 1 from by omega, S.NumBytes_l0, cdp (by omega), cdn (by omega)]
      simp only [e1, e2]
      rw [cdp (by simp; omega), cdn (by omega), this, venc_big h]
      simp
theorem zig_key (f : Int → List Int → Option (List Int)) (hf : ∀ y z, f y z = (let v18 : Int := (IntKind.wrap .u8 y)
(bif decide ((z.length + [v18].length) * 1 ≤ 140737488355328) then
(some (z ++ [v18]))
else
none))) : ∀ (x : Nat) (acc' : List Int), x < 128 → acc'.length ≤ 1000000 → f (x : Int) acc' = some (acc' ++ [(x : Int)]) := by
  intro x acc hx ha
  rw [hf]
  have e : IntKind.u8.wrap (x : Int) = x := by rw [u8_mod]; omega
  simp only [e]
  rw [cdp (by simp; omega)]
theorem sNumBytes_eq (n : Int) (h0 : -9223372036854775808 ≤ n) (h1 : n < 9223372036854775808) : S.NumBytes n = some (venc 10 (zig n)) := by
  have hz := zig_lt n h0 h1
  obtain ⟨m, hm⟩ := fu_ge 9 (by omega)
  have key := sNumBytes_l _ 9 (zig n) m [] (zig_key _ fun _ _ => rfl) hz (by omega) (by simp)
  simp only [List.nil_append] at key
  unfold S.NumBytes
  rw [hm]
  by_cases h : n < 0
  · have e : (zig n : Int) = IntKind.u64.wrap ((IntKind.u64.wrap (2 * (IntKind.u64.wrap (IntKind.i64.wrap ((-1) - n))))) + 1) := by
      rw [w64 (by omega) (by omega)]
      simp only [u64_mod]
      unfold zig
      rw [if_pos h]
      omega
    rw [cdp h, ← e]
    exact key
  · have e : (zig n : Int) = IntKind.u64.wrap (2 * (IntKind.u64.wrap n)) := by
      simp only [u64_mod]
      unfold zig
      rw [if_neg h]
      omega
    rw [cdn h, ← e]
    exact key
theorem iNumBytes_l (e : Int → List Int → Option (List Int)) (d : Nat) : ∀ (u m : Nat) (acc : List Int), (∀ (x : Nat) acc', x < 128 → acc'.length ≤ 1000000 → e (x : Int) acc' = some (acc' ++ [(x : Int)])) → u < 18446744073709551616 → u < 128 ^ (d + 1) → acc.length + d + 1 ≤ 1000000 →
    I.NumBytes_l0 (d + 1 + m) e (u : Int) acc = some (acc ++ venc (d + 1) u) := by
  induction d with
  | zero =>
    intro u m acc he h64 hu ha
    have hu' : u < 128 := by simpa using hu
    rw [show 0 + 1 + m = m + 1 from by omega, I.NumBytes_l0, cdn (by omega), he u acc hu' (by omega)]
    simp only [venc, if_pos hu']
  | succ d ih =>
    intro u m acc he h64 hu ha
    by_cases h : u < 128
    · rw [show d + 1 + 1 + m = (d + 1 + m) + 1 from by omega, I.NumBytes_l0, cdn (by omega), he u acc h (by omega), venc_small h]
    · have hq : u / 128 < 128 ^ (d + 1) := by
        rw [Nat.div_lt_iff_lt_mul (by decide)]
        rw [Nat.pow_succ] at hu
        exact hu
      have := ih (u / 128) m (acc ++ [((128 + u % 128 : Nat) : Int)]) he (by omega) hq (by simp; omega)
      have e1 : (u : Int).fdiv (2 ^ min (Int.toNat 7) (IntKind.bits .u64)) = ((u / 128 : Nat) : Int) := by
        rw [show (2 : Int) ^ min (Int.toNat 7) (IntKind.bits .u64) = 128 from by decide, Int.fdiv_eq_ediv_of_nonneg _ (by omega)]; omega
      have e2 : Go.bits .or .u8 (IntKind.wrap .u8 (u : Int)) 128 = ((128 + u % 128 : Nat) : Int) := by rw [u8_mod, bits_or_128 _ (by omega) (by omega)]; omega
      rw [show d + 1 + 1 + m = (d + 1 + m) + 1 from by omega, I.NumBytes_l0, cdp (by omega)]
      simp only [e1, e2]
      rw [cdp (by simp; omega), cdp (by omega), this, venc_big h]
      simp
theorem izigzag_eq (n : Int) (h0 : -9223372036854775808 ≤ n) (h1 : n < 9223372036854775808) : I.zigzag n = some (zig n : Int) := by
  unfold I.zigzag
  rw [cdp (by omega)]
  simp only []
  rw [cdp (by omega)]
  congr 1
  rw [show (2 : Int) ^ min (Int.toNat 1) (IntKind.bits .u64) = 2 from by decide, show (2 : Int) ^ min (Int.toNat 63) (IntKind.bits .i64) = 9223372036854775808 from by decide, Int.fdiv_eq_ediv_of_nonneg _ (by omega)]
  by_cases h : n < 0
  · have e : IntKind.u64.wrap (n / 9223372036854775808) = 18446744073709551615 := by rw [u64_mod]; omega
    rw [e, bits_xor_ones _ (by rw [u64_mod]; omega) (by rw [u64_mod]; omega)]
    simp only [u64_mod]
    unfold zig
    rw [if_pos h]
    omega
  · have e : IntKind.u64.wrap (n / 9223372036854775808) = 0 := by rw [u64_mod]; omega
    rw [e, bits_xor_zero _ (by rw [u64_mod]; omega) (by rw [u64_mod]; omega)]
    simp only [u64_mod]
    unfold zig
    rw [if_neg h]
    omega
theorem iNumBytes_eq (n : Int) (h0 : -9223372036854775808 ≤ n) (h1 : n < 9223372036854775808) : I.NumBytes n = some (venc 10 (zig n)) := by
  have hz := zig_lt n h0 h1
  obtain ⟨m, hm⟩ := fu_ge 9 (by omega)
  have key := iNumBytes_l _ 9 (zig n) m [] (zig_key _ fun _ _ => rfl) hz (by omega) (by simp)
  simp only [List.nil_append] at key
  unfold I.NumBytes
  rw [izigzag_eq n h0 h1, hm]
  exact key
/-! OpOk -/
/-- What an operation must be. -/
def opOk (a1 a2 a3 a4 a5 a6 a7 a8 a9 a10 a11 : Int) : Bool :=
  bif a1 == 1 then decide ((0 ≤ a2 ∧ a2 ≤ 3) ∧ (0 ≤ a3 ∧ a3 ≤ 15) ∧ (0 ≤ a5 ∧ a5 ≤ 1000) ∧ a6 = 0 ∧ a7 = 0 ∧ a8 = 0 ∧ a9 = 0 ∧ a10 = 0 ∧ a11 = 0)
  else bif a1 == 2 then decide ((0 ≤ a6 ∧ a6 ≤ 3) ∧ (0 ≤ a7 ∧ a7 ≤ 4) ∧ (0 ≤ a8 ∧ a8 ≤ 15) ∧ (0 ≤ a9 ∧ a9 ≤ 15) ∧ a2 = 0 ∧ a3 = 0 ∧ a4 = 0 ∧ a5 = 0 ∧ a10 = 0 ∧ a11 = 0)
  else bif a1 == 3 then decide ((0 ≤ a6 ∧ a6 ≤ 3) ∧ (0 ≤ a7 ∧ a7 ≤ 4) ∧ (0 ≤ a8 ∧ a8 ≤ 15) ∧ a9 = 0 ∧ a2 = 0 ∧ a3 = 0 ∧ a4 = 0 ∧ a5 = 0 ∧ a10 = 0 ∧ a11 = 0)
  else bif a1 == 4 then decide ((0 ≤ a10 ∧ a10 ≤ 3) ∧ (0 ≤ a11 ∧ a11 ≤ 1000) ∧ a2 = 0 ∧ a3 = 0 ∧ a4 = 0 ∧ a5 = 0 ∧ a6 = 0 ∧ a7 = 0 ∧ a8 = 0 ∧ a9 = 0)
  else bif a1 == 5 || a1 == 6 then decide ((0 ≤ a10 ∧ a10 ≤ 3) ∧ a11 = 0 ∧ a2 = 0 ∧ a3 = 0 ∧ a4 = 0 ∧ a5 = 0 ∧ a6 = 0 ∧ a7 = 0 ∧ a8 = 0 ∧ a9 = 0)
  else bif a1 == 7 || a1 == 8 || a1 == 9 then decide ((0 ≤ a10 ∧ a10 ≤ 3) ∧ (0 ≤ a11 ∧ a11 ≤ 1000000) ∧ a2 = 0 ∧ a3 = 0 ∧ a4 = 0 ∧ a5 = 0 ∧ a6 = 0 ∧ a7 = 0 ∧ a8 = 0 ∧ a9 = 0)
  else false
theorem in_eq (a b c : Int) : I.in a b c = some (decide (b ≤ a ∧ a ≤ c)) := by unfold I.in; rw [cond_some, cond_and, dand]
theorem isSource_eq (a : Int) : I.isSource a = some (decide (0 ≤ a ∧ a ≤ 3)) := by unfold I.isSource; rw [in_eq]; rfl
theorem isTime_eq (a : Int) : I.isTime a = some (decide (0 ≤ a ∧ a ≤ 1000)) := by unfold I.isTime; rw [in_eq]; rfl
theorem isKey_eq (a : Int) : I.isKey a = some (decide (0 ≤ a ∧ a ≤ 15)) := by unfold I.isKey; rw [in_eq]; rfl
theorem isElem_eq (a b c d : Int) : I.isElem a b c d = some (decide ((0 ≤ a ∧ a ≤ 3) ∧ (0 ≤ b ∧ b ≤ 15) ∧ (0 ≤ d ∧ d ≤ 1000))) := by
  unfold I.isElem; simp only [isSource_eq, isKey_eq, isTime_eq, Option.bind_some, cond_some, cond_and, dand]
theorem isPlace_eq (a b c d : Int) : I.Punct_isPlace a b c d = some (decide ((0 ≤ a ∧ a ≤ 3) ∧ (0 ≤ b ∧ b ≤ 4) ∧ (0 ≤ c ∧ c ≤ 15))) := by
  unfold I.Punct_isPlace; simp only [isSource_eq, isKey_eq, in_eq, Option.bind_some, cond_some, cond_and, dand]
theorem l04Src_eq (a : Int) : S.l04Src a = some (decide (0 ≤ a ∧ a ≤ 3)) := by
  unfold S.l04Src; rw [cond_some, cond_and, dand]; congr 2; apply propext; omega
theorem l05Time_eq (a : Int) : S.l05Time a = some (decide (0 ≤ a ∧ a ≤ 1000)) := by unfold S.l05Time; rw [cond_some, cond_and, dand]
theorem l10Count_eq (a : Int) : S.l10Count a = some (decide (0 ≤ a ∧ a ≤ 1000000)) := by unfold S.l10Count; rw [cond_some, cond_and, dand]
theorem l04Key_eq (a : Int) : S.l04Key a = some (decide (0 ≤ a ∧ a ≤ 15)) := by unfold S.l04Key; rw [cond_some, cond_and, dand]
theorem l04Bits_eq (a : Int) : S.l04Bits a = some (decide (0 ≤ a ∧ a ≤ 4)) := by unfold S.l04Bits; rw [cond_some, cond_and, dand]
theorem ElemOk_eq (a b c d : Int) : S.ElemOk a b c d = some (decide ((0 ≤ a ∧ a ≤ 3) ∧ (0 ≤ b ∧ b ≤ 15) ∧ (0 ≤ d ∧ d ≤ 1000))) := by
  unfold S.ElemOk; simp only [l04Src_eq, l04Key_eq, l05Time_eq, Option.bind_some, cond_some, cond_and, dand]
theorem l11Punct_eq (a b c d : Int) : S.l11Punct a b c d = some (decide ((0 ≤ a ∧ a ≤ 3) ∧ (0 ≤ b ∧ b ≤ 4) ∧ (0 ≤ c ∧ c ≤ 15) ∧ (0 ≤ d ∧ d ≤ 15))) := by
  unfold S.l11Punct; simp only [l04Src_eq, l04Key_eq, l04Bits_eq, Option.bind_some, cond_some, cond_and, dand]; congr 2; apply propext; omega
theorem specOpOk_eq (a b c d e f g h i j k : Int) : S.OpOk a b c d e f g h i j k = some (opOk a b c d e f g h i j k) := by
  unfold S.OpOk
  simp only [ElemOk_eq, l11Punct_eq, l04Src_eq, l05Time_eq, l10Count_eq, Option.bind_some, cond_some, cond_and]
  congr 1
  unfold opOk
  rw [Bool.eq_iff_iff]
  by_cases h1 : a = 1
  · subst h1; simp; omega
  by_cases h2 : a = 2
  · subst h2; simp; omega
  by_cases h3 : a = 3
  · subst h3; simp; omega
  by_cases h4 : a = 4
  · subst h4; simp; omega
  by_cases h5 : a = 5
  · subst h5; simp; omega
  by_cases h6 : a = 6
  · subst h6; simp; omega
  by_cases h7 : a = 7
  · subst h7; simp; omega
  by_cases h8 : a = 8
  · subst h8; simp; omega
  by_cases h9 : a = 9
  · subst h9; simp; omega
  simp [h1, h2, h3, h4, h5, h6, h7, h8, h9]
theorem isOp_eq (a b c d e f g h i j k : Int) : I.isOp a b c d e f g h i j k = some (opOk a b c d e f g h i j k) := by
  unfold I.isOp
  simp only [isElem_eq, isPlace_eq, in_eq, isSource_eq, isTime_eq, dup_eq, Option.bind_some, cond_some, cond_and]
  congr 1
  unfold opOk
  rw [Bool.eq_iff_iff]
  by_cases h1 : a = 1
  · subst h1; simp; omega
  by_cases h2 : a = 2
  · subst h2; simp; omega
  by_cases h3 : a = 3
  · subst h3; simp; omega
  by_cases h4 : a = 4
  · subst h4; simp; omega
  by_cases h5 : a = 5
  · subst h5; simp; omega
  by_cases h6 : a = 6
  · subst h6; simp; omega
  by_cases h7 : a = 7
  · subst h7; simp; omega
  by_cases h8 : a = 8
  · subst h8; simp; omega
  by_cases h9 : a = 9
  · subst h9; simp; omega
  simp [h1, h2, h3, h4, h5, h6, h7, h8, h9]
theorem toOp_eq (a b c d e f g h i j k : Int) : L.toOp a b c d e f g h i j k = some (a, b, c, d, e, f, g, h, i, j, k) := rfl
/-! OpBytes -/
theorem sOpBytes_l (xs : List Int) (hx : ∀ x ∈ xs, -9223372036854775808 ≤ x ∧ x < 9223372036854775808) (hn : xs.length ≤ 1000000) (d : Nat) : ∀ (i m : Nat) (acc : List Int), i ≤ xs.length → xs.length - i = d → acc.length ≤ 10 * i →
    S.OpBytes_l0 (d + 1 + m) (fun y21 => some y21) (i : Int) acc xs = some (acc ++ (xs.drop i).flatMap (fun x => venc 10 (zig x))) := by
  induction d with
  | zero =>
    intro i m acc hi hd ha
    rw [show 0 + 1 + m = m + 1 from by omega, S.OpBytes_l0, cdn (by omega), List.drop_of_length_le (by omega)]
    simp
  | succ d ih =>
    intro i m acc hi hd ha
    have hb : nthI xs (i : Int) 0 ∈ xs := by
      have hi' : i < xs.length := by omega
      rw [nthI_nat, List.getD_eq_getElem?_getD, List.getElem?_eq_getElem hi']; simp
    have hv := hx _ hb
    have hl := venc_length 10 (zig (nthI xs (i : Int) 0))
    rw [show d + 1 + 1 + m = (d + 1 + m) + 1 from by omega, S.OpBytes_l0, cdp (by omega), cdp (by omega), sNumBytes_eq _ hv.1 hv.2, Option.bind_some, cdp (by omega), w64 (by omega) (by omega), show (i : Int) + 1 = ((i + 1 : Nat) : Int) from by omega, ih (i + 1) m _ (by omega) (by omega) (by rw [List.length_append]; omega), drop_nth xs i (by omega)]
    simp
theorem iOpBytes_l (xs : List Int) (hx : ∀ x ∈ xs, -9223372036854775808 ≤ x ∧ x < 9223372036854775808) (hn : xs.length ≤ 1000000) (d : Nat) : ∀ (i m : Nat) (acc : List Int), i ≤ xs.length → xs.length - i = d → acc.length ≤ 10 * i →
    I.opBytes_l0 (d + 1 + m) (fun y21 => some y21) (xs.length : Int) (i : Int) acc xs = some (acc ++ (xs.drop i).flatMap (fun x => venc 10 (zig x))) := by
  induction d with
  | zero =>
    intro i m acc hi hd ha
    rw [show 0 + 1 + m = m + 1 from by omega, I.opBytes_l0, cdn (by omega), List.drop_of_length_le (by omega)]
    simp
  | succ d ih =>
    intro i m acc hi hd ha
    have hb : nthI xs (i : Int) 0 ∈ xs := by
      have hi' : i < xs.length := by omega
      rw [nthI_nat, List.getD_eq_getElem?_getD, List.getElem?_eq_getElem hi']; simp
    have hv := hx _ hb
    have hl := venc_length 10 (zig (nthI xs (i : Int) 0))
    rw [show d + 1 + 1 + m = (d + 1 + m) + 1 from by omega, I.opBytes_l0, cdp (by omega), cdp (by omega), iNumBytes_eq _ hv.1 hv.2, Option.bind_some, cdp (by omega), w64 (by omega) (by omega), show (i : Int) + 1 = ((i + 1 : Nat) : Int) from by omega, ih (i + 1) m _ (by omega) (by omega) (by rw [List.length_append]; omega), drop_nth xs i (by omega)]
    simp
/-- The bytes of numbers, one after the other. -/
def nums (xs : List Int) : List Int := xs.flatMap (fun x => venc 10 (zig x))
theorem nums_length : ∀ xs : List Int, (nums xs).length ≤ 10 * xs.length
  | [] => by simp [nums]
  | x :: xs => by
    have := nums_length xs
    have := venc_length 10 (zig x)
    simp only [nums, List.flatMap_cons, List.length_append, List.length_cons] at *
    omega
def opBytes (a b c d e f g h i j k : Int) : List Int := bif opOk a b c d e f g h i j k then nums [a, b, c, d, e, f, g, h, i, j, k] else []
theorem opBytes_length (a b c d e f g h i j k : Int) : (opBytes a b c d e f g h i j k).length ≤ 110 := by
  unfold opBytes
  have := nums_length [a, b, c, d, e, f, g, h, i, j, k]
  cases opOk a b c d e f g h i j k
  · simp
  · simpa using this
theorem sOpBytes_eq (a b c d e f g h i j k : Int) (hx : ∀ x ∈ [a, b, c, d, e, f, g, h, i, j, k], -9223372036854775808 ≤ x ∧ x < 9223372036854775808) : S.OpBytes a b c d e f g h i j k = some (opBytes a b c d e f g h i j k) := by
  unfold S.OpBytes opBytes
  rw [specOpOk_eq, Option.bind_some]
  cases opOk a b c d e f g h i j k
  · rfl
  · obtain ⟨m, hm⟩ := fu_ge 11 (by omega)
    have := sOpBytes_l [a, b, c, d, e, f, g, h, i, j, k] hx (by simp) 11 0 m [] (by simp) (by simp) (by simp)
    unfold S.l13Fields
    rw [hm]
    exact this
theorem iOpBytes_eq (a b c d e f g h i j k : Int) (hx : ∀ x ∈ [a, b, c, d, e, f, g, h, i, j, k], -9223372036854775808 ≤ x ∧ x < 9223372036854775808) : I.OpBytes a b c d e f g h i j k = some (opBytes a b c d e f g h i j k) := by
  unfold I.OpBytes opBytes
  rw [isOp_eq, Option.bind_some]
  cases opOk a b c d e f g h i j k
  · rfl
  · obtain ⟨m, hm⟩ := fu_ge 11 (by omega)
    have := iOpBytes_l [a, b, c, d, e, f, g, h, i, j, k] hx (by simp) 11 0 m [] (by simp) (by simp) (by simp)
    unfold I.opBytes I.Op_fields
    rw [hm, Option.bind_some]
    exact congrArg (fun x => Option.bind x some) this
theorem FnExactOpBytes : StmtFnExactOpBytes.Stmt := by
  intro a b c d e f g h i j k ha hb hc hd he hf hg hh hi hj hk
  have hx : ∀ x ∈ [a, b, c, d, e, f, g, h, i, j, k], -9223372036854775808 ≤ x ∧ x < 9223372036854775808 := by
    simp only [List.forall_mem_cons, List.not_mem_nil, false_implies, implies_true, and_true]
    exact ⟨i64_wf ha, i64_wf hb, i64_wf hc, i64_wf hd, i64_wf he, i64_wf hf, i64_wf hg, i64_wf hh, i64_wf hi, i64_wf hj, i64_wf hk⟩
  have hl := opBytes_length a b c d e f g h i j k
  obtain ⟨r, hr, hm, hhd⟩ := markByteS_eq (opBytes a b c d e f g h i j k) 1 (by omega) (by omega) (by omega)
  have heq := eqByteS_eq (opBytes a b c d e f g h i j k) (opBytes a b c d e f g h i j k) (by omega)
  rw [decide_eq_true (rfl : opBytes a b c d e f g h i j k = opBytes a b c d e f g h i j k)] at heq
  have hp : ¬ ((1 : Int) + ((opBytes a b c d e f g h i j k).length : Int) < 0) := by omega
  unfold L.FnExactOpBytes
  simp only [toOp_eq, Option.bind_some, sOpBytes_eq a b c d e f g h i j k hx, iOpBytes_eq a b c d e f g h i j k hx, heq, hm, hhd, Bool.not_true, cond_false, cdn hp, bne_self_eq_false]
end Go.Proofs.Ytpfjklmobjjgpaa.Pure
