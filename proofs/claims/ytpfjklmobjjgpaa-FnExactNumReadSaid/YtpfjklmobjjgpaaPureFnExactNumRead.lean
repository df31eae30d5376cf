/- NumRead of the program returns what the reference's returns. For every argument. -/
import Derived.Test.YtpfjklmobjjgpaaStmtFnExactNumRead
import Derived.Laws.BitsLemmas
import Derived.Laws.BitsAllLaws
import Derived.Laws.Bits64b
namespace Go.Proofs.Ytpfjklmobjjgpaa.Pure
open Go Go.RowKit Go.Proofs.Ytpfjklmobjjgpaa.Run Go.Proofs.Ytpfjklmobjjgpaa.StmtFnExactNumRead Go.Proofs.YtpfjklmobjjgpaaW.PrintWords Go.Proofs.Ytpfjklmobjjgpaa.Vm
set_option linter.unusedVariables false
set_option linter.unusedSimpArgs false
/-! General words -/
theorem cdp {α : Type} {p : Prop} [Decidable p] {a b : α} (h : p) : (bif decide p then a else b) = a := by simp [h]
theorem cdn {α : Type} {p : Prop} [Decidable p] {a b : α} (h : ¬ p) : (bif decide p then a else b) = b := by simp [h]
theorem cnp {α : Type} {x y : Int} {a b : α} (h : x ≠ y) : (bif (x != y) then a else b) = a := by rw [show (x != y) = true from by simpa using h]; rfl
theorem cnn {α : Type} {x y : Int} {a b : α} (h : x = y) : (bif (x != y) then a else b) = b := by simp [bne, h]
theorem cep {α : Type} {x y : Int} {a b : α} (h : x = y) : (bif (x == y) then a else b) = a := by simp [h]
theorem cen {α : Type} {x y : Int} {a b : α} (h : x ≠ y) : (bif (x == y) then a else b) = b := by rw [show (x == y) = false from by simpa using h]; rfl
theorem cond_some {α : Type} (c : Bool) (x y : α) : (bif c then some x else some y) = some (bif c then x else y) := by cases c <;> rfl
theorem cond_and (c x : Bool) : (bif c then x else false) = (c && x) := by cases c <;> rfl
theorem dand (p q : Prop) [Decidable p] [Decidable q] : (decide p && decide q) = decide (p ∧ q) := by by_cases p <;> by_cases q <;> simp_all
theorem w64 {n : Int} (h0 : -9223372036854775808 ≤ n) (h1 : n < 9223372036854775808) : IntKind.i64.wrap n = n := by rw [IntKind.wrap_i64]; omega
theorem u64_mod (n : Int) : IntKind.u64.wrap n = n % 18446744073709551616 := by simp [IntKind.wrap, IntKind.bits, IntKind.signed]
theorem u64w {n : Int} (h0 : 0 ≤ n) (h1 : n < 18446744073709551616) : IntKind.u64.wrap n = n := by rw [u64_mod]; omega
theorem u8_mod (n : Int) : IntKind.u8.wrap n = n % 256 := by simp [IntKind.wrap, IntKind.bits, IntKind.signed]
theorem i64_wf {n : Int} (h : (Lit.int .i64 n).wf = true) : -9223372036854775808 ≤ n ∧ n < 9223372036854775808 := by
  simp only [Lit.wf, IntKind.min, IntKind.max, IntKind.signed, IntKind.bits, Bool.and_eq_true, decide_eq_true_eq, if_true] at h
  omega
theorem u8_wf {n : Int} (h : (Lit.int .u8 n).wf = true) : 0 ≤ n ∧ n < 256 := by
  simp [Lit.wf, IntKind.min, IntKind.max, IntKind.signed, IntKind.bits, Bool.and_eq_true] at h
  omega
theorem tmod_nat (n : Int) (m : Int) (h : 0 ≤ n) : Int.tmod n m = n % m := Int.tmod_eq_emod_of_nonneg h
theorem tdiv_nat (n : Int) (m : Int) (h : 0 ≤ n) : Int.tdiv n m = n / m := Int.tdiv_eq_ediv_of_nonneg h
theorem bits_or_128 (x : Int) (h0 : 0 ≤ x) (h1 : x < 256) : Go.bits .or .u8 x 128 = 128 + x % 128 := by
  obtain ⟨n, rfl⟩ := Int.eq_ofNat_of_zero_le h0
  have hn : n < 256 := by omega
  have key : ∀ m : Fin 256, Go.bits .or .u8 ((m.val : Nat) : Int) 128 = 128 + ((m.val : Nat) : Int) % 128 := by decide +kernel
  exact key ⟨n, hn⟩
theorem bits_xor_zero (x : Int) (h0 : 0 ≤ x) (h1 : x < 18446744073709551616) : Go.bits .xor .u64 x 0 = x := by
  obtain ⟨n, rfl⟩ := Int.eq_ofNat_of_zero_le h0
  have hn : n < 18446744073709551616 := by omega
  show IntKind.u64.wrap (((BitVec.ofInt 64 ((n : Nat) : Int)) ^^^ (BitVec.ofInt 64 0)).toNat : Int) = n
  have e : (BitVec.ofInt 64 0) = 0#64 := by decide
  rw [e, BitVec.xor_zero, BitVec.ofInt_natCast, BitVec.toNat_ofNat, u64_mod]
  omega
theorem bits_xor_ones (x : Int) (h0 : 0 ≤ x) (h1 : x < 18446744073709551616) : Go.bits .xor .u64 x 18446744073709551615 = 18446744073709551615 - x := by
  obtain ⟨n, rfl⟩ := Int.eq_ofNat_of_zero_le h0
  have hn : n < 18446744073709551616 := by omega
  show IntKind.u64.wrap (((BitVec.ofInt 64 ((n : Nat) : Int)) ^^^ (BitVec.ofInt 64 18446744073709551615)).toNat : Int) = 18446744073709551615 - n
  have e : (BitVec.ofInt 64 18446744073709551615) = BitVec.allOnes 64 := by decide
  rw [e, BitVec.xor_allOnes, BitVec.toNat_not, BitVec.ofInt_natCast, BitVec.toNat_ofNat, u64_mod]
  omega
theorem fu_ge (d : Nat) (h : d ≤ 1000000000000) : ∃ m, fu = d + 1 + m := ⟨fu - d - 1, by rw [fu_eq]; omega⟩
theorem nthI_nat {α : Type} (xs : List α) (i : Nat) (d : α) : nthI xs (i : Int) d = xs.getD i d := rfl
theorem drop_nth (xs : List Int) (i : Nat) (h : i < xs.length) : xs.drop i = nthI xs (i : Int) 0 :: xs.drop (i + 1) := by
  rw [nthI_nat, List.getD_eq_getElem?_getD, List.getElem?_eq_getElem h]; exact List.drop_eq_getElem_cons h
/-! eqByteS -/
theorem eqByteS_l (e0 : Bool → Option Bool) (e1 : Option Bool) (he : e0 false = some false) (he1 : e1 = some true) (a b : List Int) (hl : a.length = b.length) (hn : a.length ≤ 4611686018427387904) (d : Nat) : ∀ i m : Nat, i ≤ a.length → a.length - i = d →
    L.eqByteS_l0 (d + 1 + m) e0 e1 (i : Int) a b = some (decide (a.drop i = b.drop i)) := by
  induction d with
  | zero =>
    intro i m hi hd
    rw [show 0 + 1 + m = m + 1 from by omega, L.eqByteS_l0, cdn (by omega), List.drop_of_length_le (by omega), List.drop_of_length_le (by omega), he1]
    simp
  | succ d ih =>
    intro i m hi hd
    rw [show d + 1 + 1 + m = (d + 1 + m) + 1 from by omega, L.eqByteS_l0, cdp (by omega), cdp (by omega), cdp (by omega), drop_nth a i (by omega), drop_nth b i (by omega)]
    by_cases e : nthI a (i : Int) 0 = nthI b (i : Int) 0
    · rw [cnn e, w64 (by omega) (by omega), show (i : Int) + 1 = ((i + 1 : Nat) : Int) from by omega, ih (i + 1) m (by omega) (by omega), e]
      generalize nthI b (i : Int) 0 = x
      simp
    · rw [cnp e, he]
      generalize nthI b (i : Int) 0 = x at *
      generalize nthI a (i : Int) 0 = y at *
      simp [e]
theorem eqByteS_eq (a b : List Int) (hn : a.length ≤ 1000000000000) : L.eqByteS a b = some (decide (a = b)) := by
  unfold L.eqByteS
  by_cases e : a.length = b.length
  · obtain ⟨m, hm⟩ := fu_ge a.length hn
    have := eqByteS_l (fun y12 => some y12) (some true) rfl rfl a b e (by omega) a.length 0 m (by omega) (by omega)
    rw [hm]
    simpa [e] using this
  · have e2 : a ≠ b := fun h => e (by rw [h])
    have e3 : ¬ ((a.length : Int) = (b.length : Int)) := by omega
    rw [cnp e3]
    simp [e2]
/-! toByteS -/
theorem toByteS_eq (a : List Int) (hn : a.length ≤ 1000000000000) : L.toByteS a = some a := by
  obtain ⟨M, hM⟩ := fu_ge a.length hn
  have h1 : ∀ d i : Nat, ∀ xs : List Int, xs.length = a.length → i ≤ a.length → a.length - i = d → xs.take i = a.take i → L.toByteS_l0 (d + 1 + M) (fun y11 => some y11) (i : Int) a xs = some a := by
    intro d
    induction d with
    | zero =>
      intro i xs hx hi hd ht
      obtain rfl : i = a.length := by omega
      rw [List.take_of_length_le (by omega), List.take_of_length_le (by omega)] at ht
      subst ht
      rw [show 0 + 1 + M = M + 1 from by omega, L.toByteS_l0, cdn (by omega)]
    | succ d ih =>
      intro i xs hx hi hd ht
      rw [show d + 1 + 1 + M = (d + 1 + M) + 1 from by omega, L.toByteS_l0, cdp (by omega), cdp (by omega), cdp (by omega), w64 (by omega) (by omega), show (i : Int) + 1 = ((i + 1 : Nat) : Int) from by omega]
      refine ih (i + 1) _ (by simpa using hx) (by omega) (by omega) ?_
      have hi2 : i < a.length := by omega
      rw [nthI_nat, List.getD_eq_getElem?_getD, List.getElem?_eq_getElem hi2, Option.getD_some, Int.toNat_natCast, List.take_add_one, List.take_add_one, List.take_set_of_le (Nat.le_refl i), ht]
      simp [show i < xs.length from by omega, hi2]
  have := h1 a.length 0 (List.replicate a.length 0) (by simp) (by omega) (by omega) (by simp)
  unfold L.toByteS
  simp only []
  rw [cdp (by omega), hM]
  simpa using this
/-! NumBytes -/
/-- The bytes of a number, seven bits each. -/
def venc : Nat → Nat → List Int
  | 0, _ => []
  | d + 1, u => if u < 128 then [(u : Int)] else ((128 + u % 128 : Nat) : Int) :: venc d (u / 128)
theorem venc_small {d u : Nat} (h : u < 128) : venc (d + 1) u = [(u : Int)] := by rw [venc, if_pos h]
theorem venc_big {d u : Nat} (h : ¬ u < 128) : venc (d + 1) u = ((128 + u % 128 : Nat) : Int) :: venc d (u / 128) := by rw [venc, if_neg h]
theorem venc_length (d : Nat) : ∀ u, (venc d u).length ≤ d := by
  induction d with
  | zero => intro u; simp [venc]
  | succ d ih =>
    intro u
    unfold venc
    split
    · simp
    · have := ih (u / 128)
      simp only [List.length_cons]
      omega
/-- The number without a sign. -/
def zig (n : Int) : Nat := if n < 0 then (2 * (-1 - n) + 1).toNat else (2 * n).toNat
theorem zig_lt (n : Int) (h0 : -9223372036854775808 ≤ n) (h1 : n < 9223372036854775808) : zig n < 18446744073709551616 := by
  unfold zig; split <;> omega
theorem sNumBytes_l (e : Int → List Int → Option (List Int)) (d : Nat) : ∀ (u m : Nat) (acc : List Int), (∀ (x : Nat) acc', x < 128 → acc'.length ≤ 1000000 → e (x : Int) acc' = some (acc' ++ [(x : Int)])) → u < 18446744073709551616 → u < 128 ^ (d + 1) → acc.length + d + 1 ≤ 1000000 →
    S.NumBytes_l0 (d + 1 + m) e (u : Int) acc = some (acc ++ venc (d + 1) u) := by
  induction d with
  | zero =>
    intro u m acc he h64 hu ha
    have hu' : u < 128 := by simpa using hu
    rw [show 0 + 1 + m = m + 1 from by omega, S.NumBytes_l0, cdn (by omega), he u acc hu' (by omega)]
    simp only [venc, if_pos hu']
  | succ d ih =>
    intro u m acc he h64 hu ha
    by_cases h : u < 128
    · rw [show d + 1 + 1 + m = (d + 1 + m) + 1 from by omega, S.NumBytes_l0, cdn (by omega), he u acc h (by omega), venc_small h]
    · have hq : u / 128 < 128 ^ (d + 1) := by
        rw [Nat.div_lt_iff_lt_mul (by decide)]
        rw [Nat.pow_succ] at hu
        exact hu
      have := ih (u / 128) m (acc ++ [((128 + u % 128 : Nat) : Int)]) he (by omega) hq (by simp; omega)
      have e1 : IntKind.u64.wrap ((u : Int).tdiv 128) = ((u / 128 : Nat) : Int) := by rw [tdiv_nat _ _ (by omega), u64w (by omega) (by omega)]; omega
      have e2 : IntKind.u8.wrap (IntKind.u64.wrap (128 + (u : Int).tmod 128)) = ((128 + u % 128 : Nat) : Int) := by rw [tmod_nat _ _ (by omega), u64w (by omega) (by omega), u8_mod]; omega
      rw [show d + 1 + 1 + m = (d + 1 + m) + 1 from by omega, S.NumBytes_l0, cdp (by omega), cdn (by omega)]
      simp only [e1, e2]
      rw [cdp (by simp; omega), cdn (by omega), this, venc_big h]
      simp
theorem zig_key (f : Int → List Int → Option (List Int)) (hf : ∀ y z, f y z = (let v18 : Int := (IntKind.wrap .u8 y)
(bif decide ((z.length + [v18].length) * 1 ≤ 140737488355328) then
(some (z ++ [v18]))
else
none))) : ∀ (x : Nat) (acc' : List Int), x < 128 → acc'.length ≤ 1000000 → f (x : Int) acc' = some (acc' ++ [(x : Int)]) := by
  intro x acc hx ha
  rw [hf]
  have e : IntKind.u8.wrap (x : Int) = x := by rw [u8_mod]; omega
  simp only [e]
  rw [cdp (by simp; omega)]
theorem sNumBytes_eq (n : Int) (h0 : -9223372036854775808 ≤ n) (h1 : n < 9223372036854775808) : S.NumBytes n = some (venc 10 (zig n)) := by
  have hz := zig_lt n h0 h1
  obtain ⟨m, hm⟩ := fu_ge 9 (by omega)
  have key := sNumBytes_l _ 9 (zig n) m [] (zig_key _ fun _ _ => rfl) hz (by omega) (by simp)
  simp only [List.nil_append] at key
  unfold S.NumBytes
  rw [hm]
  by_cases h : n < 0
  · have e : (zig n : Int) = IntKind.u64.wrap ((IntKind.u64.wrap (2 * (IntKind.u64.wrap (IntKind.i64.wrap ((-1) - n))))) + 1) := by
      rw [w64 (by omega) (by omega)]
      simp only [u64_mod]
      unfold zig
      rw [if_pos h]
      omega
    rw [cdp h, ← e]
    exact key
  · have e : (zig n : Int) = IntKind.u64.wrap (2 * (IntKind.u64.wrap n)) := by
      simp only [u64_mod]
      unfold zig
      rw [if_neg h]
      omega
    rw [cdn h, ← e]
    exact key
theorem iNumBytes_l (e : Int → List Int → Option (List Int)) (d : Nat) : ∀ (u m : Nat) (acc : List Int), (∀ (x : Nat) acc', x < 128 → acc'.length ≤ 1000000 → e (x : Int) acc' = some (acc' ++ [(x : Int)])) → u < 18446744073709551616 → u < 128 ^ (d + 1) → acc.length + d + 1 ≤ 1000000 →
    I.NumBytes_l0 (d + 1 + m) e (u : Int) acc = some (acc ++ venc (d + 1) u) := by
  induction d with
  | zero =>
    intro u m acc he h64 hu ha
    have hu' : u < 128 := by simpa using hu
    rw [show 0 + 1 + m = m + 1 from by omega, I.NumBytes_l0, cdn (by omega), he u acc hu' (by omega)]
    simp only [venc, if_pos hu']
  | succ d ih =>
    intro u m acc he h64 hu ha
    by_cases h : u < 128
    · rw [show d + 1 + 1 + m = (d + 1 + m) + 1 from by omega, I.NumBytes_l0, cdn (by omega), he u acc h (by omega), venc_small h]
    · have hq : u / 128 < 128 ^ (d + 1) := by
        rw [Nat.div_lt_iff_lt_mul (by decide)]
        rw [Nat.pow_succ] at hu
        exact hu
      have := ih (u / 128) m (acc ++ [((128 + u % 128 : Nat) : Int)]) he (by omega) hq (by simp; omega)
      have e1 : (u : Int).fdiv (2 ^ min (Int.toNat 7) (IntKind.bits .u64)) = ((u / 128 : Nat) : Int) := by
        rw [show (2 : Int) ^ min (Int.toNat 7) (IntKind.bits .u64) = 128 from by decide, Int.fdiv_eq_ediv_of_nonneg _ (by omega)]; omega
      have e2 : Go.bits .or .u8 (IntKind.wrap .u8 (u : Int)) 128 = ((128 + u % 128 : Nat) : Int) := by rw [u8_mod, bits_or_128 _ (by omega) (by omega)]; omega
      rw [show d + 1 + 1 + m = (d + 1 + m) + 1 from by omega, I.NumBytes_l0, cdp (by omega)]
      simp only [e1, e2]
      rw [cdp (by simp; omega), cdp (by omega), this, venc_big h]
      simp
theorem izigzag_eq (n : Int) (h0 : -9223372036854775808 ≤ n) (h1 : n < 9223372036854775808) : I.zigzag n = some (zig n : Int) := by
  unfold I.zigzag
  rw [cdp (by omega)]
  simp only []
  rw [cdp (by omega)]
  congr 1
  rw [show (2 : Int) ^ min (Int.toNat 1) (IntKind.bits .u64) = 2 from by decide, show (2 : Int) ^ min (Int.toNat 63) (IntKind.bits .i64) = 9223372036854775808 from by decide, Int.fdiv_eq_ediv_of_nonneg _ (by omega)]
  by_cases h : n < 0
  · have e : IntKind.u64.wrap (n / 9223372036854775808) = 18446744073709551615 := by rw [u64_mod]; omega
    rw [e, bits_xor_ones _ (by rw [u64_mod]; omega) (by rw [u64_mod]; omega)]
    simp only [u64_mod]
    unfold zig
    rw [if_pos h]
    omega
  · have e : IntKind.u64.wrap (n / 9223372036854775808) = 0 := by rw [u64_mod]; omega
    rw [e, bits_xor_zero _ (by rw [u64_mod]; omega) (by rw [u64_mod]; omega)]
    simp only [u64_mod]
    unfold zig
    rw [if_neg h]
    omega
theorem iNumBytes_eq (n : Int) (h0 : -9223372036854775808 ≤ n) (h1 : n < 9223372036854775808) : I.NumBytes n = some (venc 10 (zig n)) := by
  have hz := zig_lt n h0 h1
  obtain ⟨m, hm⟩ := fu_ge 9 (by omega)
  have key := iNumBytes_l _ 9 (zig n) m [] (zig_key _ fun _ _ => rfl) hz (by omega) (by simp)
  simp only [List.nil_append] at key
  unfold I.NumBytes
  rw [izigzag_eq n h0 h1, hm]
  exact key
/-! NumRead -/
theorem strOf_eq (xs ys : List Int) (hx : ∀ x ∈ xs, 0 ≤ x ∧ x < 256) (hy : ∀ x ∈ ys, 0 ≤ x ∧ x < 256) : ((strOfNums xs).toList == (strOfNums ys).toList) = decide (xs = ys) := by
  rw [ByteArray.toList_eq, ByteArray.toList_eq, strOfNums_data, strOfNums_data]
  have inj : ∀ (xs ys : List Int), (∀ x ∈ xs, 0 ≤ x ∧ x < 256) → (∀ x ∈ ys, 0 ≤ x ∧ x < 256) → (xs.map fun n => UInt8.ofNat n.toNat) = (ys.map fun n => UInt8.ofNat n.toNat) → xs = ys := by
    intro xs
    induction xs with
    | nil => intro ys _ _ h; cases ys with
      | nil => rfl
      | cons y ys => simp at h
    | cons x xs ih =>
      intro ys hx hy h
      cases ys with
      | nil => simp at h
      | cons y ys =>
        simp only [List.map_cons, List.cons.injEq] at h
        have e := congrArg UInt8.toNat h.1
        rw [UInt8.toNat_ofNat', UInt8.toNat_ofNat'] at e
        have h1 := hx x (by simp)
        have h2 := hy y (by simp)
        have e2 : x = y := by omega
        rw [e2, ih ys (fun z hz => hx z (by simp [hz])) (fun z hz => hy z (by simp [hz])) h.2]
  rw [Bool.eq_iff_iff]
  simp only [beq_iff_eq, decide_eq_true_eq]
  exact ⟨inj xs ys hx hy, fun h => h ▸ rfl⟩
theorem venc_bytes : ∀ (d u : Nat), ∀ x ∈ venc d u, 0 ≤ x ∧ x < 256
  | 0, u => by simp [venc]
  | d + 1, u => by
    by_cases h : u < 128
    · rw [venc_small h]; simp; omega
    · rw [venc_big h]
      intro x hx
      rcases List.mem_cons.1 hx with rfl | hx
      · omega
      · exact venc_bytes d _ x hx
def cont : Nat → Nat → List Int
  | 0, _ => []
  | k + 1, u => ((128 + u % 128 : Nat) : Int) :: cont k (u / 128)
def pad : Nat → Nat → List Int
  | 0, u => [(u : Int)]
  | k + 1, u => ((128 + u % 128 : Nat) : Int) :: pad k (u / 128)
theorem pad_length : ∀ k u, (pad k u).length = k + 1
  | 0, u => rfl
  | k + 1, u => by simp [pad, pad_length k]
theorem pad_inj : ∀ k u v, pad k u = pad k v → u = v
  | 0, u, v, h => by
    simp only [pad, List.cons.injEq, and_true] at h
    omega
  | k + 1, u, v, h => by
    simp only [pad, List.cons.injEq] at h
    have := pad_inj k _ _ h.2
    omega
theorem venc_pad : ∀ d u, u < 128 ^ (d + 1) → ∃ k, venc (d + 1) u = pad k u
  | 0, u, h => ⟨0, by rw [venc_small (by simpa using h)]; rfl⟩
  | d + 1, u, h => by
    by_cases hu : u < 128
    · exact ⟨0, by rw [venc_small hu]; rfl⟩
    · obtain ⟨k, hk⟩ := venc_pad d (u / 128) (by rw [Nat.div_lt_iff_lt_mul (by decide)]; rw [Nat.pow_succ] at h; exact h)
      exact ⟨k + 1, by rw [venc_big hu, hk]; rfl⟩
theorem venc_is_pad (k u w : Nat) (hu : u < 18446744073709551616) : (venc 10 u = pad k w) ↔ ((venc 10 u).length = k + 1 ∧ u = w) := by
  obtain ⟨q, hq⟩ := venc_pad 9 u (by omega)
  rw [hq, pad_length]
  constructor
  · intro h
    have hl := congrArg List.length h
    rw [pad_length, pad_length] at hl
    obtain rfl : q = k := by omega
    exact ⟨rfl, pad_inj _ _ _ h⟩
  · rintro ⟨h1, rfl⟩
    obtain rfl : q = k := by omega
    rfl
theorem pow_step (k b : Nat) : 128 ^ (k + 1) * b = 128 * (128 ^ k * b) := by rw [Nat.pow_succ, Nat.mul_comm (128 ^ k) 128, Nat.mul_assoc]
theorem cont_last : ∀ k u b : Nat, u < 128 ^ k → cont k u ++ [(b : Int)] = pad k (u + 128 ^ k * b)
  | 0, u, b, h => by
    obtain rfl : u = 0 := by simpa using h
    simp [cont, pad]
  | k + 1, u, b, h => by
    have h2 : u / 128 < 128 ^ k := by rw [Nat.div_lt_iff_lt_mul (by decide)]; rw [Nat.pow_succ] at h; exact h
    have ih := cont_last k (u / 128) b h2
    rw [pow_step]
    simp only [cont, pad, List.cons_append, ih]
    generalize 128 ^ k * b = q
    rw [show (u + 128 * q) % 128 = u % 128 from by omega, show (u + 128 * q) / 128 = u / 128 + q from by omega]
theorem cont_next : ∀ k u c : Nat, u < 128 ^ k → c < 128 → cont (k + 1) (u + 128 ^ k * c) = cont k u ++ [((128 + c : Nat) : Int)]
  | 0, u, c, h, hc => by
    obtain rfl : u = 0 := by simpa using h
    simp [cont, Nat.mod_eq_of_lt hc]
  | k + 1, u, c, h, hc => by
    have h2 : u / 128 < 128 ^ k := by rw [Nat.div_lt_iff_lt_mul (by decide)]; rw [Nat.pow_succ] at h; exact h
    have ih := cont_next k (u / 128) c h2 hc
    rw [pow_step, cont, show cont (k + 1) u = ((128 + u % 128 : Nat) : Int) :: cont k (u / 128) from rfl, List.cons_append, ← ih]
    generalize 128 ^ k * c = q
    rw [show (u + 128 * q) % 128 = u % 128 from by omega, show (u + 128 * q) / 128 = u / 128 + q from by omega]
theorem and127 (x : Int) (h0 : 0 ≤ x) (h1 : x < 256) : Go.bits .and .u8 x 127 = x % 128 := by
  obtain ⟨n, rfl⟩ := Int.eq_ofNat_of_zero_le h0
  have hn : n < 256 := by omega
  have key : ∀ m : Fin 256, Go.bits .and .u8 ((m.val : Nat) : Int) 127 = ((m.val : Nat) : Int) % 128 := by decide +kernel
  exact key ⟨n, hn⟩
theorem and_one (v : Nat) (h : v < 18446744073709551616) : Go.bits .and .u64 (v : Int) 1 = ((v % 2 : Nat) : Int) := by
  have := bits_and_u64_nat v 1 h (by omega)
  rw [Nat.and_one_is_mod] at this
  exact this
theorem shl7 (k : Nat) (h : k ≤ 9) : (2 : Int) ^ (min (Int.toNat (IntKind.i64.wrap (7 * (k : Int)))) (IntKind.bits .u64)) = ((128 ^ k : Nat) : Int) := by
  have key : ∀ m : Fin 10, (2 : Int) ^ (min (Int.toNat (IntKind.i64.wrap (7 * ((m.val : Nat) : Int)))) (IntKind.bits .u64)) = ((128 ^ m.val : Nat) : Int) := by decide +kernel
  exact key ⟨k, by omega⟩
theorem pow_le (k : Nat) (h : k ≤ 9) : 128 ^ k ≤ 9223372036854775808 := by
  have key : ∀ m : Fin 10, 128 ^ m.val ≤ 9223372036854775808 := by decide +kernel
  exact key ⟨k, by omega⟩
theorem or_lem (k U c : Nat) (hk : k ≤ 9) (hU : U < 128 ^ k) : U ||| ((128 ^ k * c) % 18446744073709551616) = (U + 128 ^ k * c) % 18446744073709551616 := by
  have hq : 128 ^ k = 2 ^ (7 * k) := by rw [Nat.pow_mul]
  rw [hq] at hU ⊢
  have h64 : (18446744073709551616 : Nat) = 2 ^ (7 * k) * 2 ^ (64 - 7 * k) := by rw [← Nat.pow_add, show 7 * k + (64 - 7 * k) = 64 from by omega]
  have e1 : (2 ^ (7 * k) * c) % 18446744073709551616 = 2 ^ (7 * k) * (c % 2 ^ (64 - 7 * k)) := by rw [h64, Nat.mul_mod_mul_left]
  have hc : c % 2 ^ (64 - 7 * k) + 1 ≤ 2 ^ (64 - 7 * k) := Nat.mod_lt _ (Nat.two_pow_pos _)
  have h3 : 2 ^ (7 * k) * (c % 2 ^ (64 - 7 * k) + 1) ≤ 18446744073709551616 := by
    rw [h64]; exact Nat.mul_le_mul_left _ hc
  rw [Nat.mul_add, Nat.mul_one] at h3
  have e2 : U ||| 2 ^ (7 * k) * (c % 2 ^ (64 - 7 * k)) = 2 ^ (7 * k) * (c % 2 ^ (64 - 7 * k)) + U := by
    rw [Nat.or_comm]; exact (Nat.two_pow_add_eq_or_of_lt hU _).symm
  rw [e1, e2]
  generalize 2 ^ (7 * k) * (c % 2 ^ (64 - 7 * k)) = X at *
  generalize 2 ^ (7 * k) * c = Y at *
  generalize 2 ^ (7 * k) = Q at *
  omega
theorem xor_i64_zero (x : Int) (h0 : 0 ≤ x) (h1 : x < 9223372036854775808) : Go.bits .xor .i64 x 0 = x := by
  obtain ⟨n, rfl⟩ := Int.eq_ofNat_of_zero_le h0
  show IntKind.i64.wrap (((BitVec.ofInt 64 ((n : Nat) : Int)) ^^^ (BitVec.ofInt 64 0)).toNat : Int) = n
  have e : (BitVec.ofInt 64 0) = 0#64 := by decide
  rw [e, BitVec.xor_zero, BitVec.ofInt_natCast, BitVec.toNat_ofNat, IntKind.wrap_i64]
  omega
theorem xor_i64_ones (x : Int) (h0 : 0 ≤ x) (h1 : x < 9223372036854775808) : Go.bits .xor .i64 x (-1) = -1 - x := by
  obtain ⟨n, rfl⟩ := Int.eq_ofNat_of_zero_le h0
  show IntKind.i64.wrap (((BitVec.ofInt 64 ((n : Nat) : Int)) ^^^ (BitVec.ofInt 64 (-1))).toNat : Int) = -1 - n
  have e : (BitVec.ofInt 64 (-1)) = BitVec.allOnes 64 := by decide
  rw [e, BitVec.xor_allOnes, BitVec.toNat_not, BitVec.ofInt_natCast, BitVec.toNat_ofNat, IntKind.wrap_i64]
  omega
/-- A number from what has no sign. -/
def unzig (v : Nat) : Int := if v % 2 = 1 then -1 - ((v / 2 : Nat) : Int) else ((v / 2 : Nat) : Int)
theorem unzig_zig (v : Nat) : zig (unzig v) = v := by
  unfold unzig
  split
  · unfold zig; rw [if_pos (by omega)]; omega
  · unfold zig; rw [if_neg (by omega)]; omega
theorem unzig_le (v : Nat) (h : v < 18446744073709551616) : -9223372036854775808 ≤ unzig v ∧ unzig v < 9223372036854775808 := by
  unfold unzig; split <;> omega
theorem take_next (xs : List Int) (p k : Nat) (h : p + k < xs.length) : (xs.drop p).take (k + 1) = (xs.drop p).take k ++ [nthI xs ((p + k : Nat) : Int) 0] := by
  rw [List.take_add_one, List.getElem?_drop, List.getElem?_eq_getElem h, nthI_nat, List.getD_eq_getElem?_getD, List.getElem?_eq_getElem h]
  rfl
/-- What reading stops with. -/
def stops (p k b U : Nat) : Int × Int × Bool :=
  if (venc 10 ((U + 128 ^ k * b) % 18446744073709551616)).length = k + 1 ∧ (U + 128 ^ k * b) % 18446744073709551616 = U + 128 ^ k * b then (unzig ((U + 128 ^ k * b) % 18446744073709551616), ((p + k + 1 : Nat) : Int), true) else (0, 0, false)
section
variable (xs : List Int) (hx : ∀ x ∈ xs, 0 ≤ x ∧ x < 256) (hn : xs.length ≤ 1000000000) (p k U b : Nat) (hk : k ≤ 9) (hp : p + k < xs.length) (hU : U < 128 ^ k) (hc : (xs.drop p).take k = cont k U) (hb : nthI xs ((p + k : Nat) : Int) 0 = (b : Int)) (hb2 : b < 128)
include hx hn hk hp hU hc hb hb2
theorem sStops (m : Nat) : S.NumRead_l0 (m + 1) (fun a b c => some (a, b, c)) (some (0, 0, false)) (p : Int) ((U % 18446744073709551616 : Nat) : Int) ((128 ^ k % 18446744073709551616 : Nat) : Int) ((p + k : Nat) : Int) xs = some (stops p k b U) := by
  have hq := pow_le k hk
  have hV : (U + 128 ^ k * b) % 18446744073709551616 < 18446744073709551616 := Nat.mod_lt _ (by decide)
  have e18 : IntKind.u64.wrap (((U % 18446744073709551616 : Nat) : Int) + IntKind.u64.wrap (((128 ^ k % 18446744073709551616 : Nat) : Int) * IntKind.u64.wrap ((b : Int).tmod 128))) = (((U + 128 ^ k * b) % 18446744073709551616 : Nat) : Int) := by
    rw [tmod_nat _ _ (by omega), show IntKind.u64.wrap ((b : Int) % 128) = (b : Int) from by rw [u64_mod]; omega, ← Int.natCast_mul, Nat.mod_eq_of_lt (show 128 ^ k < 18446744073709551616 from by omega), u64_mod, u64_mod]
    generalize 128 ^ k * b = Y
    omega
  have hs : (xs.take (p + k + 1)).drop p = pad k (U + 128 ^ k * b) := by
    rw [List.drop_take, show p + k + 1 - p = k + 1 from by omega, take_next xs p k hp, hc, hb, cont_last k U b hU]
  have hsb : ∀ x ∈ pad k (U + 128 ^ k * b), 0 ≤ x ∧ x < 256 := by
    rw [← hs]
    exact fun x h => hx x (List.mem_of_mem_take (List.mem_of_mem_drop h))
  unfold stops
  rw [S.NumRead_l0, cdp (by omega), w64 (by omega) (by omega), cdp (by omega), cdp (by omega), cdn (by omega), hb]
  simp only [e18, same_self, dup_eq]
  generalize hVV : (U + 128 ^ k * b) % 18446744073709551616 = V at *
  have hu := unzig_zig V
  have hl := unzig_le V hV
  have e22 : IntKind.i64.wrap (IntKind.u64.wrap ((V : Int).tdiv 2)) = ((V / 2 : Nat) : Int) := by
    rw [tdiv_nat _ _ (by omega), u64w (by omega) (by omega), w64 (by omega) (by omega)]; omega
  have em : ((V : Int).tmod 2) = ((V % 2 : Nat) : Int) := by rw [tmod_nat _ _ (by omega)]; omega
  have ev25 : IntKind.i64.wrap (((p + k : Nat) : Int) + 1) = ((p + k + 1 : Nat) : Int) := by rw [w64 (by omega) (by omega)]; omega
  have key : ∀ n : Int, n = unzig V → (Option.bind (S.NumBytes n) fun r26 => (bif (!((strOfNums r26).toList == (strOfNums ((xs.take (p + k + 1)).drop p)).toList)) then (some (0, 0, false)) else (some (n, ((p + k + 1 : Nat) : Int), true)))) = some (if (venc 10 V).length = k + 1 ∧ V = U + 128 ^ k * b then (unzig V, ((p + k + 1 : Nat) : Int), true) else (0, 0, false)) := by
    rintro n rfl
    rw [sNumBytes_eq _ hl.1 hl.2, hu, Option.bind_some, hs, strOf_eq _ _ (venc_bytes 10 V) hsb]
    by_cases hh : venc 10 V = pad k (U + 128 ^ k * b)
    · rw [if_pos ((venc_is_pad k V _ hV).1 hh)]; simp [hh]
    · rw [if_neg (fun h => hh ((venc_is_pad k V _ hV).2 h))]; simp [hh]
  rw [cdp (by omega), cdp (by omega), cdn (by omega), cdn (by omega), e22, em, ev25, Int.toNat_natCast, Int.toNat_natCast]
  by_cases ho : V % 2 = 1
  · rw [cep (by omega), cdp (by omega), w64 (by omega) (by omega)]
    exact key _ (by unfold unzig; rw [if_pos ho])
  · rw [cen (by omega), cdp (by omega)]
    exact key _ (by unfold unzig; rw [if_neg ho])
omit hx in
theorem iStops (m hi : Nat) (hhi : p + k < hi) (hhi2 : hi ≤ xs.length) : I.NumRead_l0 (m + 1) (fun a b c => some (a, b, c)) (some (0, 0, false)) (p : Int) ((U % 18446744073709551616 : Nat) : Int) (p : Int) (hi : Int) ((hi : Int) - (p : Int)) (k : Int) xs = some (stops p k b U) := by
  have hq := pow_le k hk
  have hV : (U + 128 ^ k * b) % 18446744073709551616 < 18446744073709551616 := Nat.mod_lt _ (by decide)
  have e21 : IntKind.u64.wrap (IntKind.u64.wrap (Go.bits .and .u8 (b : Int) 127) * (2 : Int) ^ (min (Int.toNat (IntKind.i64.wrap (7 * (k : Int)))) (IntKind.bits .u64))) = ((128 ^ k * b % 18446744073709551616 : Nat) : Int) := by
    rw [shl7 k hk, and127 _ (by omega) (by omega), show IntKind.u64.wrap ((b : Int) % 128) = (b : Int) from by rw [u64_mod]; omega, ← Int.natCast_mul, Nat.mul_comm, u64_mod]
    omega
  have e22 : Go.bits .or .u64 ((U % 18446744073709551616 : Nat) : Int) ((128 ^ k * b % 18446744073709551616 : Nat) : Int) = (((U + 128 ^ k * b) % 18446744073709551616 : Nat) : Int) := by
    rw [bits_or_u64_nat _ _ (Nat.mod_lt _ (by decide)) (Nat.mod_lt _ (by decide)), Nat.mod_eq_of_lt (show U < 18446744073709551616 from by omega), or_lem k U b hk hU]
  have hW : (U + 128 ^ k * b) % 18446744073709551616 = U + 128 ^ k * b ↔ (k = 9 → b ≤ 1) := by
    rw [show ((U + 128 ^ k * b) % 18446744073709551616 = U + 128 ^ k * b) ↔ (U + 128 ^ k * b < 18446744073709551616) from by omega]
    by_cases h9 : k = 9
    · subst h9
      have : (128 : Nat) ^ 9 = 9223372036854775808 := by decide
      rw [this] at hU ⊢
      omega
    · have h8 : 128 ^ k ≤ 72057594037927936 := by
        have key : ∀ m : Fin 9, 128 ^ m.val ≤ 72057594037927936 := by decide +kernel
        exact key ⟨k, by omega⟩
      have : 128 ^ k * b ≤ 72057594037927936 * 127 := Nat.mul_le_mul h8 (by omega)
      constructor
      · intro _ h; exact absurd h h9
      · intro _; omega
  unfold stops
  rw [I.NumRead_l0, cdp (by omega), cdp (by omega), show (p : Int) + (k : Int) = ((p + k : Nat) : Int) from by omega, hb]
  simp only [e21, e22]
  generalize hVV : (U + 128 ^ k * b) % 18446744073709551616 = V at *
  have hu := unzig_zig V
  have hl := unzig_le V hV
  have e30 : Go.bits .xor .i64 (IntKind.i64.wrap (Int.fdiv (V : Int) (2 ^ min (Int.toNat 1) (IntKind.bits .u64)))) (IntKind.i64.wrap (0 - (IntKind.i64.wrap (Go.bits .and .u64 (V : Int) 1)))) = unzig V := by
    rw [and_one V hV, show (2 : Int) ^ min (Int.toNat 1) (IntKind.bits .u64) = 2 from by decide, Int.fdiv_eq_ediv_of_nonneg _ (by omega), w64 (by omega) (by omega), w64 (n := ((V % 2 : Nat) : Int)) (by omega) (by omega), w64 (by omega) (by omega)]
    unfold unzig
    by_cases ho : V % 2 = 1
    · rw [ho, if_pos rfl, show (0 : Int) - ((1 : Nat) : Int) = -1 from by decide, xor_i64_ones _ (by omega) (by omega)]; omega
    · rw [show V % 2 = 0 from by omega, if_neg (by omega), show (0 : Int) - ((0 : Nat) : Int) = 0 from by decide, xor_i64_zero _ (by omega) (by omega)]; omega
  rw [e30, iNumBytes_eq _ hl.1 hl.2, hu, Option.bind_some, cdp (by rw [w64 (by omega) (by omega)]; omega), cdn (by omega), cdp (by omega), w64 (n := (k : Int) + 1) (by omega) (by omega), w64 (n := ((p + k : Nat) : Int)) (by omega) (by omega), w64 (by omega) (by omega), show ((p + k : Nat) : Int) + 1 = ((p + k + 1 : Nat) : Int) from by omega]
  by_cases hlen : (venc 10 V).length = k + 1
  · rw [cnn (by omega)]
    by_cases h9 : k = 9
    · rw [cep (by omega)]
      by_cases hb1 : b ≤ 1
      · rw [cdn (by omega), if_pos ⟨hlen, hW.2 fun _ => hb1⟩]
      · rw [cdp (by omega), if_neg (fun h => hb1 (hW.1 h.2 h9))]
    · rw [cen (by omega), if_pos ⟨hlen, hW.2 fun h => absurd h h9⟩]
  · rw [cnp (by omega), if_neg (fun h => hlen h.1)]
end
theorem read_l (xs : List Int) (hx : ∀ x ∈ xs, 0 ≤ x ∧ x < 256) (hn : xs.length ≤ 1000000000) (p hi : Nat) (hhi : hi = min (p + 10) xs.length) (m m' d : Nat) : ∀ k U : Nat, hi - (p + k) = d → p + k ≤ hi → U < 128 ^ k → (xs.drop p).take k = cont k U →
    ∃ r, S.NumRead_l0 (d + 1 + m) (fun a b c => some (a, b, c)) (some (0, 0, false)) (p : Int) ((U % 18446744073709551616 : Nat) : Int) ((128 ^ k % 18446744073709551616 : Nat) : Int) ((p + k : Nat) : Int) xs = some r ∧
      I.NumRead_l0 (d + 1 + m') (fun a b c => some (a, b, c)) (some (0, 0, false)) (p : Int) ((U % 18446744073709551616 : Nat) : Int) (p : Int) (hi : Int) ((hi : Int) - (p : Int)) (k : Int) xs = some r := by
  induction d with
  | zero =>
    intro k U hd hk hU hc
    refine ⟨(0, 0, false), ?_, ?_⟩
    · rw [show 0 + 1 + m = m + 1 from by omega, S.NumRead_l0]
      by_cases h : p + k < xs.length
      · rw [cdp (by omega), w64 (by omega) (by omega), cdn (by omega)]
      · rw [cdn (by omega)]
    · rw [show 0 + 1 + m' = m' + 1 from by omega, I.NumRead_l0, cdn (by omega)]
  | succ d ih =>
    intro k U hd hk hU hc
    have hp : p + k < xs.length := by omega
    have hk9 : k ≤ 9 := by omega
    have hm : nthI xs ((p + k : Nat) : Int) 0 ∈ xs := by
      rw [nthI_nat, List.getD_eq_getElem?_getD, List.getElem?_eq_getElem hp]; simp
    obtain ⟨b, hb⟩ := Int.eq_ofNat_of_zero_le (hx _ hm).1
    have hb256 : b < 256 := by have := (hx _ hm).2; omega
    rw [show d + 1 + 1 + m = (d + 1 + m) + 1 from by omega, show d + 1 + 1 + m' = (d + 1 + m') + 1 from by omega]
    by_cases hb2 : b < 128
    · exact ⟨_, sStops xs hx hn p k U b hk9 hp hU hc hb hb2 _, iStops xs hn p k U b hk9 hp hU hc hb hb2 _ hi (by omega) (by omega)⟩
    · have hq := pow_le k hk9
      obtain ⟨c, rfl⟩ : ∃ c, b = 128 + c := ⟨b - 128, by omega⟩
      have hc2 : c < 128 := by omega
      have hle : 128 ^ k * c ≤ 128 ^ k * 127 := Nat.mul_le_mul_left _ (by omega)
      obtain ⟨r, h1, h2⟩ := ih (k + 1) (U + 128 ^ k * c) (by omega) (by omega) (by rw [Nat.pow_succ]; omega) (by rw [take_next xs p k hp, hc, hb, cont_next k U c hU hc2])
      refine ⟨r, ?_, ?_⟩
      · rw [S.NumRead_l0, cdp (by omega), w64 (n := (p : Int) + 10) (by omega) (by omega), cdp (by omega), cdp (by omega), cdn (by omega), hb]
        have e18 : IntKind.u64.wrap (((U % 18446744073709551616 : Nat) : Int) + IntKind.u64.wrap (((128 ^ k % 18446744073709551616 : Nat) : Int) * IntKind.u64.wrap (((128 + c : Nat) : Int).tmod 128))) = (((U + 128 ^ k * c) % 18446744073709551616 : Nat) : Int) := by
          rw [tmod_nat _ _ (by omega), show IntKind.u64.wrap (((128 + c : Nat) : Int) % 128) = (c : Int) from by rw [u64_mod]; omega, ← Int.natCast_mul, Nat.mod_eq_of_lt (show 128 ^ k < 18446744073709551616 from by omega), u64_mod, u64_mod]
          generalize 128 ^ k * c = Y
          omega
        have e128 : IntKind.u64.wrap (((128 ^ k % 18446744073709551616 : Nat) : Int) * 128) = ((128 ^ (k + 1) % 18446744073709551616 : Nat) : Int) := by
          rw [u64_mod, Nat.pow_succ]
          generalize 128 ^ k = Y
          omega
        simp only [e18, e128]
        rw [cdp (by omega), cdn (by omega), w64 (by omega) (by omega), show (((p + k : Nat) : Int) + 1) = ((p + (k + 1) : Nat) : Int) from by omega]
        exact h1
      · have e21 : IntKind.u64.wrap (IntKind.u64.wrap (Go.bits .and .u8 ((128 + c : Nat) : Int) 127) * (2 : Int) ^ (min (Int.toNat (IntKind.i64.wrap (7 * (k : Int)))) (IntKind.bits .u64))) = ((128 ^ k * c % 18446744073709551616 : Nat) : Int) := by
          rw [shl7 k hk9, and127 _ (by omega) (by omega), show IntKind.u64.wrap (((128 + c : Nat) : Int) % 128) = (c : Int) from by rw [u64_mod]; omega, ← Int.natCast_mul, Nat.mul_comm, u64_mod]
          omega
        have e22 : Go.bits .or .u64 ((U % 18446744073709551616 : Nat) : Int) ((128 ^ k * c % 18446744073709551616 : Nat) : Int) = (((U + 128 ^ k * c) % 18446744073709551616 : Nat) : Int) := by
          rw [bits_or_u64_nat _ _ (Nat.mod_lt _ (by decide)) (Nat.mod_lt _ (by decide)), Nat.mod_eq_of_lt (show U < 18446744073709551616 from by omega), or_lem k U c hk9 hU]
        rw [I.NumRead_l0, cdp (by omega), cdp (by omega), show (p : Int) + (k : Int) = ((p + k : Nat) : Int) from by omega, hb]
        simp only [e21, e22]
        rw [cdp (by rw [w64 (by omega) (by omega)]; omega), cdp (by omega), w64 (by omega) (by omega), show (k : Int) + 1 = ((k + 1 : Nat) : Int) from by omega]
        exact h2
theorem in_eq (a b c : Int) : I.in a b c = some (decide (b ≤ a ∧ a ≤ c)) := by unfold I.in; rw [cond_some, cond_and, dand]
/-- Both read the same. -/
theorem NumRead_eq (xs : List Int) (hx : ∀ x ∈ xs, 0 ≤ x ∧ x < 256) (hn : xs.length ≤ 1000000000) (a : Int) (h0 : -9223372036854775808 ≤ a) (h1 : a < 9223372036854775808) : ∃ r, S.NumRead a xs = some r ∧ I.NumRead a xs = some r := by
  unfold S.NumRead I.NumRead
  rw [in_eq, w64 (n := (xs.length : Int) - 1) (by omega) (by omega), Option.bind_some]
  by_cases ha : a < 0
  · refine ⟨(0, 0, false), by rw [cdp ha], ?_⟩
    rw [decide_eq_false (by omega)]; rfl
  · rw [cdn ha]
    by_cases hb : (xs.length : Int) ≤ a
    · refine ⟨(0, 0, false), by rw [cdp hb], ?_⟩
      rw [decide_eq_false (by omega)]; rfl
    · obtain ⟨p, rfl⟩ := Int.eq_ofNat_of_zero_le (show 0 ≤ a from by omega)
      obtain ⟨m, hm⟩ := fu_ge (min (p + 10) xs.length - (p + 0)) (by omega)
      rw [cdn hb, decide_eq_true (by omega)]
      simp only [Bool.not_true, cond_false]
      rw [w64 (by omega) (by omega), show (if (p : Int) + 10 < (xs.length : Int) then (p : Int) + 10 else (xs.length : Int)) = ((min (p + 10) xs.length : Nat) : Int) from by split <;> omega, cdp (by omega), hm]
      exact read_l xs hx hn p _ rfl m m _ 0 0 rfl (by omega) (by simp) (by simp [cont])
theorem FnExactNumRead : StmtFnExactNumRead.Stmt := by
  intro xs a hxs ha
  have h := i64_wf ha
  have hx : ∀ x ∈ xs, 0 ≤ x ∧ x < 256 := fun x hx => u8_wf (hxs.2 x hx)
  unfold L.FnExactNumRead
  by_cases hl : 1048576 < (xs.length : Int)
  · rw [cdp hl]
  · obtain ⟨r, h1, h2⟩ := NumRead_eq xs hx (by omega) a h.1 h.2
    have heq := eqByteS_eq xs xs (by omega)
    rw [decide_eq_true (rfl : xs = xs)] at heq
    rw [cdn hl, toByteS_eq xs (by omega), Option.bind_some, h1, Option.bind_some, Option.bind_some, h2, Option.bind_some, Option.bind_some, heq, Option.bind_some]
    simp
end Go.Proofs.Ytpfjklmobjjgpaa.Pure
