/- BothOf of the program returns what the reference's returns. For every argument. -/
import Derived.Test.YthddkomphkanbaaStmtFnExactBothOf
import Derived.Laws.BitsLemmas
import Derived.Laws.BitsAllLaws
import Derived.Laws.Bits64b
namespace Go.Proofs.Ythddkomphkanbaa.Pure
open Go Go.RowKit Go.Proofs.Ythddkomphkanbaa.Run Go.Proofs.Ythddkomphkanbaa.StmtFnExactBothOf Go.Proofs.YthddkomphkanbaaW.PrintWords Go.Proofs.Ythddkomphkanbaa.Vm
set_option linter.unusedVariables false
set_option linter.unusedSimpArgs false
set_option linter.unusedSectionVars false
/-! General words -/
theorem cdp {α : Type} {p : Prop} [Decidable p] {a b : α} (h : p) : (bif decide p then a else b) = a := by simp [h]
theorem cdn {α : Type} {p : Prop} [Decidable p] {a b : α} (h : ¬ p) : (bif decide p then a else b) = b := by simp [h]
theorem cnp {α : Type} {x y : Int} {a b : α} (h : x ≠ y) : (bif (x != y) then a else b) = a := by rw [show (x != y) = true from by simpa using h]; rfl
theorem cnn {α : Type} {x y : Int} {a b : α} (h : x = y) : (bif (x != y) then a else b) = b := by simp [bne, h]
theorem cep {α : Type} {x y : Int} {a b : α} (h : x = y) : (bif (x == y) then a else b) = a := by simp [h]
theorem cen {α : Type} {x y : Int} {a b : α} (h : x ≠ y) : (bif (x == y) then a else b) = b := by rw [show (x == y) = false from by simpa using h]; rfl
theorem cond_some {α : Type} (c : Bool) (x y : α) : (bif c then some x else some y) = some (bif c then x else y) := by cases c <;> rfl
theorem cond_and (c x : Bool) : (bif c then x else false) = (c && x) := by cases c <;> rfl
theorem dand (p q : Prop) [Decidable p] [Decidable q] : (decide p && decide q) = decide (p ∧ q) := by by_cases p <;> by_cases q <;> simp_all
theorem w64 {n : Int} (h0 : -9223372036854775808 ≤ n) (h1 : n < 9223372036854775808) : IntKind.i64.wrap n = n := by rw [IntKind.wrap_i64]; omega
theorem u64_mod (n : Int) : IntKind.u64.wrap n = n % 18446744073709551616 := by simp [IntKind.wrap, IntKind.bits, IntKind.signed]
theorem u64w {n : Int} (h0 : 0 ≤ n) (h1 : n < 18446744073709551616) : IntKind.u64.wrap n = n := by rw [u64_mod]; omega
theorem u8_mod (n : Int) : IntKind.u8.wrap n = n % 256 := by simp [IntKind.wrap, IntKind.bits, IntKind.signed]
theorem i64_wf {n : Int} (h : (Lit.int .i64 n).wf = true) : -9223372036854775808 ≤ n ∧ n < 9223372036854775808 := by
  simp only [Lit.wf, IntKind.min, IntKind.max, IntKind.signed, IntKind.bits, Bool.and_eq_true, decide_eq_true_eq, if_true] at h
  omega
theorem u8_wf {n : Int} (h : (Lit.int .u8 n).wf = true) : 0 ≤ n ∧ n < 256 := by
  simp [Lit.wf, IntKind.min, IntKind.max, IntKind.signed, IntKind.bits, Bool.and_eq_true] at h
  omega
theorem tmod_nat (n : Int) (m : Int) (h : 0 ≤ n) : Int.tmod n m = n % m := Int.tmod_eq_emod_of_nonneg h
theorem tdiv_nat (n : Int) (m : Int) (h : 0 ≤ n) : Int.tdiv n m = n / m := Int.tdiv_eq_ediv_of_nonneg h
theorem bits_or_128 (x : Int) (h0 : 0 ≤ x) (h1 : x < 256) : Go.bits .or .u8 x 128 = 128 + x % 128 := by
  obtain ⟨n, rfl⟩ := Int.eq_ofNat_of_zero_le h0
  have hn : n < 256 := by omega
  have key : ∀ m : Fin 256, Go.bits .or .u8 ((m.val : Nat) : Int) 128 = 128 + ((m.val : Nat) : Int) % 128 := by decide +kernel
  exact key ⟨n, hn⟩
theorem bits_xor_zero (x : Int) (h0 : 0 ≤ x) (h1 : x < 18446744073709551616) : Go.bits .xor .u64 x 0 = x := by
  obtain ⟨n, rfl⟩ := Int.eq_ofNat_of_zero_le h0
  have hn : n < 18446744073709551616 := by omega
  show IntKind.u64.wrap (((BitVec.ofInt 64 ((n : Nat) : Int)) ^^^ (BitVec.ofInt 64 0)).toNat : Int) = n
  have e : (BitVec.ofInt 64 0) = 0#64 := by decide
  rw [e, BitVec.xor_zero, BitVec.ofInt_natCast, BitVec.toNat_ofNat, u64_mod]
  omega
theorem bits_xor_ones (x : Int) (h0 : 0 ≤ x) (h1 : x < 18446744073709551616) : Go.bits .xor .u64 x 18446744073709551615 = 18446744073709551615 - x := by
  obtain ⟨n, rfl⟩ := Int.eq_ofNat_of_zero_le h0
  have hn : n < 18446744073709551616 := by omega
  show IntKind.u64.wrap (((BitVec.ofInt 64 ((n : Nat) : Int)) ^^^ (BitVec.ofInt 64 18446744073709551615)).toNat : Int) = 18446744073709551615 - n
  have e : (BitVec.ofInt 64 18446744073709551615) = BitVec.allOnes 64 := by decide
  rw [e, BitVec.xor_allOnes, BitVec.toNat_not, BitVec.ofInt_natCast, BitVec.toNat_ofNat, u64_mod]
  omega
theorem fu_ge (d : Nat) (h : d ≤ 1000000000000) : ∃ m, fu = d + 1 + m := ⟨fu - d - 1, by rw [fu_eq]; omega⟩
theorem nthI_nat {α : Type} (xs : List α) (i : Nat) (d : α) : nthI xs (i : Int) d = xs.getD i d := rfl
theorem drop_nth (xs : List Int) (i : Nat) (h : i < xs.length) : xs.drop i = nthI xs (i : Int) 0 :: xs.drop (i + 1) := by
  rw [nthI_nat, List.getD_eq_getElem?_getD, List.getElem?_eq_getElem h]; exact List.drop_eq_getElem_cons h
/-! Loops over lists -/
theorem nthI_mem {α : Type} (a : List α) (i : Nat) (d : α) (h : i < a.length) : nthI a (i : Int) d ∈ a := by
  rw [nthI_nat, List.getD_eq_getElem?_getD, List.getElem?_eq_getElem h]; simp
theorem nthI_set {α : Type} (xs : List α) (i : Nat) (y d : α) (h : i < xs.length) : nthI (xs.set i y) (i : Int) d = y := by
  rw [nthI_nat, List.getD_eq_getElem?_getD, List.getElem?_set_self h]; rfl
theorem drop_at {α : Type} (xs : List α) (i : Nat) (d : α) (h : i < xs.length) : xs.drop i = nthI xs (i : Int) d :: xs.drop (i + 1) := by
  rw [nthI_nat, List.getD_eq_getElem?_getD, List.getElem?_eq_getElem h]; exact List.drop_eq_getElem_cons h
theorem cneI {x y : Int} {k : Option Bool} : (bif (x != y) then some false else k) = bif decide (x = y) then k else some false := by
  by_cases h : x = y
  · rw [cnn h, cdp h]
  · rw [cnp h, cdn h]
theorem cneB {x y : Bool} {k : Option Bool} : (bif (!(x == y)) then some false else k) = bif decide (x = y) then k else some false := by
  cases x <;> cases y <;> rfl
theorem cbeB {x y : Bool} {k : Option Bool} : (bif (x == y) then k else some false) = bif decide (x = y) then k else some false := by cases x <;> cases y <;> rfl
theorem cnotb {r : Bool} {k : Option Bool} : (bif (!r) then some false else k) = bif r then k else some false := by cases r <;> rfl
theorem cds {p q : Prop} [Decidable p] [Decidable q] : (bif decide p then some (decide q) else some false) = some (decide (p ∧ q)) := by
  by_cases p <;> by_cases q <;> simp_all
theorem cdt {p : Prop} [Decidable p] : (bif decide p then some true else some false) = some (decide p) := by by_cases p <;> simp_all
theorem sdec {p q : Prop} [Decidable p] [Decidable q] (h : q ↔ p) : some (decide q) = some (decide p) := congrArg some (decide_eq_decide.mpr h)
theorem sfal {p : Prop} [Decidable p] (h : ¬ p) : some false = some (decide p) := by rw [decide_eq_false h]
theorem stru {p : Prop} [Decidable p] (h : p) : some true = some (decide p) := by rw [decide_eq_true h]
theorem sbool {b : Bool} {p : Prop} [Decidable p] (h : b = true ↔ p) : some b = some (decide p) := by
  by_cases c : p
  · rw [h.2 c, decide_eq_true c]
  · rw [decide_eq_false c, Bool.eq_false_iff.2 fun e => c (h.1 e)]
theorem sum_mem {l : List Nat} {x : Nat} (h : x ∈ l) : x ≤ l.sum := by
  induction l with
  | nil => cases h
  | cons y l ih =>
    rw [List.sum_cons]
    rcases List.mem_cons.1 h with rfl | h
    · omega
    · have := ih h; omega
theorem toLoop {α : Type} (F : Nat → Int → List α → Option (List α)) (a : List α) (d : α) (hn : a.length ≤ 1000000000000)
    (hs : ∀ (i m : Nat) (xs : List α), i < a.length → xs.length = a.length → F (m + 1) (i : Int) xs = F m ((i + 1 : Nat) : Int) (xs.set i (nthI a (i : Int) d)))
    (he : ∀ (m : Nat) (xs : List α), F (m + 1) (a.length : Int) xs = some xs) (xs : List α) (hx : xs.length = a.length) : F fu 0 xs = some a := by
  obtain ⟨M, hM⟩ := fu_ge a.length hn
  have h1 : ∀ k i : Nat, ∀ xs : List α, xs.length = a.length → i ≤ a.length → a.length - i = k → xs.take i = a.take i → F (k + 1 + M) (i : Int) xs = some a := by
    intro k
    induction k with
    | zero =>
      intro i xs hx hi hd ht
      obtain rfl : i = a.length := by omega
      rw [List.take_of_length_le (by omega), List.take_of_length_le (by omega)] at ht
      subst ht
      rw [show 0 + 1 + M = M + 1 from by omega]
      exact he M xs
    | succ k ih =>
      intro i xs hx hi hd ht
      have hi2 : i < a.length := by omega
      rw [show k + 1 + 1 + M = (k + 1 + M) + 1 from by omega, hs i _ xs hi2 hx]
      refine ih (i + 1) _ (by simpa using hx) (by omega) (by omega) ?_
      rw [nthI_nat, List.getD_eq_getElem?_getD, List.getElem?_eq_getElem hi2, Option.getD_some, List.take_add_one, List.take_add_one, List.take_set_of_le (Nat.le_refl i), ht]
      simp [show i < xs.length from by omega, hi2]
  rw [hM]
  exact h1 a.length 0 xs hx (by omega) (by omega) (by simp)
theorem eqLoop {α : Type} [DecidableEq α] (F : Nat → Int → Option Bool) (a b : List α) (d : α) (hl : a.length = b.length) (hn : a.length ≤ 1000000000000)
    (hs : ∀ (i m : Nat), i < a.length → F (m + 1) (i : Int) = bif decide (nthI a (i : Int) d = nthI b (i : Int) d) then F m ((i + 1 : Nat) : Int) else some false)
    (he : ∀ m : Nat, F (m + 1) (a.length : Int) = some true) : F fu 0 = some (decide (a = b)) := by
  obtain ⟨M, hM⟩ := fu_ge a.length hn
  have h1 : ∀ k i : Nat, i ≤ a.length → a.length - i = k → F (k + 1 + M) (i : Int) = some (decide (a.drop i = b.drop i)) := by
    intro k
    induction k with
    | zero =>
      intro i hi hd
      obtain rfl : i = a.length := by omega
      rw [show 0 + 1 + M = M + 1 from by omega, he, List.drop_of_length_le (by omega), List.drop_of_length_le (by omega)]
      simp
    | succ k ih =>
      intro i hi hd
      rw [show k + 1 + 1 + M = (k + 1 + M) + 1 from by omega, hs i _ (by omega), drop_at a i d (by omega), drop_at b i d (by omega), ih (i + 1) (by omega) (by omega)]
      by_cases e : nthI a (i : Int) d = nthI b (i : Int) d
      · rw [cdp e, e]
        generalize nthI b (i : Int) d = x
        simp
      · rw [cdn e]
        generalize nthI b (i : Int) d = x at *
        generalize nthI a (i : Int) d = y at *
        simp [e]
  rw [hM]
  simpa using h1 a.length 0 (by omega) (by omega)
theorem eqTop {α : Type} [DecidableEq α] (a b : List α) {k : Option Bool} (h : a.length = b.length → k = some (decide (a = b))) : (bif ((a.length : Int) != (b.length : Int)) then some false else k) = some (decide (a = b)) := by
  by_cases e : a.length = b.length
  · rw [cnn (by omega), h e]
  · rw [cnp (by omega), decide_eq_false (fun h => e (by rw [h]))]
theorem szLoop {α : Type} (F : Nat → Int → Int → Option Int) (a : List α) (d : α) (c : α → Nat) (hn : a.length ≤ 1000000000000)
    (hs : ∀ (i m : Nat) (l : Int), i < a.length → 0 ≤ l → l ≤ 1000000000000 → F (m + 1) l (i : Int) = if (c (nthI a (i : Int) d) : Int) ≤ l then F m (l - (c (nthI a (i : Int) d) : Int)) ((i + 1 : Nat) : Int) else some (-1))
    (he : ∀ (m : Nat) (l : Int), F (m + 1) l (a.length : Int) = some l) (l : Int) (h0 : 0 ≤ l) (h1 : l ≤ 1000000000000) : F fu l 0 = some (if (((a.map c).sum : Nat) : Int) ≤ l then l - (((a.map c).sum : Nat) : Int) else -1) := by
  obtain ⟨M, hM⟩ := fu_ge a.length hn
  have h2 : ∀ k i : Nat, ∀ l : Int, 0 ≤ l → l ≤ 1000000000000 → i ≤ a.length → a.length - i = k → F (k + 1 + M) l (i : Int) = some (if ((((a.drop i).map c).sum : Nat) : Int) ≤ l then l - ((((a.drop i).map c).sum : Nat) : Int) else -1) := by
    intro k
    induction k with
    | zero =>
      intro i l h0 h1 hi hd
      obtain rfl : i = a.length := by omega
      rw [show 0 + 1 + M = M + 1 from by omega, he, List.drop_of_length_le (by omega)]
      simp [h0]
    | succ k ih =>
      intro i l h0 h1 hi hd
      rw [show k + 1 + 1 + M = (k + 1 + M) + 1 from by omega, hs i _ l (by omega) h0 h1, drop_at a i d (by omega), List.map_cons, List.sum_cons]
      by_cases e : (c (nthI a (i : Int) d) : Int) ≤ l
      · rw [if_pos e, ih (i + 1) _ (by omega) (by omega) (by omega) (by omega)]
        congr 1
        split <;> split <;> omega
      · rw [if_neg e, if_neg (by omega)]
  rw [hM]
  simpa using h2 a.length 0 l h0 h1 (by omega) (by omega)
/-! Marking -/
def markAll {α : Type} (m1 : Int → α → α) (w1 : α → Nat) : Int → List α → List α
  | _, [] => []
  | k, x :: xs => m1 k x :: markAll m1 w1 (k + (w1 x : Int)) xs
theorem markAll_length {α : Type} (m1 : Int → α → α) (w1 : α → Nat) : ∀ (a : List α) (k : Int), (markAll m1 w1 k a).length = a.length
  | [], _ => rfl
  | x :: xs, k => by simp [markAll, markAll_length m1 w1 xs]
theorem sum_const {α : Type} (w : α → Nat) (a : List α) (n : Nat) (h : ∀ x, w x = n) : (a.map w).sum = n * a.length := by
  induction a with
  | nil => simp
  | cons x xs ih => simp [h x, ih, Nat.mul_add]; omega
theorem cmod3 : decide ((3 : Int) = 0) = false := rfl
theorem markLoop {α : Type} (F : Nat → Int → Int → List α → Option (Int × List α)) (m1 : Int → α → α) (w1 : α → Nat) (a : List α) (d : α) (nl : Nat) (hw : ∀ x, w1 x = nl) {k : Int} (h0 : 0 ≤ k) (hn : a.length ≤ 1000000000000) (hc : k + (nl : Int) * (a.length : Int) ≤ 1000000000000)
    (hs : ∀ (i m : Nat) (k : Int) (xs : List α), i < a.length → xs.length = a.length → 0 ≤ k → k + (nl : Int) ≤ 1000000000000 → F (m + 1) k (i : Int) xs = F m (k + (nl : Int)) ((i + 1 : Nat) : Int) (xs.set i (m1 k (nthI xs (i : Int) d))))
    (he : ∀ (m : Nat) (k : Int) (xs : List α), xs.length = a.length → F (m + 1) k (a.length : Int) xs = some (k, xs)) : F fu k 0 a = some (k + (nl : Int) * (a.length : Int), markAll m1 w1 k a) := by
  obtain ⟨M, hM⟩ := fu_ge a.length hn
  have h1 : ∀ q i : Nat, ∀ (k : Int) (xs : List α), xs.length = a.length → i ≤ a.length → a.length - i = q → 0 ≤ k → k + (nl : Int) * (q : Int) ≤ 1000000000000 → F (q + 1 + M) k (i : Int) xs = some (k + (nl : Int) * (q : Int), xs.take i ++ markAll m1 w1 k (xs.drop i)) := by
    intro q
    induction q with
    | zero =>
      intro i k xs hx hi hd h0 hc
      obtain rfl : i = a.length := by omega
      rw [show 0 + 1 + M = M + 1 from by omega, he _ _ _ hx, List.take_of_length_le (by omega), List.drop_of_length_le (by omega)]
      simp [markAll]
    | succ q ih =>
      intro i k xs hx hi hd h0 hc
      have e : (nl : Int) * ((q + 1 : Nat) : Int) = (nl : Int) * (q : Int) + nl := by rw [Int.natCast_add, Int.mul_add]; simp
      have hq : 0 ≤ (nl : Int) * (q : Int) := Int.mul_nonneg (by omega) (by omega)
      rw [e] at hc ⊢
      rw [show q + 1 + 1 + M = (q + 1 + M) + 1 from by omega, hs i _ k xs (by omega) hx h0 (by omega), ih (i + 1) _ _ (by simpa using hx) (by omega) (by omega) (by omega) (by omega), drop_at xs i d (by omega), markAll, hw]
      have hi2 : i < xs.length := by omega
      rw [List.take_add_one, List.getElem?_set_self hi2, List.take_set_of_le (Nat.le_refl i), List.drop_set_of_lt (by omega)]
      simp
      omega
  rw [hM]
  have := h1 a.length 0 k a rfl (by omega) (by omega) h0 hc
  simpa using this
theorem markAll_nth {α : Type} (m1 : Int → α → α) (w1 : α → Nat) (nl : Nat) (hw : ∀ x, w1 x = nl) (d : α) : ∀ (a : List α) (k : Int) (i : Nat), i < a.length → nthI (markAll m1 w1 k a) (i : Int) d = m1 (k + (nl : Int) * (i : Int)) (nthI a (i : Int) d)
  | [], _, i, h => by simp at h
  | x :: xs, k, 0, _ => by simp [markAll, nthI]
  | x :: xs, k, i + 1, h => by
    have := markAll_nth m1 w1 nl hw d xs (k + (w1 x : Int)) i (by simpa using h)
    rw [nthI_nat, nthI_nat] at this ⊢
    rw [markAll, List.getD_cons_succ, List.getD_cons_succ, this, hw, Int.natCast_add, Int.mul_add]
    congr 1
    omega
theorem heldLoop {α : Type} (F : Nat → Int → Int → Option Int) (m1 : Int → α → α) (w1 : α → Nat) (a : List α) (d : α) (nl : Nat) (hw : ∀ x, w1 x = nl) (k : Int) (h0 : 0 ≤ k) (hn : a.length ≤ 1000000000000) (hc : k + (nl : Int) * (a.length : Int) ≤ 1000000000000)
    (hs : ∀ (i m : Nat) (j : Int), i < a.length → 0 ≤ j → j + (nl : Int) ≤ 1000000000000 → nthI (markAll m1 w1 k a) (i : Int) d = m1 j (nthI a (i : Int) d) → F (m + 1) j (i : Int) = F m (j + (nl : Int)) ((i + 1 : Nat) : Int))
    (he : ∀ (m : Nat) (j : Int), F (m + 1) j (a.length : Int) = some j) : F fu k 0 = some (k + (nl : Int) * (a.length : Int)) := by
  obtain ⟨M, hM⟩ := fu_ge a.length hn
  have h1 : ∀ q i : Nat, i ≤ a.length → a.length - i = q → F (q + 1 + M) (k + (nl : Int) * (i : Int)) (i : Int) = some (k + (nl : Int) * (a.length : Int)) := by
    intro q
    induction q with
    | zero =>
      intro i hi hd
      obtain rfl : i = a.length := by omega
      rw [show 0 + 1 + M = M + 1 from by omega, he]
    | succ q ih =>
      intro i hi hd
      have e : (nl : Int) * ((i + 1 : Nat) : Int) = (nl : Int) * (i : Int) + nl := by rw [Int.natCast_add, Int.mul_add]; simp
      have hq : 0 ≤ (nl : Int) * (i : Int) := Int.mul_nonneg (by omega) (by omega)
      have hle : (nl : Int) * ((i + 1 : Nat) : Int) ≤ (nl : Int) * (a.length : Int) := Int.mul_le_mul_of_nonneg_left (by omega) (by omega)
      rw [show q + 1 + 1 + M = (q + 1 + M) + 1 from by omega, hs i _ _ (by omega) (by omega) (by omega) (markAll_nth m1 w1 nl hw d a k i (by omega))]
      have := ih (i + 1) (by omega) (by omega)
      rw [e] at this
      rw [show k + (nl : Int) * (i : Int) + (nl : Int) = k + ((nl : Int) * (i : Int) + (nl : Int)) from by omega]
      exact this
  rw [hM]
  have := h1 a.length 0 (by omega) (by omega)
  simpa using this
/-! A loop that asks something of each element -/
theorem allLoop (F : Nat → Int → Option Bool) (n : Nat) (p : Nat → Prop) [DecidablePred p] (e : Bool) (hn : n ≤ 1000000000000)
    (hs : ∀ (i m : Nat), i < n → F (m + 1) (i : Int) = bif decide (p i) then F m ((i + 1 : Nat) : Int) else some false)
    (he : ∀ m : Nat, F (m + 1) (n : Int) = some e) : F fu 0 = some (decide (∀ j, j < n → p j) && e) := by
  obtain ⟨M, hM⟩ := fu_ge n hn
  have h1 : ∀ k i : Nat, i + k = n → (∀ j, j < i → p j) → F (k + 1 + M) (i : Int) = some (decide (∀ j, j < n → p j) && e) := by
    intro k
    induction k with
    | zero =>
      intro i hi hp
      obtain rfl : i = n := by omega
      rw [show 0 + 1 + M = M + 1 from by omega, he, decide_eq_true hp]
      rfl
    | succ k ih =>
      intro i hi hp
      rw [show k + 1 + 1 + M = (k + 1 + M) + 1 from by omega, hs i _ (by omega)]
      by_cases c : p i
      · rw [cdp c]
        refine ih (i + 1) (by omega) fun j hj => ?_
        rcases Nat.lt_or_ge j i with h | h
        · exact hp j h
        · obtain rfl : j = i := by omega
          exact c
      · rw [cdn c, decide_eq_false fun h => c (h i (by omega))]
        rfl
  rw [hM]
  exact h1 n 0 (by omega) fun j hj => by omega
/-! Comparing -/
def cmpF (a b : Int) : Int := if a < b then -1 else if b < a then 1 else 0
theorem allLoopK (F : Nat → Int → Option Bool) (n : Nat) (p : Nat → Prop) [DecidablePred p] (E : Option Bool) (hn : n ≤ 1000000000000)
    (hs : ∀ (i m : Nat), i < n → F (m + 1) (i : Int) = bif decide (p i) then F m ((i + 1 : Nat) : Int) else some false)
    (he : ∀ m : Nat, F (m + 1) (n : Int) = E) : F fu 0 = if ∀ j, j < n → p j then E else some false := by
  obtain ⟨M, hM⟩ := fu_ge n hn
  have h1 : ∀ k i : Nat, i + k = n → (∀ j, j < i → p j) → F (k + 1 + M) (i : Int) = if ∀ j, j < n → p j then E else some false := by
    intro k
    induction k with
    | zero =>
      intro i hi hp
      obtain rfl : i = n := by omega
      rw [show 0 + 1 + M = M + 1 from by omega, he, if_pos hp]
    | succ k ih =>
      intro i hi hp
      rw [show k + 1 + 1 + M = (k + 1 + M) + 1 from by omega, hs i _ (by omega)]
      by_cases c : p i
      · rw [cdp c]
        refine ih (i + 1) (by omega) fun j hj => ?_
        rcases Nat.lt_or_ge j i with h | h
        · exact hp j h
        · obtain rfl : j = i := by omega
          exact c
      · rw [cdn c, if_neg fun h => c (h i (by omega))]
  rw [hM]
  exact h1 n 0 (by omega) fun j hj => by omega
/-! Marking, elements of any weight -/
theorem dlt0 {x : Int} (h : 0 ≤ x) : decide (x < 0) = false := decide_eq_false (by omega)
theorem markLoopW {α : Type} (F : Nat → Int → Int → List α → Option (Int × List α)) (m1 : Int → α → α) (w1 : α → Nat) (a : List α) (d : α) {k : Int} (h0 : 0 ≤ k) (hn : a.length ≤ 1000000000000) (hc : k + (((a.map w1).sum : Nat) : Int) ≤ 1000000000000)
    (hs : ∀ (i m : Nat) (k : Int) (xs : List α), i < a.length → xs.length = a.length → 0 ≤ k → k + ((w1 (nthI xs (i : Int) d) : Nat) : Int) ≤ 1000000000000 → F (m + 1) k (i : Int) xs = F m (k + ((w1 (nthI xs (i : Int) d) : Nat) : Int)) ((i + 1 : Nat) : Int) (xs.set i (m1 k (nthI xs (i : Int) d))))
    (he : ∀ (m : Nat) (k : Int) (xs : List α), xs.length = a.length → F (m + 1) k (a.length : Int) xs = some (k, xs)) : F fu k 0 a = some (k + (((a.map w1).sum : Nat) : Int), markAll m1 w1 k a) := by
  obtain ⟨M, hM⟩ := fu_ge a.length hn
  have h1 : ∀ q i : Nat, ∀ (k : Int) (xs : List α), xs.length = a.length → i ≤ a.length → a.length - i = q → 0 ≤ k → k + ((((xs.drop i).map w1).sum : Nat) : Int) ≤ 1000000000000 → F (q + 1 + M) k (i : Int) xs = some (k + ((((xs.drop i).map w1).sum : Nat) : Int), xs.take i ++ markAll m1 w1 k (xs.drop i)) := by
    intro q
    induction q with
    | zero =>
      intro i k xs hx hi hd h0 hc
      obtain rfl : i = a.length := by omega
      rw [show 0 + 1 + M = M + 1 from by omega, he _ _ _ hx, List.take_of_length_le (by omega), List.drop_of_length_le (by omega)]
      simp [markAll]
    | succ q ih =>
      intro i k xs hx hi hd h0 hc
      have hi2 : i < xs.length := by omega
      rw [drop_at xs i d hi2, List.map_cons, List.sum_cons] at hc ⊢
      rw [show q + 1 + 1 + M = (q + 1 + M) + 1 from by omega, hs i _ k xs (by omega) hx h0 (by omega)]
      have e : (xs.set i (m1 k (nthI xs (i : Int) d))).drop (i + 1) = xs.drop (i + 1) := List.drop_set_of_lt (by omega)
      rw [ih (i + 1) _ _ (by simpa using hx) (by omega) (by omega) (by omega) (by rw [e]; omega), e, markAll]
      rw [List.take_add_one, List.getElem?_set_self hi2, List.take_set_of_le (Nat.le_refl i)]
      simp
      omega
  rw [hM]
  have := h1 a.length 0 k a rfl (by omega) (by omega) h0 hc
  simpa using this
theorem markAll_nthW {α : Type} (m1 : Int → α → α) (w1 : α → Nat) (d : α) : ∀ (a : List α) (k : Int) (i : Nat), i < a.length → nthI (markAll m1 w1 k a) (i : Int) d = m1 (k + ((((a.take i).map w1).sum : Nat) : Int)) (nthI a (i : Int) d)
  | [], _, i, h => by simp at h
  | x :: xs, k, 0, _ => by simp [markAll, nthI]
  | x :: xs, k, i + 1, h => by
    have := markAll_nthW m1 w1 d xs (k + (w1 x : Int)) i (by simpa using h)
    rw [nthI_nat, nthI_nat] at this ⊢
    rw [markAll, List.getD_cons_succ, List.getD_cons_succ, this, List.take_succ_cons, List.map_cons, List.sum_cons]
    congr 1
    omega
theorem sum_take_succ {α : Type} (w1 : α → Nat) (d : α) (a : List α) (i : Nat) (h : i < a.length) : ((a.take (i + 1)).map w1).sum = ((a.take i).map w1).sum + w1 (nthI a (i : Int) d) := by
  rw [List.take_add_one, List.map_append, List.sum_append, nthI_nat, List.getD_eq_getElem?_getD, List.getElem?_eq_getElem h]
  simp
theorem sum_take_le {α : Type} (w1 : α → Nat) (a : List α) (i : Nat) : ((a.take i).map w1).sum ≤ (a.map w1).sum := by
  have : (a.map w1).sum = ((a.take i).map w1).sum + ((a.drop i).map w1).sum := by rw [← List.sum_append, ← List.map_append, List.take_append_drop]
  omega
theorem heldLoopW {α : Type} (F : Nat → Int → Int → Option Int) (m1 : Int → α → α) (w1 : α → Nat) (a : List α) (d : α) (k : Int) (h0 : 0 ≤ k) (hn : a.length ≤ 1000000000000) (hc : k + (((a.map w1).sum : Nat) : Int) ≤ 1000000000000)
    (hs : ∀ (i m : Nat) (j : Int), i < a.length → 0 ≤ j → j + ((w1 (nthI a (i : Int) d) : Nat) : Int) ≤ 1000000000000 → nthI (markAll m1 w1 k a) (i : Int) d = m1 j (nthI a (i : Int) d) → F (m + 1) j (i : Int) = F m (j + ((w1 (nthI a (i : Int) d) : Nat) : Int)) ((i + 1 : Nat) : Int))
    (he : ∀ (m : Nat) (j : Int), F (m + 1) j (a.length : Int) = some j) : F fu k 0 = some (k + (((a.map w1).sum : Nat) : Int)) := by
  obtain ⟨M, hM⟩ := fu_ge a.length hn
  have h1 : ∀ q i : Nat, i ≤ a.length → a.length - i = q → F (q + 1 + M) (k + ((((a.take i).map w1).sum : Nat) : Int)) (i : Int) = some (k + (((a.map w1).sum : Nat) : Int)) := by
    intro q
    induction q with
    | zero =>
      intro i hi hd
      obtain rfl : i = a.length := by omega
      rw [show 0 + 1 + M = M + 1 from by omega, he, List.take_of_length_le (Nat.le_refl _)]
    | succ q ih =>
      intro i hi hd
      have hi2 : i < a.length := by omega
      have e := sum_take_succ w1 d a i hi2
      have hle := sum_take_le w1 a (i + 1)
      rw [show q + 1 + 1 + M = (q + 1 + M) + 1 from by omega, hs i _ _ hi2 (by omega) (by omega) (markAll_nthW m1 w1 d a k i hi2)]
      have := ih (i + 1) (by omega) (by omega)
      rw [e] at this
      rw [show k + ((((a.take i).map w1).sum : Nat) : Int) + ((w1 (nthI a (i : Int) d) : Nat) : Int) = k + ((((a.take i).map w1).sum + w1 (nthI a (i : Int) d) : Nat) : Int) from by omega]
      exact this
  rw [hM]
  have := h1 a.length 0 (by omega) (by omega)
  simpa using this
theorem u64_wf {n : Int} (h : (Lit.int .u64 n).wf = true) : 0 ≤ n ∧ n < 18446744073709551616 := by
  simp [Lit.wf, IntKind.min, IntKind.max, IntKind.signed, IntKind.bits, Bool.and_eq_true] at h
  omega
def bUint64 (x : Int) : Prop := (Lit.int .u64 x).wf = true
theorem szUint64S_eq (left : Int) (a : List Int) (h0 : 0 ≤ left) (h1 : left ≤ 1000000000000) (hm : a.length ≤ maxLen ∧ ∀ x ∈ a, bUint64 x) : L.szUint64S left a = some (if ((a.length : Nat) : Int) ≤ left then left - ((a.length : Nat) : Int) else -1) := by
  have hl : a.length ≤ 9223372036854775807 := hm.1
  unfold L.szUint64S
  simp only []
  rw [w64 (by omega) (by omega)]
  by_cases h : ((a.length : Nat) : Int) ≤ left
  · rw [cdn (by omega), if_pos h]
  · rw [cdp (by omega), if_neg h]
def bInt (x : Int) : Prop := (Lit.int .i64 x).wf = true
abbrev TLat : Type := Int × List Int
instance : DecidableEq TLat := (@instDecidableEqProd _ _ (inferInstance : DecidableEq Int) (inferInstance : DecidableEq (List Int)))
def cLat (x : TLat) : Nat := (x.2).length
def cLatS (a : List TLat) : Nat := a.length + (a.map cLat).sum
theorem cLatS_mem {a : List TLat} {x : TLat} (h : x ∈ a) : cLat x ≤ cLatS a := by
  have := sum_mem (List.mem_map.2 ⟨x, h, rfl⟩ : cLat x ∈ a.map cLat)
  unfold cLatS; omega
def bLat (x : TLat) : Prop := ((Lit.int .i64 x.1).wf = true ∧ (x.2.length ≤ maxLen ∧ ∀ y ∈ x.2, bUint64 y))
theorem szLat_eq (x : TLat) (left : Int) (h0 : 0 ≤ left) (h1 : left ≤ 1000000000000) (hb : bLat x) : L.szLat x.1 left x.2 = some (if (cLat x : Int) ≤ left then left - (cLat x : Int) else -1) := by
  unfold bLat at hb
  unfold L.szLat cLat
  rw [szUint64S_eq _ x.2 (by omega) (by omega) hb.2, Option.bind_some]
  by_cases h0 : (((x.2).length : Nat) : Int) ≤ left
  · first
      | (rw [if_pos h0, cdn (by omega)]; done)
      | (rw [if_pos h0, cdn (by omega), if_pos (by omega)]; congr 1; omega)
  · first | (rw [if_neg h0, cdp (by omega)]; done) | rw [if_neg h0, cdp (by omega), if_neg (by omega)]
theorem szIntS_eq (left : Int) (a : List Int) (h0 : 0 ≤ left) (h1 : left ≤ 1000000000000) (hm : a.length ≤ maxLen ∧ ∀ x ∈ a, bInt x) : L.szIntS left a = some (if ((a.length : Nat) : Int) ≤ left then left - ((a.length : Nat) : Int) else -1) := by
  have hl : a.length ≤ 9223372036854775807 := hm.1
  unfold L.szIntS
  simp only []
  rw [w64 (by omega) (by omega)]
  by_cases h : ((a.length : Nat) : Int) ≤ left
  · rw [cdn (by omega), if_pos h]
  · rw [cdp (by omega), if_neg h]
def bBool (x : Bool) : Prop := True
abbrev TPane : Type := Int × Int × Int × Int × Int × Int × List Int × Bool
instance : DecidableEq TPane := (@instDecidableEqProd _ _ (inferInstance : DecidableEq Int) (@instDecidableEqProd _ _ (inferInstance : DecidableEq Int) (@instDecidableEqProd _ _ (inferInstance : DecidableEq Int) (@instDecidableEqProd _ _ (inferInstance : DecidableEq Int) (@instDecidableEqProd _ _ (inferInstance : DecidableEq Int) (@instDecidableEqProd _ _ (inferInstance : DecidableEq Int) (@instDecidableEqProd _ _ (inferInstance : DecidableEq (List Int)) (inferInstance : DecidableEq Bool))))))))
def cPane (x : TPane) : Nat := (x.2.2.2.2.2.2.1).length
def cPaneS (a : List TPane) : Nat := a.length + (a.map cPane).sum
theorem cPaneS_mem {a : List TPane} {x : TPane} (h : x ∈ a) : cPane x ≤ cPaneS a := by
  have := sum_mem (List.mem_map.2 ⟨x, h, rfl⟩ : cPane x ∈ a.map cPane)
  unfold cPaneS; omega
def bPane (x : TPane) : Prop := ((Lit.int .i64 x.1).wf = true ∧ (Lit.int .i64 x.2.1).wf = true ∧ (Lit.int .i64 x.2.2.1).wf = true ∧ (Lit.int .i64 x.2.2.2.1).wf = true ∧ (Lit.int .i64 x.2.2.2.2.1).wf = true ∧ (Lit.int .i64 x.2.2.2.2.2.1).wf = true ∧ (x.2.2.2.2.2.2.1.length ≤ maxLen ∧ ∀ y ∈ x.2.2.2.2.2.2.1, bInt y) ∧ True)
theorem szPane_eq (x : TPane) (left : Int) (h0 : 0 ≤ left) (h1 : left ≤ 1000000000000) (hb : bPane x) : L.szPane x.1 x.2.1 x.2.2.1 x.2.2.2.1 x.2.2.2.2.1 x.2.2.2.2.2.1 x.2.2.2.2.2.2.2 left x.2.2.2.2.2.2.1 = some (if (cPane x : Int) ≤ left then left - (cPane x : Int) else -1) := by
  unfold bPane at hb
  unfold L.szPane cPane
  rw [szIntS_eq _ x.2.2.2.2.2.2.1 (by omega) (by omega) hb.2.2.2.2.2.2.1, Option.bind_some]
  by_cases h0 : (((x.2.2.2.2.2.2.1).length : Nat) : Int) ≤ left
  · first
      | (rw [if_pos h0, cdn (by omega)]; done)
      | (rw [if_pos h0, cdn (by omega), if_pos (by omega)]; congr 1; omega)
  · first | (rw [if_neg h0, cdp (by omega)]; done) | rw [if_neg h0, cdp (by omega), if_neg (by omega)]
theorem szPaneS_eq (left : Int) (a : List TPane) (h0 : 0 ≤ left) (h1 : left ≤ 1000000000000) (hm : a.length ≤ maxLen ∧ ∀ x ∈ a, bPane x) : L.szPaneS left a = some (if ((cPaneS a : Nat) : Int) ≤ left then left - ((cPaneS a : Nat) : Int) else -1) := by
  have hl : a.length ≤ 9223372036854775807 := hm.1
  unfold L.szPaneS
  simp only []
  rw [w64 (by omega) (by omega)]
  by_cases h : ((a.length : Nat) : Int) ≤ left
  · rw [cdn (by omega)]
    have := szLoop (fun m l i => L.szPaneS_l0 m (fun y14 y15 => some y15) (fun y16 => some y16) l i a) a ((0 : Int), ((0 : Int), ((0 : Int), ((0 : Int), ((0 : Int), ((0 : Int), ([], false))))))) cPane (by omega) (fun i m l hi h0 h1 => ?_) (fun m l => ?_) (left - (a.length : Int)) (by omega) (by omega)
    · refine this.trans ?_
      unfold cPaneS
      congr 1
      split <;> split <;> omega
    · show L.szPaneS_l0 (m + 1) _ _ _ _ _ = _
      rw [L.szPaneS_l0, cdp (by omega), cdp (by omega), szPane_eq (nthI a (i : Int) ((0 : Int), ((0 : Int), ((0 : Int), ((0 : Int), ((0 : Int), ((0 : Int), ([], false)))))))) l h0 h1 (hm.2 _ (nthI_mem a i _ hi)), Option.bind_some]
      split
      · rw [cdn (by omega), w64 (by omega) (by omega)]; rfl
      · rw [cdp (by omega)]
    · show L.szPaneS_l0 (m + 1) _ _ _ _ _ = _
      rw [L.szPaneS_l0, cdn (by omega)]
  · rw [cdp (by omega), if_neg (by unfold cPaneS; omega)]
theorem toUint64S_eq (a : List Int) (hc : a.length ≤ 1000000000000) : L.toUint64S a = some a := by
  have hn := hc
  unfold L.toUint64S
  simp only []
  rw [cdp (by omega)]
  refine toLoop (fun m i xs => L.toUint64S_l0 m (fun y => some y) i a xs) a (0 : Int) hn (fun i m xs hi hx => ?_) (fun m xs => ?_) _ (by simp)
  · show L.toUint64S_l0 (m + 1) _ _ _ _ = L.toUint64S_l0 m _ _ _ _
    rw [L.toUint64S_l0, cdp (by omega), cdp (by omega), cdp (by omega), w64 (by omega) (by omega)]
    rfl
  · show L.toUint64S_l0 (m + 1) _ _ _ _ = _
    rw [L.toUint64S_l0, cdn (by omega)]
theorem toLat_eq (x : TLat) (hc : cLat x ≤ 1000000000000) : L.toLat x.1 x.2 = some (x.1, x.2) := by
  unfold L.toLat
  unfold cLat at hc
  simp only [toUint64S_eq x.2 (by omega), Option.bind_some]
theorem toIntS_eq (a : List Int) (hc : a.length ≤ 1000000000000) : L.toIntS a = some a := by
  have hn := hc
  unfold L.toIntS
  simp only []
  rw [cdp (by omega)]
  refine toLoop (fun m i xs => L.toIntS_l0 m (fun y => some y) i a xs) a (0 : Int) hn (fun i m xs hi hx => ?_) (fun m xs => ?_) _ (by simp)
  · show L.toIntS_l0 (m + 1) _ _ _ _ = L.toIntS_l0 m _ _ _ _
    rw [L.toIntS_l0, cdp (by omega), cdp (by omega), cdp (by omega), w64 (by omega) (by omega)]
    rfl
  · show L.toIntS_l0 (m + 1) _ _ _ _ = _
    rw [L.toIntS_l0, cdn (by omega)]
theorem toPane_eq (x : TPane) (hc : cPane x ≤ 1000000000000) : L.toPane x.1 x.2.1 x.2.2.1 x.2.2.2.1 x.2.2.2.2.1 x.2.2.2.2.2.1 x.2.2.2.2.2.2.2 x.2.2.2.2.2.2.1 = some (x.1, x.2.1, x.2.2.1, x.2.2.2.1, x.2.2.2.2.1, x.2.2.2.2.2.1, x.2.2.2.2.2.2.2, x.2.2.2.2.2.2.1) := by
  unfold L.toPane
  unfold cPane at hc
  simp only [toIntS_eq x.2.2.2.2.2.2.1 (by omega), Option.bind_some]
theorem toPaneS_eq (a : List TPane) (hc : cPaneS a ≤ 1000000000000) : L.toPaneS a = some a := by
  have hn : a.length ≤ 1000000000000 := by unfold cPaneS at hc; omega
  unfold L.toPaneS
  simp only []
  rw [cdp (by omega)]
  refine toLoop (fun m i xs => L.toPaneS_l0 m (fun y => some y) i a xs) a ((0 : Int), ((0 : Int), ((0 : Int), ((0 : Int), ((0 : Int), ((0 : Int), ([], false))))))) hn (fun i m xs hi hx => ?_) (fun m xs => ?_) _ (by simp)
  · show L.toPaneS_l0 (m + 1) _ _ _ _ = L.toPaneS_l0 m _ _ _ _
    rw [L.toPaneS_l0, cdp (by omega), cdp (by omega), toPane_eq (nthI a (i : Int) ((0 : Int), ((0 : Int), ((0 : Int), ((0 : Int), ((0 : Int), ((0 : Int), ([], false)))))))) (Nat.le_trans (cPaneS_mem (nthI_mem a i _ hi)) hc), Option.bind_some, cdp (by omega), w64 (by omega) (by omega)]
    rfl
  · show L.toPaneS_l0 (m + 1) _ _ _ _ = _
    rw [L.toPaneS_l0, cdn (by omega)]
theorem eqIntS_eq (a b : List Int) (hc : a.length ≤ 1000000000000) : L.eqIntS a b = some (decide (a = b)) := by
  have hn := hc
  unfold L.eqIntS
  refine eqTop a b ?_
  intro hl
  refine eqLoop (fun m i => L.eqIntS_l0 m (fun y => some y) (some true) i a b) a b (0 : Int) hl hn (fun i m hi => ?_) (fun m => ?_)
  · show L.eqIntS_l0 (m + 1) _ _ _ _ _ = bif _ then L.eqIntS_l0 m _ _ _ _ _ else _
    rw [L.eqIntS_l0, cdp (by omega), cdp (by omega), cdp (by omega), cneI, w64 (by omega) (by omega)]
    rfl
  · show L.eqIntS_l0 (m + 1) _ _ _ _ _ = _
    rw [L.eqIntS_l0, cdn (by omega)]
abbrev TBoth : Type := Int × Int × Int × Int × Int × List Int × List Int
instance : DecidableEq TBoth := (@instDecidableEqProd _ _ (inferInstance : DecidableEq Int) (@instDecidableEqProd _ _ (inferInstance : DecidableEq Int) (@instDecidableEqProd _ _ (inferInstance : DecidableEq Int) (@instDecidableEqProd _ _ (inferInstance : DecidableEq Int) (@instDecidableEqProd _ _ (inferInstance : DecidableEq Int) (@instDecidableEqProd _ _ (inferInstance : DecidableEq (List Int)) (inferInstance : DecidableEq (List Int))))))))
def cBoth (x : TBoth) : Nat := (x.2.2.2.2.2.1).length + (x.2.2.2.2.2.2).length
def cBothS (a : List TBoth) : Nat := a.length + (a.map cBoth).sum
theorem cBothS_mem {a : List TBoth} {x : TBoth} (h : x ∈ a) : cBoth x ≤ cBothS a := by
  have := sum_mem (List.mem_map.2 ⟨x, h, rfl⟩ : cBoth x ∈ a.map cBoth)
  unfold cBothS; omega
def bBoth (x : TBoth) : Prop := ((Lit.int .i64 x.1).wf = true ∧ (Lit.int .i64 x.2.1).wf = true ∧ (Lit.int .i64 x.2.2.1).wf = true ∧ (Lit.int .i64 x.2.2.2.1).wf = true ∧ (Lit.int .i64 x.2.2.2.2.1).wf = true ∧ (x.2.2.2.2.2.1.length ≤ maxLen ∧ ∀ y ∈ x.2.2.2.2.2.1, bInt y) ∧ (x.2.2.2.2.2.2.length ≤ maxLen ∧ ∀ y ∈ x.2.2.2.2.2.2, bInt y))
theorem eqBoth_eq (x y : TBoth) (hc : cBoth x ≤ 1000000000000) : L.eqBoth x.1 x.2.1 x.2.2.1 x.2.2.2.1 x.2.2.2.2.1 y.1 y.2.1 y.2.2.1 y.2.2.2.1 y.2.2.2.2.1 x.2.2.2.2.2.1 x.2.2.2.2.2.2 y.2.2.2.2.2.1 y.2.2.2.2.2.2 = some (decide (x = y)) := by
  unfold cBoth at hc
  unfold L.eqBoth
  simp only [eqIntS_eq x.2.2.2.2.2.1 y.2.2.2.2.2.1 (by omega), eqIntS_eq x.2.2.2.2.2.2 y.2.2.2.2.2.2 (by omega), cneI, cneB, cnotb, cbeB, cds, cdt, Option.bind_some]
  exact sdec ⟨fun h => (Prod.ext h.1 (Prod.ext h.2.1 (Prod.ext h.2.2.1 (Prod.ext h.2.2.2.1 (Prod.ext h.2.2.2.2.1 (Prod.ext h.2.2.2.2.2.1 h.2.2.2.2.2.2)))))), by rintro rfl; exact ⟨rfl, rfl, rfl, rfl, rfl, rfl, rfl⟩⟩
theorem eqBothS_eq (a b : List TBoth) (hc : cBothS a ≤ 1000000000000) : L.eqBothS a b = some (decide (a = b)) := by
  have hn : a.length ≤ 1000000000000 := by unfold cBothS at hc; omega
  unfold L.eqBothS
  refine eqTop a b ?_
  intro hl
  refine eqLoop (fun m i => L.eqBothS_l0 m (fun y => some y) (some true) i a b) a b ((0 : Int), ((0 : Int), ((0 : Int), ((0 : Int), ((0 : Int), ([], [])))))) hl hn (fun i m hi => ?_) (fun m => ?_)
  · show L.eqBothS_l0 (m + 1) _ _ _ _ _ = bif _ then L.eqBothS_l0 m _ _ _ _ _ else _
    rw [L.eqBothS_l0, cdp (by omega), cdp (by omega), cdp (by omega), eqBoth_eq (nthI a (i : Int) ((0 : Int), ((0 : Int), ((0 : Int), ((0 : Int), ((0 : Int), ([], []))))))) (nthI b (i : Int) ((0 : Int), ((0 : Int), ((0 : Int), ((0 : Int), ((0 : Int), ([], []))))))) (Nat.le_trans (cBothS_mem (nthI_mem a i _ hi)) hc), Option.bind_some, cnotb, w64 (by omega) (by omega)]
    rfl
  · show L.eqBothS_l0 (m + 1) _ _ _ _ _ = _
    rw [L.eqBothS_l0, cdn (by omega)]
theorem eqUint64S_eq (a b : List Int) (hc : a.length ≤ 1000000000000) : L.eqUint64S a b = some (decide (a = b)) := by
  have hn := hc
  unfold L.eqUint64S
  refine eqTop a b ?_
  intro hl
  refine eqLoop (fun m i => L.eqUint64S_l0 m (fun y => some y) (some true) i a b) a b (0 : Int) hl hn (fun i m hi => ?_) (fun m => ?_)
  · show L.eqUint64S_l0 (m + 1) _ _ _ _ _ = bif _ then L.eqUint64S_l0 m _ _ _ _ _ else _
    rw [L.eqUint64S_l0, cdp (by omega), cdp (by omega), cdp (by omega), cneI, w64 (by omega) (by omega)]
    rfl
  · show L.eqUint64S_l0 (m + 1) _ _ _ _ _ = _
    rw [L.eqUint64S_l0, cdn (by omega)]
theorem eqLat_eq (x y : TLat) (hc : cLat x ≤ 1000000000000) : L.eqLat x.1 y.1 x.2 y.2 = some (decide (x = y)) := by
  unfold cLat at hc
  unfold L.eqLat
  simp only [eqUint64S_eq x.2 y.2 (by omega), cneI, cneB, cnotb, cbeB, cds, cdt, Option.bind_some]
  exact sdec ⟨fun h => (Prod.ext h.1 h.2), by rintro rfl; exact ⟨rfl, rfl⟩⟩
theorem eqPane_eq (x y : TPane) (hc : cPane x ≤ 1000000000000) : L.eqPane x.1 x.2.1 x.2.2.1 x.2.2.2.1 x.2.2.2.2.1 x.2.2.2.2.2.1 x.2.2.2.2.2.2.2 y.1 y.2.1 y.2.2.1 y.2.2.2.1 y.2.2.2.2.1 y.2.2.2.2.2.1 y.2.2.2.2.2.2.2 x.2.2.2.2.2.2.1 y.2.2.2.2.2.2.1 = some (decide (x = y)) := by
  unfold cPane at hc
  unfold L.eqPane
  simp only [eqIntS_eq x.2.2.2.2.2.2.1 y.2.2.2.2.2.2.1 (by omega), cneI, cneB, cnotb, cbeB, cds, cdt, Option.bind_some]
  exact sdec ⟨fun h => (Prod.ext h.1 (Prod.ext h.2.1 (Prod.ext h.2.2.1 (Prod.ext h.2.2.2.1 (Prod.ext h.2.2.2.2.1 (Prod.ext h.2.2.2.2.2.1 (Prod.ext h.2.2.2.2.2.2.1 h.2.2.2.2.2.2.2))))))), by rintro rfl; exact ⟨rfl, rfl, rfl, rfl, rfl, rfl, rfl, rfl⟩⟩
theorem eqPaneS_eq (a b : List TPane) (hc : cPaneS a ≤ 1000000000000) : L.eqPaneS a b = some (decide (a = b)) := by
  have hn : a.length ≤ 1000000000000 := by unfold cPaneS at hc; omega
  unfold L.eqPaneS
  refine eqTop a b ?_
  intro hl
  refine eqLoop (fun m i => L.eqPaneS_l0 m (fun y => some y) (some true) i a b) a b ((0 : Int), ((0 : Int), ((0 : Int), ((0 : Int), ((0 : Int), ((0 : Int), ([], false))))))) hl hn (fun i m hi => ?_) (fun m => ?_)
  · show L.eqPaneS_l0 (m + 1) _ _ _ _ _ = bif _ then L.eqPaneS_l0 m _ _ _ _ _ else _
    rw [L.eqPaneS_l0, cdp (by omega), cdp (by omega), cdp (by omega), eqPane_eq (nthI a (i : Int) ((0 : Int), ((0 : Int), ((0 : Int), ((0 : Int), ((0 : Int), ((0 : Int), ([], false)))))))) (nthI b (i : Int) ((0 : Int), ((0 : Int), ((0 : Int), ((0 : Int), ((0 : Int), ((0 : Int), ([], false)))))))) (Nat.le_trans (cPaneS_mem (nthI_mem a i _ hi)) hc), Option.bind_some, cnotb, w64 (by omega) (by omega)]
    rfl
  · show L.eqPaneS_l0 (m + 1) _ _ _ _ _ = _
    rw [L.eqPaneS_l0, cdn (by omega)]
def m1Uint64 (k : Int) (_ : Int) : Int := k
def w1Uint64 (_ : Int) : Nat := 1
def mUint64S (k : Int) (a : List Int) : List Int := markAll m1Uint64 w1Uint64 k a
def wUint64S (a : List Int) : Nat := (a.map w1Uint64).sum
theorem wUint64S_len (a : List Int) : wUint64S a = 1 * a.length := by unfold wUint64S; exact sum_const _ a _ (fun _ => rfl)
theorem markUint64S_eq (k : Int) (a : List Int) (h0 : 0 ≤ k) (hc : k + 1 * (a.length : Int) ≤ 1000000000000) : L.markUint64S k a = some (k + 1 * (a.length : Int), mUint64S k a) := by
  unfold L.markUint64S mUint64S
  refine (markLoop (fun m k i xs => L.markUint64S_l0 m (fun y12 y13 => some (y12, y13)) k i xs) m1Uint64 w1Uint64 a (0 : Int) 1 (fun _ => rfl) h0 (by omega) hc (fun i m k xs hi hx h0 h1 => ?_) (fun m k xs hx => ?_)).trans rfl
  · show L.markUint64S_l0 (m + 1) _ _ _ _ = L.markUint64S_l0 m _ _ _ _
    have hdec : decide ((0 : Int) ≤ (i : Int) ∧ (i : Int) < (xs.length : Int)) = true := by simp; omega
    rw [L.markUint64S_l0, cdp (by omega)]
    simp (disch := omega) only [hdec, cond_true, w64, u8_mod, u64w, List.length_set, nthI_set, List.set_set, Int.toNat_natCast, cmod3, Int.add_assoc, Int.reduceAdd, if_false, reduceIte]
    rfl
  · show L.markUint64S_l0 (m + 1) _ _ _ _ = _
    rw [L.markUint64S_l0, cdn (by omega)]
theorem markLat_eq (x : TLat) (k : Int) (h0 : 0 ≤ k) (hc : k + 1 * ((x.2).length : Int) ≤ 1000000000000) : L.markLat x.1 k x.2 = some (k + 1 * ((x.2).length : Int), (mUint64S (k) x.2)) := by
  unfold L.markLat
  simp (disch := omega) only [Int.add_assoc, Option.bind_some, dlt0, cond_false, markUint64S_eq]
def m1Int (k : Int) (_ : Int) : Int := k
def w1Int (_ : Int) : Nat := 1
def mIntS (k : Int) (a : List Int) : List Int := markAll m1Int w1Int k a
def wIntS (a : List Int) : Nat := (a.map w1Int).sum
theorem wIntS_len (a : List Int) : wIntS a = 1 * a.length := by unfold wIntS; exact sum_const _ a _ (fun _ => rfl)
theorem markIntS_eq (k : Int) (a : List Int) (h0 : 0 ≤ k) (hc : k + 1 * (a.length : Int) ≤ 1000000000000) : L.markIntS k a = some (k + 1 * (a.length : Int), mIntS k a) := by
  unfold L.markIntS mIntS
  refine (markLoop (fun m k i xs => L.markIntS_l0 m (fun y12 y13 => some (y12, y13)) k i xs) m1Int w1Int a (0 : Int) 1 (fun _ => rfl) h0 (by omega) hc (fun i m k xs hi hx h0 h1 => ?_) (fun m k xs hx => ?_)).trans rfl
  · show L.markIntS_l0 (m + 1) _ _ _ _ = L.markIntS_l0 m _ _ _ _
    have hdec : decide ((0 : Int) ≤ (i : Int) ∧ (i : Int) < (xs.length : Int)) = true := by simp; omega
    rw [L.markIntS_l0, cdp (by omega)]
    simp (disch := omega) only [hdec, cond_true, w64, u8_mod, u64w, List.length_set, nthI_set, List.set_set, Int.toNat_natCast, cmod3, Int.add_assoc, Int.reduceAdd, if_false, reduceIte]
    rfl
  · show L.markIntS_l0 (m + 1) _ _ _ _ = _
    rw [L.markIntS_l0, cdn (by omega)]
def m1Pane (k : Int) (x : TPane) : TPane := (k, (k + 1, (k + 2, (k + 3, (k + 4, (k + 5, (mIntS (k + 6) x.2.2.2.2.2.2.1, (Int.tmod (k + (6 + 1 * ((x.2.2.2.2.2.2.1).length : Int))) 3 == 0))))))))
def w1Pane (x : TPane) : Nat := 7 + 1 * (x.2.2.2.2.2.2.1).length
def mPaneS (k : Int) (a : List TPane) : List TPane := markAll m1Pane w1Pane k a
def wPaneS (a : List TPane) : Nat := (a.map w1Pane).sum
theorem markPaneS_eq (k : Int) (a : List TPane) (h0 : 0 ≤ k) (hn : a.length ≤ 1000000000000) (hc : k + ((wPaneS a : Nat) : Int) ≤ 1000000000000) : L.markPaneS k a = some (k + ((wPaneS a : Nat) : Int), mPaneS k a) := by
  unfold L.markPaneS mPaneS wPaneS
  refine (markLoopW (fun m k i xs => L.markPaneS_l0 m (fun y12 y13 => some (y12, y13)) k i xs) m1Pane w1Pane a ((0 : Int), ((0 : Int), ((0 : Int), ((0 : Int), ((0 : Int), ((0 : Int), ([], false))))))) h0 hn (by unfold wPaneS at hc; exact hc) (fun i m k xs hi hx h0 h1 => ?_) (fun m k xs hx => ?_)).trans rfl
  · show L.markPaneS_l0 (m + 1) _ _ _ _ = L.markPaneS_l0 m _ _ _ _
    have hdec : decide ((0 : Int) ≤ (i : Int) ∧ (i : Int) < (xs.length : Int)) = true := by simp; omega
    have e : k + ((w1Pane (nthI xs (i : Int) ((0 : Int), ((0 : Int), ((0 : Int), ((0 : Int), ((0 : Int), ((0 : Int), ([], false)))))))) : Nat) : Int) = k + (6 + (1 * (((nthI xs (i : Int) ((0 : Int), ((0 : Int), ((0 : Int), ((0 : Int), ((0 : Int), ((0 : Int), ([], false)))))))).2.2.2.2.2.2.1).length : Int) + 1)) := by unfold w1Pane; omega
    have e2 : IntKind.i64.wrap ((i : Int) + 1) = ((i + 1 : Nat) : Int) := by rw [w64 (by omega) (by omega)]; omega
    rw [e] at h1 ⊢
    unfold m1Pane
    rw [L.markPaneS_l0, cdp (by omega)]
    skip
    simp (disch := omega) only [hdec, cond_true, e2, w64, u8_mod, u64w, List.length_set, nthI_set, List.set_set, Int.toNat_natCast, cmod3, Int.add_assoc, Int.reduceAdd, if_false, reduceIte, Option.bind_some, Int.add_zero, cond_false, markIntS_eq]
    all_goals rfl
  · show L.markPaneS_l0 (m + 1) _ _ _ _ = _
    rw [L.markPaneS_l0, cdn (by omega)]
def m1Both (k : Int) (x : TBoth) : TBoth := (k, (k + 1, (k + 2, (k + 3, (k + 4, (mIntS (k + 5) x.2.2.2.2.2.1, mIntS (k + (5 + 1 * ((x.2.2.2.2.2.1).length : Int))) x.2.2.2.2.2.2))))))
def w1Both (x : TBoth) : Nat := 5 + 1 * (x.2.2.2.2.2.1).length + 1 * (x.2.2.2.2.2.2).length
def mBothS (k : Int) (a : List TBoth) : List TBoth := markAll m1Both w1Both k a
def wBothS (a : List TBoth) : Nat := (a.map w1Both).sum
theorem markBothS_eq (k : Int) (a : List TBoth) (h0 : 0 ≤ k) (hn : a.length ≤ 1000000000000) (hc : k + ((wBothS a : Nat) : Int) ≤ 1000000000000) : L.markBothS k a = some (k + ((wBothS a : Nat) : Int), mBothS k a) := by
  unfold L.markBothS mBothS wBothS
  refine (markLoopW (fun m k i xs => L.markBothS_l0 m (fun y12 y13 => some (y12, y13)) k i xs) m1Both w1Both a ((0 : Int), ((0 : Int), ((0 : Int), ((0 : Int), ((0 : Int), ([], [])))))) h0 hn (by unfold wBothS at hc; exact hc) (fun i m k xs hi hx h0 h1 => ?_) (fun m k xs hx => ?_)).trans rfl
  · show L.markBothS_l0 (m + 1) _ _ _ _ = L.markBothS_l0 m _ _ _ _
    have hdec : decide ((0 : Int) ≤ (i : Int) ∧ (i : Int) < (xs.length : Int)) = true := by simp; omega
    have e : k + ((w1Both (nthI xs (i : Int) ((0 : Int), ((0 : Int), ((0 : Int), ((0 : Int), ((0 : Int), ([], []))))))) : Nat) : Int) = k + (5 + (1 * (((nthI xs (i : Int) ((0 : Int), ((0 : Int), ((0 : Int), ((0 : Int), ((0 : Int), ([], []))))))).2.2.2.2.2.1).length : Int) + 1 * (((nthI xs (i : Int) ((0 : Int), ((0 : Int), ((0 : Int), ((0 : Int), ((0 : Int), ([], []))))))).2.2.2.2.2.2).length : Int))) := by unfold w1Both; omega
    have e2 : IntKind.i64.wrap ((i : Int) + 1) = ((i + 1 : Nat) : Int) := by rw [w64 (by omega) (by omega)]; omega
    rw [e] at h1 ⊢
    unfold m1Both
    rw [L.markBothS_l0, cdp (by omega)]
    skip
    simp (disch := omega) only [hdec, cond_true, e2, w64, u8_mod, u64w, List.length_set, nthI_set, List.set_set, Int.toNat_natCast, cmod3, Int.add_assoc, Int.reduceAdd, if_false, reduceIte, Option.bind_some, Int.add_zero, cond_false, markIntS_eq]
    all_goals rfl
  · show L.markBothS_l0 (m + 1) _ _ _ _ = _
    rw [L.markBothS_l0, cdn (by omega)]
theorem heldIntS_eq (k : Int) (a : List Int) (h0 : 0 ≤ k) (hc : k + 1 * (a.length : Int) ≤ 1000000000000) : L.heldIntS k (mIntS k a) = some (k + 1 * (a.length : Int)) := by
  unfold L.heldIntS
  refine heldLoop (fun m q i => L.heldIntS_l0 m (fun y12 y13 => some y13) (fun y14 => some y14) q i (mIntS k a)) m1Int w1Int a (0 : Int) 1 (fun _ => rfl) k h0 (by omega) hc (fun i m j hi h0 h1 hx => ?_) (fun m j => ?_)
  all_goals (have hl : (mIntS k a).length = a.length := markAll_length _ _ _ _)
  · show L.heldIntS_l0 (m + 1) _ _ _ _ _ = L.heldIntS_l0 m _ _ _ _ _
    have hx : nthI (mIntS k a) (i : Int) (0 : Int) = _ := hx
    have hdec : decide ((0 : Int) ≤ (i : Int) ∧ (i : Int) < ((mIntS k a).length : Int)) = true := by rw [hl]; simp; omega
    rw [L.heldIntS_l0, cdp (by omega)]
    simp (disch := omega) only [hdec, hx, m1Int, cond_true, cond_false, w64, u8_mod, u64w, bne_self_eq_false, cmod3, Int.add_assoc, Int.reduceAdd, if_false, reduceIte, beq_self_eq_true, Bool.not_true]
    rfl
  · show L.heldIntS_l0 (m + 1) _ _ _ _ _ = _
    rw [L.heldIntS_l0, cdn (by rw [hl]; omega)]
theorem heldBothS_eq (k : Int) (a : List TBoth) (h0 : 0 ≤ k) (hn : a.length ≤ 1000000000000) (hc : k + ((wBothS a : Nat) : Int) ≤ 1000000000000) : L.heldBothS k (mBothS k a) = some (k + ((wBothS a : Nat) : Int)) := by
  unfold L.heldBothS wBothS
  refine heldLoopW (fun m q i => L.heldBothS_l0 m (fun y12 y13 => some y13) (fun y14 => some y14) q i (mBothS k a)) m1Both w1Both a ((0 : Int), ((0 : Int), ((0 : Int), ((0 : Int), ((0 : Int), ([], [])))))) k h0 hn (by unfold wBothS at hc; exact hc) (fun i m j hi h0 h1 hx => ?_) (fun m j => ?_)
  all_goals (have hl : (mBothS k a).length = a.length := markAll_length _ _ _ _)
  · show L.heldBothS_l0 (m + 1) _ _ _ _ _ = L.heldBothS_l0 m _ _ _ _ _
    have hx : nthI (mBothS k a) (i : Int) ((0 : Int), ((0 : Int), ((0 : Int), ((0 : Int), ((0 : Int), ([], [])))))) = _ := hx
    have hdec : decide ((0 : Int) ≤ (i : Int) ∧ (i : Int) < ((mBothS k a).length : Int)) = true := by rw [hl]; simp; omega
    have e : j + ((w1Both (nthI a (i : Int) ((0 : Int), ((0 : Int), ((0 : Int), ((0 : Int), ((0 : Int), ([], []))))))) : Nat) : Int) = j + (5 + (1 * (((nthI a (i : Int) ((0 : Int), ((0 : Int), ((0 : Int), ((0 : Int), ((0 : Int), ([], []))))))).2.2.2.2.2.1).length : Int) + 1 * (((nthI a (i : Int) ((0 : Int), ((0 : Int), ((0 : Int), ((0 : Int), ((0 : Int), ([], []))))))).2.2.2.2.2.2).length : Int))) := by unfold w1Both; omega
    have e2 : IntKind.i64.wrap ((i : Int) + 1) = ((i + 1 : Nat) : Int) := by rw [w64 (by omega) (by omega)]; omega
    rw [e] at h1 ⊢
    rw [L.heldBothS_l0, cdp (by rw [hl]; omega)]
    simp (disch := omega) only [hdec, hx, e2, m1Both, cond_true, cond_false, w64, u8_mod, u64w, bne_self_eq_false, cmod3, Int.add_assoc, Int.reduceAdd, if_false, reduceIte, beq_self_eq_true, Bool.not_true, dlt0, Option.bind_some, Int.add_zero, heldIntS_eq]
    all_goals rfl
  · show L.heldBothS_l0 (m + 1) _ _ _ _ _ = _
    rw [L.heldBothS_l0, cdn (by rw [hl]; omega)]
theorem in_eq (a b c : Int) : I.in a b c = some (decide (b ≤ a ∧ a ≤ c)) := by unfold I.in; rw [cond_some, cond_and, dand]
/-! Elements -/
theorem isKey_eq (a : Int) : I.isKey a = some (decide (0 ≤ a ∧ a ≤ 15)) := by unfold I.isKey; rw [in_eq]; rfl
theorem l04Key_eq (a : Int) : S.l04Key a = some (decide (0 ≤ a ∧ a ≤ 15)) := by unfold S.l04Key; rw [cond_some, cond_and, dand]
/-! OpOk -/
/-- What an operation must be. -/
def opOk (a1 a2 a3 a4 a5 a6 a7 a8 a9 a10 a11 : Int) : Bool :=
  bif a1 == 1 then decide ((0 ≤ a2 ∧ a2 ≤ 3) ∧ (0 ≤ a3 ∧ a3 ≤ 15) ∧ (0 ≤ a5 ∧ a5 ≤ 1000) ∧ a6 = 0 ∧ a7 = 0 ∧ a8 = 0 ∧ a9 = 0 ∧ a10 = 0 ∧ a11 = 0)
  else bif a1 == 2 then decide ((0 ≤ a6 ∧ a6 ≤ 3) ∧ (0 ≤ a7 ∧ a7 ≤ 4) ∧ (0 ≤ a8 ∧ a8 ≤ 15) ∧ (0 ≤ a9 ∧ a9 ≤ 15) ∧ a2 = 0 ∧ a3 = 0 ∧ a4 = 0 ∧ a5 = 0 ∧ a10 = 0 ∧ a11 = 0)
  else bif a1 == 3 then decide ((0 ≤ a6 ∧ a6 ≤ 3) ∧ (0 ≤ a7 ∧ a7 ≤ 4) ∧ (0 ≤ a8 ∧ a8 ≤ 15) ∧ a9 = 0 ∧ a2 = 0 ∧ a3 = 0 ∧ a4 = 0 ∧ a5 = 0 ∧ a10 = 0 ∧ a11 = 0)
  else bif a1 == 4 then decide ((0 ≤ a10 ∧ a10 ≤ 3) ∧ (0 ≤ a11 ∧ a11 ≤ 1000) ∧ a2 = 0 ∧ a3 = 0 ∧ a4 = 0 ∧ a5 = 0 ∧ a6 = 0 ∧ a7 = 0 ∧ a8 = 0 ∧ a9 = 0)
  else bif a1 == 5 || a1 == 6 then decide ((0 ≤ a10 ∧ a10 ≤ 3) ∧ a11 = 0 ∧ a2 = 0 ∧ a3 = 0 ∧ a4 = 0 ∧ a5 = 0 ∧ a6 = 0 ∧ a7 = 0 ∧ a8 = 0 ∧ a9 = 0)
  else bif a1 == 7 || a1 == 8 || a1 == 9 then decide ((0 ≤ a10 ∧ a10 ≤ 3) ∧ (0 ≤ a11 ∧ a11 ≤ 1000000) ∧ a2 = 0 ∧ a3 = 0 ∧ a4 = 0 ∧ a5 = 0 ∧ a6 = 0 ∧ a7 = 0 ∧ a8 = 0 ∧ a9 = 0)
  else false
/-! Lattices -/
theorem flagLoop {β : Type} (F : Nat → Bool → Int → Option β) (n : Nat) (ok : Nat → Bool) (E : Bool → Option β) (hn : n ≤ 1000000000000)
    (hs : ∀ (i m : Nat) (f : Bool), i < n → F (m + 1) f (i : Int) = F m (f && ok i) ((i + 1 : Nat) : Int) ∨ f = false ∧ F (m + 1) f (i : Int) = E false)
    (he : ∀ (m : Nat) (f : Bool), F (m + 1) f (n : Int) = E f) (f : Bool) : F fu f 0 = E (f && (List.range n).all ok) := by
  obtain ⟨M, hM⟩ := fu_ge n hn
  have h1 : ∀ k i : Nat, ∀ f, i + k = n → F (k + 1 + M) f (i : Int) = E (f && (List.range' i k).all ok) := by
    intro k
    induction k with
    | zero =>
      intro i f hi
      obtain rfl : i = n := by omega
      rw [show 0 + 1 + M = M + 1 from by omega, he]
      simp
    | succ k ih =>
      intro i f hi
      rw [show k + 1 + 1 + M = (k + 1 + M) + 1 from by omega, List.range'_succ, List.all_cons]
      rcases hs i (k + 1 + M) f (by omega) with h | ⟨rfl, h⟩
      · rw [h, ih (i + 1) _ (by omega), Bool.and_assoc]
      · rw [h]; rfl
  rw [hM, List.range_eq_range']
  exact h1 n 0 f (by omega)
theorem findLoop {β : Type} (F : Nat → Int → Option β) (n : Nat) (ok : Nat → Bool) (E : Nat → Option β) (e : Option β) (hn : n ≤ 1000000000000)
    (hs : ∀ (i m : Nat), i < n → F (m + 1) (i : Int) = bif ok i then E i else F m ((i + 1 : Nat) : Int))
    (he : ∀ m : Nat, F (m + 1) (n : Int) = e) : F fu 0 = match (List.range n).find? ok with | some c => E c | none => e := by
  obtain ⟨M, hM⟩ := fu_ge n hn
  have h1 : ∀ k i : Nat, i + k = n → F (k + 1 + M) (i : Int) = match (List.range' i k).find? ok with | some c => E c | none => e := by
    intro k
    induction k with
    | zero =>
      intro i hi
      obtain rfl : i = n := by omega
      rw [show 0 + 1 + M = M + 1 from by omega, he]
      rfl
    | succ k ih =>
      intro i hi
      rw [show k + 1 + 1 + M = (k + 1 + M) + 1 from by omega, List.range'_succ, List.find?_cons, hs i _ (by omega)]
      cases ok i with
      | true => rfl
      | false => exact ih (i + 1) (by omega)
  rw [hM, List.range_eq_range']
  exact h1 n 0 (by omega)
def bit (x i : Int) : Bool := Go.bits .and .u64 (Int.fdiv x (2 ^ min (Int.toNat i) (IntKind.bits .u64))) 1 == 1
def leB (up : List Int) (a b : Int) : Bool := bit (nthI up a 0) b
def sideB (up : List Int) (a c : Int) (u : Bool) : Bool := bif u then leB up a c else leB up c a
theorem l01Bit_eq (x i : Int) (h0 : 0 ≤ i) (h1 : i < 100) : S.l01Bit x i = some (bit x i) := by
  unfold S.l01Bit bit
  simp only [u64w h0 (show i < 18446744073709551616 by omega)]
  rw [cdp h0]
theorem latLe_eq (n a b : Int) (up : List Int) (ha : 0 ≤ a ∧ a < (up.length : Int)) (hb : 0 ≤ b) : I.Lat_le n a b up = some (leB up a b) := by
  unfold I.Lat_le leB bit
  rw [cdp ha, cdp hb]
theorem l01Side_eq (n a c : Int) (u : Bool) (up : List Int) (hn : up.length ≤ 16) (ha : 0 ≤ a ∧ a < (up.length : Int)) (hc : 0 ≤ c ∧ c < (up.length : Int)) : S.l01Side n a c u up = some (sideB up a c u) := by
  unfold S.l01Side sideB leB
  rw [cdp ha, cdp hc, l01Bit_eq _ _ hc.1 (by omega), l01Bit_eq _ _ ha.1 (by omega)]
  cases u <;> rfl
theorem under_eq (n a c : Int) (u : Bool) (up : List Int) (ha : 0 ≤ a ∧ a < (up.length : Int)) (hc : 0 ≤ c ∧ c < (up.length : Int)) : I.Lat_bound_1 a c u n up = some (sideB up a c u, u, n, up) := by
  unfold I.Lat_bound_1 sideB
  rw [latLe_eq n a c up ha hc.1, latLe_eq n c a up hc ha.1]
  cases u <;> rfl
def okD (up : List Int) (u : Bool) (a b c : Int) (d : Nat) : Bool := !(sideB up a (d : Int) u && sideB up b (d : Int) u && !sideB up c (d : Int) u)
def fitsB (up : List Int) (u : Bool) (a b : Int) (c : Nat) : Bool := sideB up a (c : Int) u && (sideB up b (c : Int) u && (List.range up.length).all (okD up u a b (c : Int)))
def bndF (up : List Int) (u : Bool) (a b : Int) : Int := match (List.range up.length).find? (fitsB up u a b) with | some c => (c : Int) | none => -1
section
variable (up : List Int) (hn : up.length ≤ 16)
include hn
theorem sB1 (e : Int → Int → Bool → Int → Bool → Int → List Int → Option Int) (a b : Int) (u f : Bool) (c : Int) (ha : 0 ≤ a ∧ a < (up.length : Int)) (hb : 0 ≤ b ∧ b < (up.length : Int)) (hc : 0 ≤ c ∧ c < (up.length : Int)) :
    S.l01Bound_l1 fu e a b u c f 0 (up.length : Int) up = e a b u c (f && (List.range up.length).all (okD up u a b c)) (up.length : Int) up := by
  refine flagLoop (fun m f i => S.l01Bound_l1 m e a b u c f i (up.length : Int) up) up.length (okD up u a b c) (fun f => e a b u c f (up.length : Int) up) (by omega) (fun i m f hi => ?_) (fun m f => ?_) f
  · show S.l01Bound_l1 (m + 1) _ _ _ _ _ _ _ _ _ = S.l01Bound_l1 m _ _ _ _ _ _ _ _ _ ∨ _ ∧ S.l01Bound_l1 (m + 1) _ _ _ _ _ _ _ _ _ = _
    have hd : 0 ≤ (i : Int) ∧ (i : Int) < (up.length : Int) := by omega
    rw [S.l01Bound_l1, cdp (by omega)]
    simp only [l01Side_eq _ _ _ u up hn ha hd, l01Side_eq _ _ _ u up hn hb hd, l01Side_eq _ _ _ u up hn hc hd, Option.bind_some]
    rw [w64 (by omega) (by omega)]
    cases f
    · exact .inr ⟨rfl, rfl⟩
    · left
      unfold okD
      cases sideB up a (i : Int) u <;> cases sideB up b (i : Int) u <;> cases sideB up c (i : Int) u <;> rfl
  · show S.l01Bound_l1 (m + 1) _ _ _ _ _ _ _ _ _ = _
    rw [S.l01Bound_l1, cdn (by omega)]
theorem sBound_eq (a b : Int) (u : Bool) (ha : 0 ≤ a ∧ a < (up.length : Int)) (hb : 0 ≤ b ∧ b < (up.length : Int)) : S.l01Bound (up.length : Int) a b u up = some (bndF up u a b) := by
  unfold S.l01Bound bndF
  refine (findLoop (fun m i => S.l01Bound_l0 m (fun y47 => some y47) (some (-1)) a b u i (up.length : Int) up) up.length (fitsB up u a b) (fun c => some (c : Int)) (some (-1)) (by omega) (fun i m hi => ?_) (fun m => ?_)).trans (by split <;> rfl)
  · show S.l01Bound_l0 (m + 1) _ _ _ _ _ _ _ _ = bif _ then _ else S.l01Bound_l0 m _ _ _ _ _ _ _ _
    have hd : 0 ≤ (i : Int) ∧ (i : Int) < (up.length : Int) := by omega
    rw [S.l01Bound_l0, cdp (by omega)]
    simp only [l01Side_eq _ _ _ u up hn ha hd, l01Side_eq _ _ _ u up hn hb hd, Option.bind_some, sB1 up hn _ a b u _ (i : Int) ha hb hd]
    rw [w64 (by omega) (by omega)]
    unfold fitsB
    cases sideB up a (i : Int) u <;> cases sideB up b (i : Int) u <;> rfl
  · show S.l01Bound_l0 (m + 1) _ _ _ _ _ _ _ _ = _
    rw [S.l01Bound_l0, cdn (by omega)]
theorem iB1 (e : Int → Int → Int → Bool → Int → Int → Int → Bool → List Int → Option Int) (a b : Int) (u f : Bool) (c a22 a23 n : Int) (ha : 0 ≤ a ∧ a < (up.length : Int)) (hb : 0 ≤ b ∧ b < (up.length : Int)) (hc : 0 ≤ c ∧ c < (up.length : Int)) :
    I.Lat_bound_l1 fu e a b c f a22 a23 (up.length : Int) 0 n u up = e a b c (f && (List.range up.length).all (okD up u a b c)) a22 a23 n u up := by
  refine flagLoop (fun m f i => I.Lat_bound_l1 m e a b c f a22 a23 (up.length : Int) i n u up) up.length (okD up u a b c) (fun f => e a b c f a22 a23 n u up) (by omega) (fun i m f hi => .inl ?_) (fun m f => ?_) f
  · show I.Lat_bound_l1 (m + 1) _ _ _ _ _ _ _ _ _ _ _ _ = I.Lat_bound_l1 m _ _ _ _ _ _ _ _ _ _ _ _
    have hd : 0 ≤ (i : Int) ∧ (i : Int) < (up.length : Int) := by omega
    rw [I.Lat_bound_l1, cdp (by omega)]
    simp only [under_eq _ _ _ u up ha hd, under_eq _ _ _ u up hb hd, under_eq _ _ _ u up hc hd, Option.bind_some]
    rw [w64 (by omega) (by omega)]
    unfold okD
    cases f <;> cases sideB up a (i : Int) u <;> cases sideB up b (i : Int) u <;> cases sideB up c (i : Int) u <;> rfl
  · show I.Lat_bound_l1 (m + 1) _ _ _ _ _ _ _ _ _ _ _ _ = _
    rw [I.Lat_bound_l1, cdn (by omega)]
theorem iBound_eq (a b : Int) (u : Bool) (ha : 0 ≤ a ∧ a < (up.length : Int)) (hb : 0 ≤ b ∧ b < (up.length : Int)) : I.Lat_bound (up.length : Int) a b u up = some (bndF up u a b) := by
  unfold I.Lat_bound bndF
  refine (findLoop (fun m i => I.Lat_bound_l0 m (fun y47 => some y47) (some (-1)) a b (up.length : Int) i (up.length : Int) u up) up.length (fitsB up u a b) (fun c => some (c : Int)) (some (-1)) (by omega) (fun i m hi => ?_) (fun m => ?_)).trans (by split <;> rfl)
  · show I.Lat_bound_l0 (m + 1) _ _ _ _ _ _ _ _ _ = bif _ then _ else I.Lat_bound_l0 m _ _ _ _ _ _ _ _ _
    have hd : 0 ≤ (i : Int) ∧ (i : Int) < (up.length : Int) := by omega
    rw [I.Lat_bound_l0, cdp (by omega)]
    simp only [under_eq _ _ _ u up ha hd, under_eq _ _ _ u up hb hd, Option.bind_some, iB1 up hn _ a b u _ (i : Int) _ _ _ ha hb hd]
    rw [w64 (by omega) (by omega)]
    unfold fitsB
    cases sideB up a (i : Int) u <;> cases sideB up b (i : Int) u <;> rfl
  · show I.Lat_bound_l0 (m + 1) _ _ _ _ _ _ _ _ _ = _
    rw [I.Lat_bound_l0, cdn (by omega)]
end
theorem cb3 {x y z : Bool} {k : Option Bool} {p : Prop} [Decidable p] (h : p ↔ ¬ (x = true ∧ y = true ∧ z = false)) : (bif x then (bif y then (bif !z then some false else k) else k) else k) = bif decide p then k else some false := by
  by_cases c : p
  · rw [cdp c]
    have := h.1 c
    revert this
    cases x <;> cases y <;> cases z <;> simp
  · rw [cdn c]
    have := fun e => c (h.2 e)
    revert this
    cases x <;> cases y <;> cases z <;> simp
theorem cb2 {x y : Bool} {k : Option Bool} {p : Prop} [Decidable p] (h : p ↔ ¬ (x = true ∧ y = true)) : (bif x then (bif y then some false else k) else k) = bif decide p then k else some false := by
  by_cases c : p
  · rw [cdp c]
    have := h.1 c
    revert this
    cases x <;> cases y <;> simp
  · rw [cdn c]
    have := fun e => c (h.2 e)
    revert this
    cases x <;> cases y <;> simp
/-- No label between is left out. -/
def thruP (up : List Int) (a b c : Nat) : Prop := ¬ (leB up a b = true ∧ leB up b c = true ∧ leB up a c = false)
instance (up : List Int) (a b : Nat) : DecidablePred (thruP up a b) := fun c => by unfold thruP; exact inferInstance
def pairP (up : List Int) (a b : Nat) : Prop := (a ≠ b → ¬ (leB up a b = true ∧ leB up b a = true)) ∧ ∀ c, c < up.length → thruP up a b c
instance (up : List Int) (a : Nat) : DecidablePred (pairP up a) := fun b => by unfold pairP; exact inferInstance
def lowP (up : List Int) (a : Nat) : Prop := nthI up (a : Int) 0 < 2 ^ up.length
instance (up : List Int) : DecidablePred (lowP up) := fun a => by unfold lowP; exact inferInstance
def ordP (up : List Int) (a : Nat) : Prop := leB up a a = true ∧ ∀ b, b < up.length → pairP up a b
instance (up : List Int) : DecidablePred (ordP up) := fun a => by unfold ordP; exact inferInstance
def bndP (up : List Int) (a b : Nat) : Prop := 0 ≤ bndF up true a b ∧ 0 ≤ bndF up false a b
instance (up : List Int) (a : Nat) : DecidablePred (bndP up a) := fun b => by unfold bndP; exact inferInstance
def latOk (n : Int) (up : List Int) : Prop := (1 ≤ n ∧ n ≤ 16) ∧ (up.length : Int) = n ∧ (∀ a, a < up.length → lowP up a) ∧ (∀ a, a < up.length → ordP up a) ∧ ∀ a, a < up.length → ∀ b, b < up.length → bndP up a b
instance (n : Int) (up : List Int) : Decidable (latOk n up) := by unfold latOk; exact inferInstance
theorem power_l (e : Int → Option Int) (m : Nat) : ∀ (d : Nat) (x : Int), 0 ≤ x → x * 2 ^ d < 18446744073709551616 → d ≤ 64 → S.l01Power_l0 (d + 1 + m) e (d : Int) x = e (x * 2 ^ d)
  | 0, x, h0, h1, hd => by
    rw [show 0 + 1 + m = m + 1 from by omega, S.l01Power_l0, cdn (by omega)]
    simp
  | d + 1, x, h0, h1, hd => by
    have h2 : x * 2 ^ (d + 1) = 2 * x * 2 ^ d := by rw [Int.pow_succ, Int.mul_comm (2 ^ d) 2, ← Int.mul_assoc, Int.mul_comm x 2]
    have hp : (1 : Int) ≤ 2 ^ d := by have : (0 : Int) < 2 ^ d := Int.pow_pos (by omega); omega
    have h3 : 2 * x ≤ 2 * x * 2 ^ d := by have := Int.mul_le_mul_of_nonneg_left hp (show 0 ≤ 2 * x by omega); omega
    rw [show d + 1 + 1 + m = (d + 1 + m) + 1 from by omega, S.l01Power_l0, cdp (by omega), w64 (by omega) (by omega), u64w (by omega) (by omega), show ((d + 1 : Nat) : Int) - 1 = (d : Int) from by omega, power_l e m d (2 * x) (by omega) (by omega) (by omega), h2]
theorem power_eq (n : Nat) (h : n ≤ 16) : S.l01Power (n : Int) = some (2 ^ n) := by
  unfold S.l01Power
  obtain ⟨m, hm⟩ := fu_ge n (by omega)
  have hp : (2 : Int) ^ n ≤ 2 ^ 16 := by
    have : 2 ^ n ≤ 2 ^ 16 := Nat.pow_le_pow_right (by omega) h
    exact_mod_cast this
  rw [hm, power_l _ m n 1 (by omega) (by omega) (by omega), Int.one_mul]
section
variable (up : List Int) (hn : up.length ≤ 16)
include hn
theorem sLat_l2 (e0 : Bool → Int → Int → Int → List Int → Option Bool) (e1 : Int → Int → Int → List Int → Option Bool) (he : ∀ a b n u, e0 false a b n u = some false) (a b : Nat) (ha : a < up.length) (hb : b < up.length) :
    S.LatOk_l2 fu e0 e1 (a : Int) (b : Int) 0 (up.length : Int) up = if ∀ c, c < up.length → thruP up a b c then e1 a b up.length up else some false := by
  refine allLoopK (fun m i => S.LatOk_l2 m e0 e1 (a : Int) (b : Int) i (up.length : Int) up) up.length (thruP up a b) _ (by omega) (fun i m hi => ?_) (fun m => ?_)
  · show S.LatOk_l2 (m + 1) _ _ _ _ _ _ _ = bif _ then S.LatOk_l2 m _ _ _ _ _ _ _ else _
    have e1' : decide ((0 : Int) ≤ (a : Int) ∧ (a : Int) < (up.length : Int)) = true := decide_eq_true (by omega)
    have e2' : decide ((0 : Int) ≤ (b : Int) ∧ (b : Int) < (up.length : Int)) = true := decide_eq_true (by omega)
    have l1 : ∀ x, S.l01Bit x (i : Int) = some (bit x i) := fun x => l01Bit_eq x _ (by omega) (by omega)
    have l2 : ∀ x, S.l01Bit x (b : Int) = some (bit x b) := fun x => l01Bit_eq x _ (by omega) (by omega)
    rw [S.LatOk_l2, cdp (by omega)]
    simp only [e1', e2', l1, l2, cond_true, Option.bind_some, he]
    rw [w64 (by omega) (by omega)]
    exact cb3 (p := thruP up a b i) Iff.rfl
  · show S.LatOk_l2 (m + 1) _ _ _ _ _ _ _ = _
    rw [S.LatOk_l2, cdn (by omega)]
theorem sLat_l1 (e0 : Bool → Int → Int → List Int → Option Bool) (e1 : Int → Int → List Int → Option Bool) (he : ∀ a n u, e0 false a n u = some false) (a : Nat) (ha : a < up.length) :
    S.LatOk_l1 fu e0 e1 (a : Int) 0 (up.length : Int) up = if ∀ b, b < up.length → pairP up a b then e1 a up.length up else some false := by
  refine allLoopK (fun m i => S.LatOk_l1 m e0 e1 (a : Int) i (up.length : Int) up) up.length (pairP up a) _ (by omega) (fun i m hi => ?_) (fun m => ?_)
  · show S.LatOk_l1 (m + 1) _ _ _ _ _ _ = bif _ then S.LatOk_l1 m _ _ _ _ _ _ else _
    have e1' : decide ((0 : Int) ≤ (a : Int) ∧ (a : Int) < (up.length : Int)) = true := decide_eq_true (by omega)
    have e2' : decide ((0 : Int) ≤ (i : Int) ∧ (i : Int) < (up.length : Int)) = true := decide_eq_true (by omega)
    have l1 : ∀ x, S.l01Bit x (i : Int) = some (bit x i) := fun x => l01Bit_eq x _ (by omega) (by omega)
    have l2 : ∀ x, S.l01Bit x (a : Int) = some (bit x a) := fun x => l01Bit_eq x _ (by omega) (by omega)
    rw [S.LatOk_l1, cdp (by omega)]
    simp only [e1', e2', l1, l2, cond_true, Option.bind_some, he]
    rw [sLat_l2 up hn (fun y32 y33 y34 y35 y36 => e0 y32 y33 y35 y36) _ (fun _ _ _ _ => he _ _ _) a i ha hi]
    rw [w64 (by omega) (by omega)]
    by_cases q : ∀ c, c < up.length → thruP up a i c
    · rw [if_pos q]
      by_cases e : (a : Int) = (i : Int)
      · rw [cnn e, cdp (show pairP up a i from ⟨fun h => absurd (by omega) h, q⟩)]
        rfl
      · rw [cnp e]
        exact cb2 (p := pairP up a i) (x := leB up a i) (y := leB up i a) ⟨fun h => h.1 (by omega), fun h => ⟨fun _ => h, q⟩⟩
    · rw [if_neg q, cdn (fun h : pairP up a i => q h.2)]
      change (bif _ then (bif leB up a i then (bif leB up i a then _ else _) else _) else _) = _
      cases ((a : Int) != (i : Int)) <;> cases leB up a i <;> cases leB up i a <;> rfl
  · show S.LatOk_l1 (m + 1) _ _ _ _ _ _ = _
    rw [S.LatOk_l1, cdn (by omega)]
theorem sLat_l0 (e0 : Bool → Int → List Int → Option Bool) (e1 : Int → List Int → Option Bool) (he : ∀ n u, e0 false n u = some false) :
    S.LatOk_l0 fu e0 e1 0 (up.length : Int) up = if ∀ a, a < up.length → lowP up a ∧ ordP up a then e1 up.length up else some false := by
  refine allLoopK (fun m i => S.LatOk_l0 m e0 e1 i (up.length : Int) up) up.length (fun a => lowP up a ∧ ordP up a) _ (by omega) (fun i m hi => ?_) (fun m => ?_)
  · show S.LatOk_l0 (m + 1) _ _ _ _ _ = bif _ then S.LatOk_l0 m _ _ _ _ _ else _
    have e2' : decide ((0 : Int) ≤ (i : Int) ∧ (i : Int) < (up.length : Int)) = true := decide_eq_true (by omega)
    have l1 : ∀ x, S.l01Bit x (i : Int) = some (bit x i) := fun x => l01Bit_eq x _ (by omega) (by omega)
    rw [S.LatOk_l0, cdp (by omega)]
    simp only [e2', l1, cond_true, Option.bind_some, he, power_eq up.length hn]
    rw [sLat_l1 up hn (fun y62 y63 y64 y65 => e0 y62 y64 y65) _ (fun _ _ _ => he _ _) i hi]
    rw [w64 (by omega) (by omega)]
    change (bif !leB up i i then _ else _) = _
    by_cases c : leB up i i = true
    · rw [c, Bool.not_true, cond_false]
      by_cases c1 : 2 ^ up.length ≤ nthI up (i : Int) 0
      · rw [cdp c1, cdn (fun h : lowP up i ∧ ordP up i => by have := h.1; unfold lowP at this; omega)]
      · rw [cdn c1]
        by_cases q : ∀ b, b < up.length → pairP up i b
        · rw [if_pos q, cdp (show lowP up i ∧ ordP up i from ⟨by unfold lowP; omega, c, q⟩)]
          rfl
        · rw [if_neg q, cdn (fun h : lowP up i ∧ ordP up i => q h.2.2)]
    · rw [Bool.eq_false_iff.2 c, cdn (fun h : lowP up i ∧ ordP up i => c h.2.1)]
      rfl
  · show S.LatOk_l0 (m + 1) _ _ _ _ _ = _
    rw [S.LatOk_l0, cdn (by omega)]
theorem sLat_l4 (e0 : Bool → Int → Int → List Int → Option Bool) (e1 : Int → Int → List Int → Option Bool) (he : ∀ a n u, e0 false a n u = some false) (a : Nat) (ha : a < up.length) :
    S.LatOk_l4 fu e0 e1 (a : Int) 0 (up.length : Int) up = if ∀ b, b < a → bndP up a b then e1 a up.length up else some false := by
  refine allLoopK (fun m i => S.LatOk_l4 m e0 e1 (a : Int) i (up.length : Int) up) a (bndP up a) _ (by omega) (fun i m hi => ?_) (fun m => ?_)
  · show S.LatOk_l4 (m + 1) _ _ _ _ _ _ = bif _ then S.LatOk_l4 m _ _ _ _ _ _ else _
    rw [S.LatOk_l4, cdp (by omega)]
    simp only [sBound_eq up hn (a : Int) (i : Int) _ (by omega) (by omega), Option.bind_some, he]
    rw [w64 (by omega) (by omega)]
    by_cases c1 : bndF up true a i < 0
    · rw [cdp c1, cdn (fun h : bndP up a i => by have := h.1; omega)]
    · rw [cdn c1]
      by_cases c2 : bndF up false a i < 0
      · rw [cdp c2, cdn (fun h : bndP up a i => by have := h.2; omega)]
      · rw [cdn c2, cdp (show bndP up a i from ⟨by omega, by omega⟩)]
        rfl
  · show S.LatOk_l4 (m + 1) _ _ _ _ _ _ = _
    rw [S.LatOk_l4, cdn (by omega)]
theorem sLat_l3 : S.LatOk_l3 fu (fun y => some y) (some true) 0 (up.length : Int) up = some (decide (∀ a, a < up.length → ∀ b, b < a → bndP up a b) && true) := by
  refine allLoop (fun m i => S.LatOk_l3 m (fun y => some y) (some true) i (up.length : Int) up) up.length (fun a => ∀ b, b < a → bndP up a b) true (by omega) (fun i m hi => ?_) (fun m => ?_)
  · show S.LatOk_l3 (m + 1) _ _ _ _ _ = bif _ then S.LatOk_l3 m _ _ _ _ _ else _
    rw [S.LatOk_l3, cdp (by omega)]
    rw [sLat_l4 up hn (fun y89 y90 y91 y92 => some y89) _ (fun _ _ _ => rfl) i hi, w64 (by omega) (by omega)]
    by_cases q : ∀ b, b < i → bndP up i b
    · rw [if_pos q, cdp q]; rfl
    · rw [if_neg q, cdn q]
  · show S.LatOk_l3 (m + 1) _ _ _ _ _ = _
    rw [S.LatOk_l3, cdn (by omega)]
theorem iOrd_l2 (e0 : Bool → Int → Int → Int → Int → Int → Int → List Int → Option Bool) (e1 : Int → Int → Int → Int → Int → Int → List Int → Option Bool) (he : ∀ a b c d e f u, e0 false a b c d e f u = some false) (a b : Nat) (ha : a < up.length) (hb : b < up.length) (x y z w : Int) :
    I.Lat_isOrder_l2 fu e0 e1 (a : Int) (b : Int) x y z w (up.length : Int) 0 (up.length : Int) up = if ∀ c, c < up.length → thruP up a b c then e1 a x y z w up.length up else some false := by
  refine allLoopK (fun m i => I.Lat_isOrder_l2 m e0 e1 (a : Int) (b : Int) x y z w (up.length : Int) i (up.length : Int) up) up.length (thruP up a b) _ (by omega) (fun i m hi => ?_) (fun m => ?_)
  · show I.Lat_isOrder_l2 (m + 1) _ _ _ _ _ _ _ _ _ _ _ _ = bif _ then I.Lat_isOrder_l2 m _ _ _ _ _ _ _ _ _ _ _ _ else _
    rw [I.Lat_isOrder_l2, cdp (by omega)]
    simp only [latLe_eq _ (a : Int) (b : Int) up (by omega) (by omega), latLe_eq _ (b : Int) (i : Int) up (by omega) (by omega), latLe_eq _ (a : Int) (i : Int) up (by omega) (by omega), Option.bind_some, he]
    rw [w64 (by omega) (by omega)]
    exact cb3 (p := thruP up a b i) Iff.rfl
  · show I.Lat_isOrder_l2 (m + 1) _ _ _ _ _ _ _ _ _ _ _ _ = _
    rw [I.Lat_isOrder_l2, cdn (by omega)]
theorem iOrd_l1 (e0 : Bool → Int → Int → Int → List Int → Option Bool) (e1 : Int → Int → Int → List Int → Option Bool) (he : ∀ a b c u, e0 false a b c u = some false) (a : Nat) (ha : a < up.length) (x y : Int) :
    I.Lat_isOrder_l1 fu e0 e1 (a : Int) x y (up.length : Int) 0 (up.length : Int) up = if ∀ b, b < up.length → pairP up a b then e1 x y up.length up else some false := by
  refine allLoopK (fun m i => I.Lat_isOrder_l1 m e0 e1 (a : Int) x y (up.length : Int) i (up.length : Int) up) up.length (pairP up a) _ (by omega) (fun i m hi => ?_) (fun m => ?_)
  · show I.Lat_isOrder_l1 (m + 1) _ _ _ _ _ _ _ _ _ = bif _ then I.Lat_isOrder_l1 m _ _ _ _ _ _ _ _ _ else _
    rw [I.Lat_isOrder_l1, cdp (by omega)]
    simp only [latLe_eq _ (a : Int) (i : Int) up (by omega) (by omega), latLe_eq _ (i : Int) (a : Int) up (by omega) (by omega), Option.bind_some, he]
    rw [iOrd_l2 up hn (fun y36 y37 y38 y39 y40 y41 y42 y43 => e0 y36 y38 y39 y42 y43) _ (fun _ _ _ _ _ _ _ => he _ _ _ _) a i ha hi x y (up.length : Int) (i : Int)]
    rw [w64 (by omega) (by omega)]
    by_cases q : ∀ c, c < up.length → thruP up a i c
    · rw [if_pos q]
      by_cases e : (a : Int) = (i : Int)
      · rw [cnn e, cdp (show pairP up a i from ⟨fun h => absurd (by omega) h, q⟩)]
        rfl
      · rw [cnp e]
        exact cb2 (p := pairP up a i) ⟨fun h => h.1 (by omega), fun h => ⟨fun _ => h, q⟩⟩
    · rw [if_neg q, cdn (fun h : pairP up a i => q h.2)]
      cases ((a : Int) != (i : Int)) <;> cases leB up a i <;> cases leB up i a <;> rfl
  · show I.Lat_isOrder_l1 (m + 1) _ _ _ _ _ _ _ _ _ = _
    rw [I.Lat_isOrder_l1, cdn (by omega)]
theorem iOrd_eq : I.Lat_isOrder (up.length : Int) up = some (decide (∀ a, a < up.length → ordP up a) && true) := by
  unfold I.Lat_isOrder
  refine allLoop (fun m i => I.Lat_isOrder_l0 m (fun y => some y) (some true) (up.length : Int) i (up.length : Int) up) up.length (ordP up) true (by omega) (fun i m hi => ?_) (fun m => ?_)
  · show I.Lat_isOrder_l0 (m + 1) _ _ _ _ _ _ = bif _ then I.Lat_isOrder_l0 m _ _ _ _ _ _ else _
    rw [I.Lat_isOrder_l0, cdp (by omega)]
    simp only [latLe_eq _ (i : Int) (i : Int) up (by omega) (by omega), Option.bind_some]
    rw [iOrd_l1 up hn (fun y84 y85 y86 y87 y88 => some y84) _ (fun _ _ _ _ => rfl) i hi (up.length : Int) (i : Int)]
    rw [w64 (by omega) (by omega)]
    by_cases c : leB up i i = true
    · rw [c, Bool.not_true, cond_false]
      by_cases q : ∀ b, b < up.length → pairP up i b
      · rw [if_pos q, cdp (show ordP up i from ⟨c, q⟩)]
        rfl
      · rw [if_neg q, cdn (fun h : ordP up i => q h.2)]
    · rw [Bool.eq_false_iff.2 c, cdn (fun h : ordP up i => c h.1)]
      rfl
  · show I.Lat_isOrder_l0 (m + 1) _ _ _ _ _ _ = _
    rw [I.Lat_isOrder_l0, cdn (by omega)]
theorem iLat_l2 (e0 : Bool → Int → Int → Int → List Int → Option Bool) (e1 : Int → Int → Int → List Int → Option Bool) (he : ∀ a b n u, e0 false a b n u = some false) (a : Nat) (ha : a < up.length) (x y : Int) :
    I.isLat_l2 fu e0 e1 (a : Int) x y (up.length : Int) 0 (up.length : Int) up = if ∀ b, b < up.length → bndP up a b then e1 x y up.length up else some false := by
  refine allLoopK (fun m i => I.isLat_l2 m e0 e1 (a : Int) x y (up.length : Int) i (up.length : Int) up) up.length (bndP up a) _ (by omega) (fun i m hi => ?_) (fun m => ?_)
  · show I.isLat_l2 (m + 1) _ _ _ _ _ _ _ _ _ = bif _ then I.isLat_l2 m _ _ _ _ _ _ _ _ _ else _
    rw [I.isLat_l2, cdp (by omega)]
    simp only [iBound_eq up hn (a : Int) (i : Int) _ (by omega) (by omega), Option.bind_some, he]
    rw [w64 (by omega) (by omega)]
    by_cases c1 : bndF up true a i < 0
    · rw [cdp c1, cdn (fun h : bndP up a i => by have := h.1; omega)]
    · rw [cdn c1]
      by_cases c2 : bndF up false a i < 0
      · rw [cdp c2, cdn (fun h : bndP up a i => by have := h.2; omega)]
      · rw [cdn c2, cdp (show bndP up a i from ⟨by omega, by omega⟩)]
        rfl
  · show I.isLat_l2 (m + 1) _ _ _ _ _ _ _ _ _ = _
    rw [I.isLat_l2, cdn (by omega)]
theorem iLat_l1 : I.isLat_l1 fu (fun y => some y) (some true) (up.length : Int) 0 (up.length : Int) up = some (decide (∀ a, a < up.length → ∀ b, b < up.length → bndP up a b) && true) := by
  refine allLoop (fun m i => I.isLat_l1 m (fun y => some y) (some true) (up.length : Int) i (up.length : Int) up) up.length (fun a => ∀ b, b < up.length → bndP up a b) true (by omega) (fun i m hi => ?_) (fun m => ?_)
  · show I.isLat_l1 (m + 1) _ _ _ _ _ _ = bif _ then I.isLat_l1 m _ _ _ _ _ _ else _
    rw [I.isLat_l1, cdp (by omega)]
    rw [iLat_l2 up hn (fun y38 y39 y40 y41 y42 => some y38) _ (fun _ _ _ _ => rfl) i hi (up.length : Int) (i : Int), w64 (by omega) (by omega)]
    by_cases q : ∀ b, b < up.length → bndP up i b
    · rw [if_pos q, cdp q]; rfl
    · rw [if_neg q, cdn q]
  · show I.isLat_l1 (m + 1) _ _ _ _ _ _ = _
    rw [I.isLat_l1, cdn (by omega)]
theorem iLat_l0 (hu : ∀ y ∈ up, (Lit.int .u64 y).wf = true) (e0 : Bool → Int → List Int → Option Bool) (e1 : Int → List Int → Option Bool) (he : ∀ n u, e0 false n u = some false) :
    I.isLat_l0 fu e0 e1 (up.length : Int) 0 (up.length : Int) up = if ∀ a, a < up.length → lowP up a then e1 up.length up else some false := by
  refine allLoopK (fun m i => I.isLat_l0 m e0 e1 (up.length : Int) i (up.length : Int) up) up.length (lowP up) _ (by omega) (fun i m hi => ?_) (fun m => ?_)
  · show I.isLat_l0 (m + 1) _ _ _ _ _ _ = bif _ then I.isLat_l0 m _ _ _ _ _ _ else _
    have h0 := (u64_wf (hu _ (nthI_mem up i 0 hi))).1
    rw [I.isLat_l0, cdp (by omega), cdp (show (0 : Int) ≤ (i : Int) ∧ (i : Int) < (up.length : Int) by omega), cdp (show (0 : Int) ≤ (up.length : Int) by omega), he, w64 (by omega) (by omega)]
    have e1 : min (Int.toNat (up.length : Int)) (IntKind.bits .u64) = up.length := by
      rw [Int.toNat_natCast]
      exact Nat.min_eq_left (by have : IntKind.bits .u64 = 64 := rfl; omega)
    have hp : (0 : Int) < 2 ^ up.length := Int.pow_pos (by omega)
    rw [e1, Int.fdiv_eq_ediv_of_nonneg _ (by omega)]
    have hiff : nthI up (i : Int) 0 / 2 ^ up.length = 0 ↔ lowP up i := by
      unfold lowP
      constructor
      · intro h
        by_cases c : nthI up (i : Int) 0 < 2 ^ up.length
        · exact c
        · have := (Int.le_ediv_iff_mul_le hp).2 (show 1 * 2 ^ up.length ≤ nthI up (i : Int) 0 by omega)
          omega
      · intro h
        exact Int.ediv_eq_zero_of_lt h0 h
    by_cases c : lowP up i
    · rw [cnn (hiff.2 c), cdp c]; rfl
    · rw [cnp (fun h => c (hiff.1 h)), cdn c]
  · show I.isLat_l0 (m + 1) _ _ _ _ _ _ = _
    rw [I.isLat_l0, cdn (by omega)]
end
theorem bnd_iff (up : List Int) (u : Bool) (a b : Int) : 0 ≤ bndF up u a b ↔ ∃ c, c < up.length ∧ fitsB up u a b c = true := by
  unfold bndF
  split
  · rename_i c hc
    refine ⟨fun _ => ⟨c, ?_, List.find?_some hc⟩, fun _ => by omega⟩
    exact List.mem_range.1 (List.mem_of_find?_eq_some hc)
  · rename_i hc
    refine ⟨fun h => by omega, ?_⟩
    rintro ⟨c, h1, h2⟩
    exact absurd h2 (List.find?_eq_none.1 hc c (List.mem_range.2 h1))
theorem fits_comm (up : List Int) (u : Bool) (a b : Int) (c : Nat) : fitsB up u a b c = fitsB up u b a c := by
  unfold fitsB
  have : okD up u a b (c : Int) = okD up u b a (c : Int) := by
    funext d
    unfold okD
    rw [Bool.and_comm (sideB up a (d : Int) u)]
  rw [this, ← Bool.and_assoc, Bool.and_comm (sideB up a (c : Int) u), Bool.and_assoc]
theorem bnd_comm (up : List Int) (u : Bool) (a b : Int) (h : 0 ≤ bndF up u a b) : 0 ≤ bndF up u b a := by
  obtain ⟨c, h1, h2⟩ := (bnd_iff up u a b).1 h
  exact (bnd_iff up u b a).2 ⟨c, h1, by rw [fits_comm]; exact h2⟩
theorem bnd_self (up : List Int) (u : Bool) (a : Nat) (ha : a < up.length) (h : leB up a a = true) : 0 ≤ bndF up u a a := by
  refine (bnd_iff up u a a).2 ⟨a, ha, ?_⟩
  have h1 : sideB up a a u = true := by unfold sideB; cases u <;> exact h
  unfold fitsB
  rw [h1, Bool.true_and, Bool.true_and, List.all_eq_true]
  intro d _
  unfold okD
  cases sideB up a (d : Int) u <;> rfl
theorem sLatOk_eq (n : Int) (up : List Int) : S.LatOk n up = some (decide (latOk n up)) := by
  unfold S.LatOk
  by_cases h1 : n < 1
  · rw [cdp h1]; exact sfal fun h => by have := h.1; omega
  rw [cdn h1]
  by_cases h2 : 16 < n
  · rw [cdp h2]; exact sfal fun h => by have := h.1; omega
  rw [cdn h2]
  by_cases h3 : (up.length : Int) ≠ n
  · rw [cnp h3]; exact sfal fun h => h3 h.2.1
  have h3 := Decidable.not_not.1 h3
  subst h3
  have hn : up.length ≤ 16 := by omega
  rw [cnn rfl, sLat_l0 up hn (fun y70 y71 y72 => some y70) _ (fun _ _ => rfl)]
  by_cases h4 : ¬ ∀ a, a < up.length → lowP up a ∧ ordP up a
  · rw [if_neg h4]; exact sfal fun h => h4 fun a ha => ⟨h.2.2.1 a ha, h.2.2.2.1 a ha⟩
  have h4 := Decidable.not_not.1 h4
  rw [if_pos h4, sLat_l3 up hn, Bool.and_true]
  refine sdec ⟨fun h => ⟨by omega, rfl, fun a ha => (h4 a ha).1, fun a ha => (h4 a ha).2, fun a ha b hb => ?_⟩, fun h a ha b hb => h.2.2.2.2 a ha b (by omega)⟩
  rcases Nat.lt_trichotomy a b with q | q | q
  · exact ⟨bnd_comm _ _ _ _ (h b hb a q).1, bnd_comm _ _ _ _ (h b hb a q).2⟩
  · subst q
    exact ⟨bnd_self up true a ha (h4 a ha).2.1, bnd_self up false a ha (h4 a ha).2.1⟩
  · exact h a ha b q
theorem iLatOk_eq (n : Int) (up : List Int) (hu : ∀ y ∈ up, (Lit.int .u64 y).wf = true) : I.isLat n up = some (decide (latOk n up)) := by
  unfold I.isLat
  rw [in_eq, Option.bind_some, cnotb]
  by_cases h1 : ¬ (1 ≤ n ∧ n ≤ 16)
  · rw [cdn h1]; exact sfal fun h => h1 h.1
  have h1 := Decidable.not_not.1 h1
  rw [cdp h1]
  by_cases h3 : (up.length : Int) ≠ n
  · rw [cnp h3]; exact sfal fun h => h3 h.2.1
  have h3 := Decidable.not_not.1 h3
  subst h3
  have hn : up.length ≤ 16 := by omega
  rw [cnn rfl, iLat_l0 up hn hu (fun y14 y15 y16 => some y14) _ (fun _ _ => rfl)]
  by_cases h4 : ¬ ∀ a, a < up.length → lowP up a
  · rw [if_neg h4]; exact sfal fun h => h4 h.2.2.1
  have h4 := Decidable.not_not.1 h4
  rw [if_pos h4, iOrd_eq up hn, Bool.and_true, Option.bind_some, cnotb]
  by_cases h5 : ¬ ∀ a, a < up.length → ordP up a
  · rw [cdn h5]; exact sfal fun h => h5 h.2.2.2.1
  have h5 := Decidable.not_not.1 h5
  rw [cdp h5, iLat_l1 up hn, Bool.and_true]
  exact sdec ⟨fun h => ⟨h1, rfl, h4, h5, h⟩, fun h => h.2.2.2.2⟩
/-! Labels of a lattice -/
theorem here_eq (n a : Int) (up : List Int) : S.l01Here n a up = some (decide (0 ≤ a ∧ a < n)) := by unfold S.l01Here; rw [cds]
theorem has_eq (n a : Int) (up : List Int) (h : 0 ≤ n ∧ n ≤ 100) : I.Lat_has n a up = some (decide (0 ≤ a ∧ a < n)) := by
  unfold I.Lat_has
  rw [in_eq, w64 (by omega) (by omega)]
  exact sdec (by omega)
/-! Boxes -/
theorem l06Win_eq (a b : Int) : S.l06Win a b = some (decide (0 ≤ a ∧ a < b ∧ b ≤ 1100)) := by unfold S.l06Win; simp only [cds]
theorem isWin_eq (a b : Int) : I.isWin a b = some (decide (0 ≤ a ∧ a < b ∧ b ≤ 1100)) := by unfold I.isWin; simp only [cds]
theorem isId_eq (a : Int) : I.isId a = some (decide (0 ≤ a ∧ a ≤ 3)) := by unfold I.isId; rw [in_eq]; rfl
def paneOk (p : TPane) : Prop := (0 ≤ p.1 ∧ p.1 ≤ 3) ∧ (0 ≤ p.2.1 ∧ p.2.1 ≤ 15) ∧ (0 ≤ p.2.2.1 ∧ p.2.2.1 < p.2.2.2.1 ∧ p.2.2.2.1 ≤ 1100) ∧ (0 ≤ p.2.2.2.2.1 ∧ p.2.2.2.2.1 ≤ 15) ∧ (1 ≤ p.2.2.2.2.2.1 ∧ p.2.2.2.2.2.1 ≤ 1000000) ∧ p.2.2.2.2.2.2.1.length ≤ 4 ∧ (((p.2.2.2.2.2.2.1.length : Int) == 0) == p.2.2.2.2.2.2.2) = true
instance (p : TPane) : Decidable (paneOk p) := by unfold paneOk; exact inferInstance
theorem sPaneOk_eq (p : TPane) : S.PaneOk p.1 p.2.1 p.2.2.1 p.2.2.2.1 p.2.2.2.2.1 p.2.2.2.2.2.1 p.2.2.2.2.2.2.2 p.2.2.2.2.2.2.1 = some (decide (paneOk p)) := by
  unfold S.PaneOk
  simp only [l04Key_eq, l06Win_eq, Option.bind_some, Bool.cond_eq_ite, decide_eq_true_eq, Bool.not_eq_true', decide_eq_false_iff_not]
  repeat' split
  all_goals first
    | exact sfal (by unfold paneOk; omega)
    | (refine sbool ?_; unfold paneOk; generalize (((p.2.2.2.2.2.2.1.length : Int) == 0) == p.2.2.2.2.2.2.2) = q; cases q <;> simp only [and_true, and_false, Bool.false_eq_true, true_iff, iff_self] <;> omega)
theorem iPaneOk_eq (p : TPane) : I.isPane p.1 p.2.1 p.2.2.1 p.2.2.2.1 p.2.2.2.2.1 p.2.2.2.2.2.1 p.2.2.2.2.2.2.2 p.2.2.2.2.2.2.1 = some (decide (paneOk p)) := by
  unfold I.isPane
  simp only [isId_eq, isKey_eq, isWin_eq, in_eq, Option.bind_some, Bool.cond_eq_ite, decide_eq_true_eq]
  repeat' split
  all_goals first
    | exact sfal (by unfold paneOk; omega)
    | (refine sbool ?_; unfold paneOk; generalize (((p.2.2.2.2.2.2.1.length : Int) == 0) == p.2.2.2.2.2.2.2) = q; cases q <;> simp only [and_true, and_false, Bool.false_eq_true, true_iff, iff_self] <;> omega)
section
end
/-! A loop that picks -/
theorem filterLoop {β γ : Type} (F : Nat → Int → List β → Option γ) (n : Nat) (p : Nat → Bool) (g : Nat → β) (E : List β → Option γ) (hn : n ≤ 1000000000000)
    (hs : ∀ (i m : Nat) (acc : List β), i < n → acc.length ≤ i → F (m + 1) (i : Int) acc = bif p i then F m ((i + 1 : Nat) : Int) (acc ++ [g i]) else F m ((i + 1 : Nat) : Int) acc)
    (he : ∀ (m : Nat) (acc : List β), F (m + 1) (n : Int) acc = E acc) : F fu 0 [] = E (((List.range n).filter p).map g) := by
  obtain ⟨M, hM⟩ := fu_ge n hn
  have h1 : ∀ k i : Nat, ∀ acc : List β, i + k = n → acc.length ≤ i → F (k + 1 + M) (i : Int) acc = E (acc ++ ((List.range' i k).filter p).map g) := by
    intro k
    induction k with
    | zero =>
      intro i acc hi ha
      obtain rfl : i = n := by omega
      rw [show 0 + 1 + M = M + 1 from by omega, he]
      simp
    | succ k ih =>
      intro i acc hi ha
      rw [show k + 1 + 1 + M = (k + 1 + M) + 1 from by omega, List.range'_succ, List.filter_cons, hs i _ acc (by omega) ha]
      cases hp : p i with
      | true =>
        rw [cond_true, ih (i + 1) _ (by omega) (by simp; omega)]
        simp
      | false =>
        rw [cond_false, ih (i + 1) _ (by omega) (by omega)]
        simp
  rw [hM, List.range_eq_range']
  exact h1 n 0 [] (by omega) (by simp)
/-! Boxes in new memory -/
theorem range_nth {α : Type} (a : List α) (d : α) : ((List.range a.length).filter fun _ => true).map (fun i : Nat => nthI a (i : Int) d) = a := by
  rw [List.filter_eq_self.2 (fun _ _ => rfl)]
  apply List.ext_getElem?
  intro i
  rw [List.getElem?_map]
  by_cases h : i < a.length
  · rw [List.getElem?_range h, List.getElem?_eq_getElem h, Option.map_some, nthI_nat, List.getD_eq_getElem?_getD, List.getElem?_eq_getElem h]
    rfl
  · rw [List.getElem?_eq_none (by simp; omega), List.getElem?_eq_none (by omega)]
    rfl
theorem copyLoop {α γ : Type} (F : Nat → Int → List α → Option γ) (a : List α) (d : α) (E : List α → Option γ) (hn : a.length ≤ 1000000000000)
    (hs : ∀ (i m : Nat) (acc : List α), i < a.length → acc.length ≤ i → F (m + 1) (i : Int) acc = F m ((i + 1 : Nat) : Int) (acc ++ [nthI a (i : Int) d]))
    (he : ∀ (m : Nat) (acc : List α), F (m + 1) (a.length : Int) acc = E acc) : F fu 0 [] = E a := by
  have := filterLoop F a.length (fun _ => true) (fun i => nthI a (i : Int) d) E hn (fun i m acc h1 h2 => hs i m acc h1 h2) he
  rw [this, range_nth]
theorem cloneInt_eq (a : List Int) (h : a.length ≤ 1048576) : G.slices.Clone_int a = some a := by
  unfold G.slices.Clone_int
  by_cases h0 : a.length = 0
  · obtain rfl := List.eq_nil_of_length_eq_zero h0
    rw [cdp h0, cdp (by simp only [List.length_nil]; omega)]
    exact same_self _
  · rw [cdn h0, List.nil_append, cdp (by simp only [List.length_nil]; omega)]
/-! Panes that are combined -/
def fitP (n : Int) (p : TPane) : Prop := paneOk p ∧ (0 ≤ p.2.2.2.2.1 ∧ p.2.2.2.2.1 < n) ∧ p.2.2.2.2.2.1 ≤ 1000
instance (n : Int) (p : TPane) : Decidable (fitP n p) := by unfold fitP; exact inferInstance
def fitsP (n : Int) (l : List TPane) : Prop := (l.length : Int) ≤ 100 ∧ ∀ i, i < l.length → fitP n (nthI l (i : Int) ((0 : Int), ((0 : Int), ((0 : Int), ((0 : Int), ((0 : Int), ((0 : Int), ([], false))))))))
instance (n : Int) (l : List TPane) : Decidable (fitsP n l) := by unfold fitsP; exact inferInstance
theorem sFits_eq (n : Int) (up : List Int) (l : List TPane) : S.l15Fits n up l = some (decide (fitsP n l)) := by
  unfold S.l15Fits
  by_cases h : (l.length : Int) ≤ 100
  · rw [cdn (by omega)]
    refine (allLoop (fun m i => S.l15Fits_l0 m (fun y16 => some y16) (some true) i n l up) l.length (fun i : Nat => fitP n (nthI l (i : Int) ((0 : Int), ((0 : Int), ((0 : Int), ((0 : Int), ((0 : Int), ((0 : Int), ([], false))))))))) true (by omega) (fun i m hi => ?_) (fun m => ?_)).trans ?_
    · show S.l15Fits_l0 (m + 1) _ _ _ _ _ _ = bif _ then S.l15Fits_l0 m _ _ _ _ _ _ else _
      have hdec : decide ((0 : Int) ≤ (i : Int) ∧ (i : Int) < (l.length : Int)) = true := decide_eq_true (by omega)
      have hp := sPaneOk_eq (nthI l (i : Int) ((0 : Int), ((0 : Int), ((0 : Int), ((0 : Int), ((0 : Int), ((0 : Int), ([], false))))))))
      rw [S.l15Fits_l0, cdp (by omega)]
      simp only [hdec, cond_true, hp, here_eq, Option.bind_some]
      rw [w64 (by omega) (by omega)]
      generalize nthI l (i : Int) ((0 : Int), ((0 : Int), ((0 : Int), ((0 : Int), ((0 : Int), ((0 : Int), ([], false))))))) = p
      by_cases q1 : paneOk p
      · rw [decide_eq_true q1, Bool.not_true, cond_false]
        by_cases q2 : 0 ≤ p.2.2.2.2.1 ∧ p.2.2.2.2.1 < n
        · rw [decide_eq_true q2, Bool.not_true, cond_false]
          by_cases q3 : p.2.2.2.2.2.1 ≤ 1000
          · rw [cdn (by omega), cdp (show fitP n p from ⟨q1, q2, q3⟩)]
            rfl
          · rw [cdp (by omega), cdn (fun hh : fitP n p => q3 hh.2.2)]
        · rw [decide_eq_false q2, Bool.not_false, cond_true, cdn (fun hh : fitP n p => q2 hh.2.1)]
      · rw [decide_eq_false q1, Bool.not_false, cond_true, cdn (fun hh : fitP n p => q1 hh.1)]
    · show S.l15Fits_l0 (m + 1) _ _ _ _ _ _ = _
      rw [S.l15Fits_l0, cdn (by omega)]
    · rw [Bool.and_true]
      congr 1
      apply decide_eq_decide.2
      exact ⟨fun hh => ⟨h, hh⟩, fun hh => hh.2⟩
  · rw [cdp (by omega), decide_eq_false (fun hh : fitsP n l => h hh.1)]
theorem areBoth1_eq (n : Int) (up : List Int) (p : TPane) (hn : 0 ≤ n ∧ n ≤ 100) : I.areBoth_1 p.1 p.2.1 p.2.2.1 p.2.2.2.1 p.2.2.2.2.1 p.2.2.2.2.2.1 p.2.2.2.2.2.2.2 n up p.2.2.2.2.2.2.1 = some (!decide (fitP n p), n, up) := by
  unfold I.areBoth_1
  simp only [iPaneOk_eq, has_eq n _ up hn, Option.bind_some]
  by_cases q1 : paneOk p
  · rw [decide_eq_true q1, Bool.not_true, cond_false]
    by_cases q2 : 0 ≤ p.2.2.2.2.1 ∧ p.2.2.2.2.1 < n
    · rw [decide_eq_true q2, Bool.not_true, cond_false]
      by_cases q3 : p.2.2.2.2.2.1 ≤ 1000
      · rw [decide_eq_true (show fitP n p from ⟨q1, q2, q3⟩), decide_eq_false (by omega)]; rfl
      · rw [decide_eq_false (fun hh : fitP n p => q3 hh.2.2), decide_eq_true (by omega)]; rfl
    · rw [decide_eq_false q2, Bool.not_false, cond_true, decide_eq_false (fun hh : fitP n p => q2 hh.2.1)]; rfl
  · rw [decide_eq_false q1, Bool.not_false, cond_true, decide_eq_false (fun hh : fitP n p => q1 hh.1)]; rfl
theorem iFits_eq (n : Int) (up : List Int) (l : List TPane) (hn : 0 ≤ n ∧ n ≤ 100) : I.areBoth n up l = some (decide (fitsP n l)) := by
  unfold I.areBoth
  by_cases h : (l.length : Int) ≤ 100
  · rw [cdp h]
    have hi : G.slices.IndexFunc_Pane n up l = match (List.range l.length).find? (fun i : Nat => !decide (fitP n (nthI l (i : Int) ((0 : Int), ((0 : Int), ((0 : Int), ((0 : Int), ((0 : Int), ((0 : Int), ([], false)))))))))) with | some c => some ((c : Int), n, up) | none => some (-1, n, up) := by
      unfold G.slices.IndexFunc_Pane
      refine findLoop (fun m i => G.slices.IndexFunc_Pane_l0 m (fun y13 y14 y15 => some (y13, y14, y15)) (fun y16 y17 => some ((-1), y16, y17)) (l.length : Int) i n up l) l.length (fun i : Nat => !decide (fitP n (nthI l (i : Int) ((0 : Int), ((0 : Int), ((0 : Int), ((0 : Int), ((0 : Int), ((0 : Int), ([], false)))))))))) (fun c => some ((c : Int), n, up)) (some (-1, n, up)) (by omega) (fun i m hi => ?_) (fun m => ?_)
      · show G.slices.IndexFunc_Pane_l0 (m + 1) _ _ _ _ _ _ _ = bif _ then _ else G.slices.IndexFunc_Pane_l0 m _ _ _ _ _ _ _
        have hdec : decide ((0 : Int) ≤ (i : Int) ∧ (i : Int) < (l.length : Int)) = true := decide_eq_true (by omega)
        rw [G.slices.IndexFunc_Pane_l0, cdp (by omega)]
        simp only [hdec, cond_true]
        rw [areBoth1_eq n up (nthI l (i : Int) ((0 : Int), ((0 : Int), ((0 : Int), ((0 : Int), ((0 : Int), ((0 : Int), ([], false)))))))) hn, Option.bind_some, w64 (by omega) (by omega)]
        rfl
      · show G.slices.IndexFunc_Pane_l0 (m + 1) _ _ _ _ _ _ _ = _
        rw [G.slices.IndexFunc_Pane_l0, cdn (by omega)]
    unfold G.slices.ContainsFunc_Pane
    rw [hi]
    cases hf : (List.range l.length).find? (fun i : Nat => !decide (fitP n (nthI l (i : Int) ((0 : Int), ((0 : Int), ((0 : Int), ((0 : Int), ((0 : Int), ((0 : Int), ([], false)))))))))) with
    | none =>
      rw [List.find?_eq_none] at hf
      have : fitsP n l := ⟨h, fun i hi => by have := hf i (List.mem_range.2 hi); simpa using this⟩
      rw [decide_eq_true this]
      rfl
    | some c =>
      have h1 := List.find?_some hf
      have h2 := List.mem_range.1 (List.mem_of_find?_eq_some hf)
      have : ¬ fitsP n l := fun hh => by
        have := hh.2 c h2
        rw [decide_eq_true this] at h1
        cases h1
      rw [decide_eq_false this]
      show some (!decide (0 ≤ (c : Int))) = _
      rw [decide_eq_true (by omega)]
      rfl
  · rw [cdn h, decide_eq_false (fun hh : fitsP n l => h hh.1)]
theorem filterLoopA {β γ : Type} (F : Nat → Int → List β → Option γ) (n N : Nat) (p : Nat → Bool) (g : Nat → β) (E : List β → Option γ) (hn : n ≤ 1000000000000)
    (hs : ∀ (i m : Nat) (acc : List β), i < n → acc.length ≤ N + i → F (m + 1) (i : Int) acc = bif p i then F m ((i + 1 : Nat) : Int) (acc ++ [g i]) else F m ((i + 1 : Nat) : Int) acc)
    (he : ∀ (m : Nat) (acc : List β), F (m + 1) (n : Int) acc = E acc) (acc : List β) (h0 : acc.length ≤ N) : F fu 0 acc = E (acc ++ ((List.range n).filter p).map g) := by
  obtain ⟨M, hM⟩ := fu_ge n hn
  have h1 : ∀ k i : Nat, ∀ acc : List β, i + k = n → acc.length ≤ N + i → F (k + 1 + M) (i : Int) acc = E (acc ++ ((List.range' i k).filter p).map g) := by
    intro k
    induction k with
    | zero =>
      intro i acc hi ha
      obtain rfl : i = n := by omega
      rw [show 0 + 1 + M = M + 1 from by omega, he]
      simp
    | succ k ih =>
      intro i acc hi ha
      rw [show k + 1 + 1 + M = (k + 1 + M) + 1 from by omega, hs i _ acc (by omega) ha, List.range'_succ, List.filter_cons]
      cases hp : p i
      · rw [cond_false, ih (i + 1) acc (by omega) (by omega)]
        rfl
      · rw [cond_true, ih (i + 1) (acc ++ [g i]) (by omega) (by rw [List.length_append]; simp; omega)]
        simp
  rw [hM, List.range_eq_range']
  exact h1 n 0 acc (by omega) (by omega)
theorem accLoop {σ γ : Type} (F : Nat → Int → σ → Option γ) (n : Nat) (P : Nat → σ → Prop) (f : σ → Nat → σ) (E : σ → Option γ) (hn : n ≤ 1000000000000)
    (hs : ∀ (i m : Nat) (s : σ), i < n → P i s → F (m + 1) (i : Int) s = F m ((i + 1 : Nat) : Int) (f s i)) (hP : ∀ i s, i < n → P i s → P (i + 1) (f s i)) (he : ∀ (m : Nat) (s : σ), P n s → F (m + 1) (n : Int) s = E s) (s : σ) (h : P 0 s) :
    F fu 0 s = E ((List.range n).foldl f s) ∧ P n ((List.range n).foldl f s) := by
  obtain ⟨M, hM⟩ := fu_ge n hn
  have h1 : ∀ k i : Nat, ∀ s : σ, i + k = n → P i s → F (k + 1 + M) (i : Int) s = E ((List.range' i k).foldl f s) ∧ P n ((List.range' i k).foldl f s) := by
    intro k
    induction k with
    | zero =>
      intro i s hi hp
      obtain rfl : i = n := by omega
      rw [show 0 + 1 + M = M + 1 from by omega]
      exact ⟨he _ _ hp, hp⟩
    | succ k ih =>
      intro i s hi hp
      rw [show k + 1 + 1 + M = (k + 1 + M) + 1 from by omega, hs i _ s (by omega) hp, List.range'_succ, List.foldl_cons]
      exact ih (i + 1) (f s i) (by omega) (hP i s (by omega) hp)
  rw [hM, List.range_eq_range']
  exact h1 n 0 s (by omega) h
def matchB (p q : TPane) : Bool := p.2.1 == q.2.1 && (p.2.2.1 == q.2.2.1 && p.2.2.2.1 == q.2.2.2.1)
def bothE (up : List Int) (p q : TPane) : TBoth := (p.2.1, p.2.2.1, p.2.2.2.1, bndF up true p.2.2.2.2.1 q.2.2.2.2.1, p.2.2.2.2.2.1 * q.2.2.2.2.2.1, p.2.2.2.2.2.2.1, q.2.2.2.2.2.2.1)
def innerF (up : List Int) (b : List TPane) (p : TPane) : List TBoth := ((List.range b.length).filter fun k : Nat => matchB p (nthI b (k : Int) ((0 : Int), ((0 : Int), ((0 : Int), ((0 : Int), ((0 : Int), ((0 : Int), ([], false))))))))).map fun k : Nat => bothE up p (nthI b (k : Int) ((0 : Int), ((0 : Int), ((0 : Int), ((0 : Int), ((0 : Int), ((0 : Int), ([], false))))))))
def bothF (up : List Int) (a b : List TPane) : List TBoth := (List.range a.length).foldl (fun (acc : List TBoth) (i : Nat) => acc ++ innerF up b (nthI a (i : Int) ((0 : Int), ((0 : Int), ((0 : Int), ((0 : Int), ((0 : Int), ((0 : Int), ([], false))))))))) []
theorem innerF_len (up : List Int) (b : List TPane) (p : TPane) : (innerF up b p).length ≤ b.length := by
  unfold innerF
  rw [List.length_map]
  have := List.length_filter_le (fun k : Nat => matchB p (nthI b (k : Int) ((0 : Int), ((0 : Int), ((0 : Int), ((0 : Int), ((0 : Int), ((0 : Int), ([], false))))))))) (List.range b.length)
  rwa [List.length_range] at this
def bothInv (i : Nat) (acc : List TBoth) : Prop := acc.length ≤ 100 * i ∧ ∀ x ∈ acc, x.2.2.2.2.2.1.length ≤ 4 ∧ x.2.2.2.2.2.2.length ≤ 4
theorem bothInv_step {n : Int} {up : List Int} {a b : List TPane} (ha : fitsP n a) (hb : fitsP n b) {i : Nat} {acc : List TBoth} (hi : i < a.length) (h : bothInv i acc) : bothInv (i + 1) (acc ++ innerF up b (nthI a (i : Int) ((0 : Int), ((0 : Int), ((0 : Int), ((0 : Int), ((0 : Int), ((0 : Int), ([], false))))))))) := by
  have h1 := innerF_len up b (nthI a (i : Int) ((0 : Int), ((0 : Int), ((0 : Int), ((0 : Int), ((0 : Int), ((0 : Int), ([], false))))))))
  have h2 := hb.1
  refine ⟨by rw [List.length_append]; have := h.1; omega, fun x hx => ?_⟩
  rcases List.mem_append.1 hx with hx | hx
  · exact h.2 x hx
  · unfold innerF at hx
    obtain ⟨k, hk, rfl⟩ := List.mem_map.1 hx
    have hk2 := List.mem_range.1 (List.mem_filter.1 hk).1
    exact ⟨(ha.2 i hi).1.2.2.2.2.2.1, (hb.2 k hk2).1.2.2.2.2.2.1⟩
theorem nil_app_len {x : List Int} (h : x.length ≤ 4) : decide ((([] : List Int).length + x.length) * 8 ≤ 140737488355328) = true := decide_eq_true (by simp only [List.length_nil]; omega)
theorem sBothOf_eq (n : Int) (up : List Int) (a b : List TPane) : S.BothOf n up a b = some (if latOk n up ∧ fitsP n a ∧ fitsP n b then (true, bothF up a b) else (false, [])) ∧ (latOk n up ∧ fitsP n a ∧ fitsP n b → bothInv a.length (bothF up a b)) := by
  unfold S.BothOf
  rw [sLatOk_eq, Option.bind_some]
  by_cases c1 : latOk n up
  · obtain ⟨hn, hu⟩ : (1 ≤ n ∧ n ≤ 16) ∧ (up.length : Int) = n := ⟨c1.1, c1.2.1⟩
    subst hu
    rw [decide_eq_true c1, Bool.not_true, cond_false, sFits_eq, Option.bind_some]
    by_cases c2 : fitsP (up.length : Int) a
    · rw [decide_eq_true c2, Bool.not_true, cond_false, sFits_eq, Option.bind_some]
      by_cases c3 : fitsP (up.length : Int) b
      · rw [decide_eq_true c3, Bool.not_true, cond_false, if_pos ⟨c1, c2, c3⟩]
        have ha := c2.1
        have hb := c3.1
        have main := accLoop (fun m i (acc : List TBoth) => S.BothOf_l0 m (fun y44 => some (true, y44)) i (up.length : Int) a b acc up) a.length bothInv (fun (acc : List TBoth) (i : Nat) => acc ++ innerF up b (nthI a (i : Int) ((0 : Int), ((0 : Int), ((0 : Int), ((0 : Int), ((0 : Int), ((0 : Int), ([], false))))))))) (fun acc => some (true, acc)) (by omega) (fun i m acc hi hI => ?_) (fun i acc hi hI => bothInv_step c2 c3 hi hI) (fun m acc hI => ?_) [] ⟨by simp, by simp⟩
        · exact ⟨main.1, fun _ => main.2⟩
        · show S.BothOf_l0 (m + 1) _ _ _ _ _ _ _ = S.BothOf_l0 m _ _ _ _ _ _ _
          rw [S.BothOf_l0, cdp (by omega)]
          refine filterLoopA (fun m' k acc => S.BothOf_l1 m' (fun y37 y38 y39 y40 y41 y42 => S.BothOf_l0 m (fun y44 => some (true, y44)) (IntKind.wrap .i64 (y37 + 1)) y38 y39 y40 y41 y42) (i : Int) k (up.length : Int) a b acc up) b.length (100 * i) (fun k : Nat => matchB (nthI a (i : Int) ((0 : Int), ((0 : Int), ((0 : Int), ((0 : Int), ((0 : Int), ((0 : Int), ([], false)))))))) (nthI b (k : Int) ((0 : Int), ((0 : Int), ((0 : Int), ((0 : Int), ((0 : Int), ((0 : Int), ([], false))))))))) (fun k : Nat => bothE up (nthI a (i : Int) ((0 : Int), ((0 : Int), ((0 : Int), ((0 : Int), ((0 : Int), ((0 : Int), ([], false)))))))) (nthI b (k : Int) ((0 : Int), ((0 : Int), ((0 : Int), ((0 : Int), ((0 : Int), ((0 : Int), ([], false))))))))) (fun acc => S.BothOf_l0 m (fun y44 => some (true, y44)) ((i + 1 : Nat) : Int) (up.length : Int) a b acc up) (by omega) (fun k m' acc hk hacc => ?_) (fun m' acc => ?_) acc hI.1
          · show S.BothOf_l1 (m' + 1) _ _ _ _ _ _ _ _ = bif _ then S.BothOf_l1 m' _ _ _ _ _ _ _ _ else S.BothOf_l1 m' _ _ _ _ _ _ _ _
            have hd1 : decide ((0 : Int) ≤ (i : Int) ∧ (i : Int) < (a.length : Int)) = true := decide_eq_true (by omega)
            have hd2 : decide ((0 : Int) ≤ (k : Int) ∧ (k : Int) < (b.length : Int)) = true := decide_eq_true (by omega)
            obtain ⟨p1, p2, p3⟩ := c2.2 i hi
            obtain ⟨q1, q2, q3⟩ := c3.2 k hk
            rw [S.BothOf_l1, cdp (by omega)]
            simp only [hd1, hd2, cond_true, dup_eq]
            generalize nthI a (i : Int) ((0 : Int), ((0 : Int), ((0 : Int), ((0 : Int), ((0 : Int), ((0 : Int), ([], false))))))) = p at p1 p2 p3 ⊢
            generalize nthI b (k : Int) ((0 : Int), ((0 : Int), ((0 : Int), ((0 : Int), ((0 : Int), ((0 : Int), ([], false))))))) = q at q1 q2 q3 ⊢
            have p4 : 1 ≤ p.2.2.2.2.2.1 := p1.2.2.2.2.1.1
            have q4 : 1 ≤ q.2.2.2.2.2.1 := q1.2.2.2.2.1.1
            have hpq : 0 ≤ p.2.2.2.2.2.1 * q.2.2.2.2.2.1 := Int.mul_nonneg (by omega) (by omega)
            have hpq2 : p.2.2.2.2.2.1 * q.2.2.2.2.2.1 ≤ 1000 * 1000 := Int.mul_le_mul p3 q3 (by omega) (by omega)
            have hb1 := sBound_eq up (by omega) p.2.2.2.2.1 q.2.2.2.2.1 true p2 q2
            have l1 := nil_app_len p1.2.2.2.2.2.1
            have l2 := nil_app_len q1.2.2.2.2.2.1
            have l3 : ∀ v : TBoth, decide ((acc.length + [v].length) * 88 ≤ 140737488355328) = true := fun v => decide_eq_true (by simp only [List.length_cons, List.length_nil]; omega)
            simp only [w64 (n := p.2.2.2.2.2.1 * q.2.2.2.2.2.1) (by omega) (by omega), w64 (n := (k : Int) + 1) (by omega) (by omega), hb1, l1, l2, l3, cond_true, Option.bind_some, List.nil_append, same_self, dup_eq]
            unfold matchB
            cases p.2.1 == q.2.1 <;> cases p.2.2.1 == q.2.2.1 <;> cases p.2.2.2.1 == q.2.2.2.1 <;> rfl
          · show S.BothOf_l1 (m' + 1) _ _ _ _ _ _ _ _ = _
            rw [S.BothOf_l1, cdn (by omega), w64 (by omega) (by omega)]
            rfl
        · show S.BothOf_l0 (m + 1) _ _ _ _ _ _ _ = _
          rw [S.BothOf_l0, cdn (by omega)]
      · rw [decide_eq_false c3, Bool.not_false, cond_true, if_neg (fun h => c3 h.2.2)]
        exact ⟨rfl, fun h => absurd h.2.2 c3⟩
    · rw [decide_eq_false c2, Bool.not_false, cond_true, if_neg (fun h => c2 h.2.1)]
      exact ⟨rfl, fun h => absurd h.2.1 c2⟩
  · rw [decide_eq_false c1, Bool.not_false, cond_true, if_neg (fun h => c1 h.1)]
    exact ⟨rfl, fun h => absurd h.1 c1⟩
theorem iBothOf_eq (n : Int) (up : List Int) (a b : List TPane) (huw : ∀ y ∈ up, (Lit.int .u64 y).wf = true) : I.BothOf n up a b = some (if latOk n up ∧ fitsP n a ∧ fitsP n b then (true, bothF up a b) else (false, [])) := by
  unfold I.BothOf
  rw [iLatOk_eq n up huw, Option.bind_some]
  by_cases c1 : latOk n up
  · obtain ⟨hn, hu⟩ : (1 ≤ n ∧ n ≤ 16) ∧ (up.length : Int) = n := ⟨c1.1, c1.2.1⟩
    subst hu
    rw [decide_eq_true c1, Bool.not_true, cond_false, iFits_eq _ _ _ (by omega), Option.bind_some]
    by_cases c2 : fitsP (up.length : Int) a
    · rw [decide_eq_true c2, Bool.not_true, cond_false, iFits_eq _ _ _ (by omega), Option.bind_some]
      by_cases c3 : fitsP (up.length : Int) b
      · rw [decide_eq_true c3, Bool.not_true, cond_false, if_pos ⟨c1, c2, c3⟩]
        have ha := c2.1
        have hb := c3.1
        refine (accLoop (fun m i (acc : List TBoth) => I.BothOf_l0 m (fun y56 => some (true, y56)) (a.length : Int) i (up.length : Int) b acc a up) a.length bothInv (fun (acc : List TBoth) (i : Nat) => acc ++ innerF up b (nthI a (i : Int) ((0 : Int), ((0 : Int), ((0 : Int), ((0 : Int), ((0 : Int), ((0 : Int), ([], false))))))))) (fun acc => some (true, acc)) (by omega) (fun i m acc hi hI => ?_) (fun i acc hi hI => bothInv_step c2 c3 hi hI) (fun m acc hI => ?_) [] ⟨by simp, by simp⟩).1
        · show I.BothOf_l0 (m + 1) _ _ _ _ _ _ _ _ = I.BothOf_l0 m _ _ _ _ _ _ _ _
          have hd1 : decide ((0 : Int) ≤ (i : Int) ∧ (i : Int) < (a.length : Int)) = true := decide_eq_true (by omega)
          rw [I.BothOf_l0, cdp (by omega)]
          simp only [hd1, cond_true]
          refine filterLoopA (fun m' k acc => I.BothOf_l1 m' (fun y48 y49 y50 y51 y52 y53 y54 => I.BothOf_l0 m (fun y56 => some (true, y56)) y48 (IntKind.wrap .i64 (y49 + 1)) y50 y51 y52 y53 y54) (a.length : Int) (i : Int) (b.length : Int) k (up.length : Int) (nthI a (i : Int) ((0 : Int), ((0 : Int), ((0 : Int), ((0 : Int), ((0 : Int), ((0 : Int), ([], false)))))))).1 (nthI a (i : Int) ((0 : Int), ((0 : Int), ((0 : Int), ((0 : Int), ((0 : Int), ((0 : Int), ([], false)))))))).2.1 (nthI a (i : Int) ((0 : Int), ((0 : Int), ((0 : Int), ((0 : Int), ((0 : Int), ((0 : Int), ([], false)))))))).2.2.1 (nthI a (i : Int) ((0 : Int), ((0 : Int), ((0 : Int), ((0 : Int), ((0 : Int), ((0 : Int), ([], false)))))))).2.2.2.1 (nthI a (i : Int) ((0 : Int), ((0 : Int), ((0 : Int), ((0 : Int), ((0 : Int), ((0 : Int), ([], false)))))))).2.2.2.2.1 (nthI a (i : Int) ((0 : Int), ((0 : Int), ((0 : Int), ((0 : Int), ((0 : Int), ((0 : Int), ([], false)))))))).2.2.2.2.2.1 (nthI a (i : Int) ((0 : Int), ((0 : Int), ((0 : Int), ((0 : Int), ((0 : Int), ((0 : Int), ([], false)))))))).2.2.2.2.2.2.2 b acc a up (nthI a (i : Int) ((0 : Int), ((0 : Int), ((0 : Int), ((0 : Int), ((0 : Int), ((0 : Int), ([], false)))))))).2.2.2.2.2.2.1) b.length (100 * i) (fun k : Nat => matchB (nthI a (i : Int) ((0 : Int), ((0 : Int), ((0 : Int), ((0 : Int), ((0 : Int), ((0 : Int), ([], false)))))))) (nthI b (k : Int) ((0 : Int), ((0 : Int), ((0 : Int), ((0 : Int), ((0 : Int), ((0 : Int), ([], false))))))))) (fun k : Nat => bothE up (nthI a (i : Int) ((0 : Int), ((0 : Int), ((0 : Int), ((0 : Int), ((0 : Int), ((0 : Int), ([], false)))))))) (nthI b (k : Int) ((0 : Int), ((0 : Int), ((0 : Int), ((0 : Int), ((0 : Int), ((0 : Int), ([], false))))))))) (fun acc => I.BothOf_l0 m (fun y56 => some (true, y56)) (a.length : Int) ((i + 1 : Nat) : Int) (up.length : Int) b acc a up) (by omega) (fun k m' acc hk hacc => ?_) (fun m' acc => ?_) acc hI.1
          · show I.BothOf_l1 (m' + 1) _ _ _ _ _ _ _ _ _ _ _ _ _ _ _ _ _ _ = bif _ then I.BothOf_l1 m' _ _ _ _ _ _ _ _ _ _ _ _ _ _ _ _ _ _ else I.BothOf_l1 m' _ _ _ _ _ _ _ _ _ _ _ _ _ _ _ _ _ _
            have hd2 : decide ((0 : Int) ≤ (k : Int) ∧ (k : Int) < (b.length : Int)) = true := decide_eq_true (by omega)
            obtain ⟨p1, p2, p3⟩ := c2.2 i hi
            obtain ⟨q1, q2, q3⟩ := c3.2 k hk
            rw [I.BothOf_l1, cdp (by omega)]
            simp only [hd2, cond_true]
            generalize nthI a (i : Int) ((0 : Int), ((0 : Int), ((0 : Int), ((0 : Int), ((0 : Int), ((0 : Int), ([], false))))))) = p at p1 p2 p3 ⊢
            generalize nthI b (k : Int) ((0 : Int), ((0 : Int), ((0 : Int), ((0 : Int), ((0 : Int), ((0 : Int), ([], false))))))) = q at q1 q2 q3 ⊢
            have p4 : 1 ≤ p.2.2.2.2.2.1 := p1.2.2.2.2.1.1
            have q4 : 1 ≤ q.2.2.2.2.2.1 := q1.2.2.2.2.1.1
            have hpq : 0 ≤ p.2.2.2.2.2.1 * q.2.2.2.2.2.1 := Int.mul_nonneg (by omega) (by omega)
            have hpq2 : p.2.2.2.2.2.1 * q.2.2.2.2.2.1 ≤ 1000 * 1000 := Int.mul_le_mul p3 q3 (by omega) (by omega)
            have hb1 : I.Lat_join (up.length : Int) p.2.2.2.2.1 q.2.2.2.2.1 up = some (bndF up true p.2.2.2.2.1 q.2.2.2.2.1) := by
              unfold I.Lat_join
              rw [iBound_eq up (by omega) p.2.2.2.2.1 q.2.2.2.2.1 true p2 q2, Option.bind_some]
            have l1 := cloneInt_eq p.2.2.2.2.2.2.1 (by have := p1.2.2.2.2.2.1; omega)
            have l2 := cloneInt_eq q.2.2.2.2.2.2.1 (by have := q1.2.2.2.2.2.1; omega)
            have l3 : ∀ v : TBoth, decide ((acc.length + [v].length) * 88 ≤ 140737488355328) = true := fun v => decide_eq_true (by simp only [List.length_cons, List.length_nil]; omega)
            simp only [w64 (n := p.2.2.2.2.2.1 * q.2.2.2.2.2.1) (by omega) (by omega), w64 (n := (k : Int) + 1) (by omega) (by omega), hb1, l1, l2, l3, cond_true, Option.bind_some]
            unfold matchB
            cases p.2.1 == q.2.1 <;> cases p.2.2.1 == q.2.2.1 <;> cases p.2.2.2.1 == q.2.2.2.1 <;> rfl
          · show I.BothOf_l1 (m' + 1) _ _ _ _ _ _ _ _ _ _ _ _ _ _ _ _ _ _ = _
            rw [I.BothOf_l1, cdn (by omega), w64 (by omega) (by omega)]
            rfl
        · show I.BothOf_l0 (m + 1) _ _ _ _ _ _ _ _ = _
          rw [I.BothOf_l0, cdn (by omega)]
      · rw [decide_eq_false c3, Bool.not_false, cond_true, if_neg (fun h => c3 h.2.2)]
    · rw [decide_eq_false c2, Bool.not_false, cond_true, if_neg (fun h => c2 h.2.1)]
  · rw [decide_eq_false c1, Bool.not_false, cond_true, if_neg (fun h => c1 h.1)]

theorem wPaneS_le (q : List TPane) : wPaneS q ≤ 8 * cPaneS q := by
  unfold wPaneS cPaneS
  induction q with
  | nil => simp
  | cons x q ih =>
    have h1 : w1Pane x ≤ 8 + cPane x := by unfold w1Pane cPane; omega
    simp only [List.map_cons, List.sum_cons, List.length_cons]
    omega
theorem cBothS_small {a : List TBoth} (h : ∀ x ∈ a, x.2.2.2.2.2.1.length ≤ 4 ∧ x.2.2.2.2.2.2.length ≤ 4) : cBothS a ≤ 9 * a.length ∧ wBothS a ≤ 13 * a.length := by
  unfold cBothS wBothS
  induction a with
  | nil => simp
  | cons x a ih =>
    have h1 := h x (by simp)
    have h2 := ih (fun y hy => h y (by simp [hy]))
    have h3 : cBoth x = x.2.2.2.2.2.1.length + x.2.2.2.2.2.2.length := rfl
    have h4 : w1Both x = 5 + 1 * (x.2.2.2.2.2.1).length + 1 * (x.2.2.2.2.2.2).length := rfl
    simp only [List.map_cons, List.sum_cons, List.length_cons]
    omega
theorem FnExactBothOf : StmtFnExactBothOf.Stmt := by
  intro n up a b hn hu ha hb
  have hsz : L.szLat n 1048576 up = some (if ((up.length : Nat) : Int) ≤ 1048576 then 1048576 - ((up.length : Nat) : Int) else -1) := szLat_eq (n, up) 1048576 (by omega) (by omega) ⟨hn, hu⟩
  unfold L.FnExactBothOf
  rw [hsz, Option.bind_some]
  by_cases hl : ((up.length : Nat) : Int) ≤ 1048576
  · rw [if_pos hl, cdn (by omega), szPaneS_eq _ a (by omega) (by omega) ha, Option.bind_some]
    by_cases hl2 : ((cPaneS a : Nat) : Int) ≤ 1048576 - ((up.length : Nat) : Int)
    · rw [if_pos hl2, cdn (by omega), szPaneS_eq _ b (by omega) (by omega) hb, Option.bind_some]
      by_cases hl3 : ((cPaneS b : Nat) : Int) ≤ 1048576 - ((up.length : Nat) : Int) - ((cPaneS a : Nat) : Int)
      · rw [if_pos hl3, cdn (by omega)]
        have hla : a.length ≤ cPaneS a := by unfold cPaneS; omega
        have hlb : b.length ≤ cPaneS b := by unfold cPaneS; omega
        have hto : L.toLat n up = some (n, up) := toLat_eq (n, up) (show up.length ≤ _ by omega)
        have heq : L.eqLat n n up up = some (decide ((n, up) = (n, up))) := eqLat_eq (n, up) (n, up) (show up.length ≤ _ by omega)
        have hta := toPaneS_eq a (by omega)
        have htb := toPaneS_eq b (by omega)
        have hea := eqPaneS_eq a a (by omega)
        have heb := eqPaneS_eq b b (by omega)
        have hwa := wPaneS_le a
        have hwb := wPaneS_le b
        have hmk : L.markLat n 1 up = some (1 + 1 * (up.length : Int), mUint64S 1 up) := markLat_eq (n, up) 1 (by omega) (show 1 + 1 * (up.length : Int) ≤ _ by omega)
        have hma := markPaneS_eq (1 + 1 * (up.length : Int)) a (by omega) (by omega) (by omega)
        have hmb := markPaneS_eq (1 + 1 * (up.length : Int) + ((wPaneS a : Nat) : Int)) b (by omega) (by omega) (by omega)
        obtain ⟨hS, hinv⟩ := sBothOf_eq n up a b
        have hI := iBothOf_eq n up a b hu.2
        obtain ⟨w, hw⟩ : ∃ w : Bool × List TBoth, w = if latOk n up ∧ fitsP n a ∧ fitsP n b then (true, bothF up a b) else (false, []) := ⟨_, rfl⟩
        rw [← hw] at hS hI
        have hwb2 : cBothS w.2 ≤ 90000 ∧ wBothS w.2 ≤ 130000 ∧ w.2.length ≤ 10000 := by
          rw [hw]
          split
          · rename_i hc
            have h1 := hinv hc
            have h2 := hc.2.1.1
            have h3 := h1.1
            have h4 := cBothS_small h1.2
            exact ⟨by show cBothS (bothF up a b) ≤ _; omega, by show wBothS (bothF up a b) ≤ _; omega, by show (bothF up a b).length ≤ _; omega⟩
          · exact ⟨by show cBothS [] ≤ _; simp [cBothS], by show wBothS [] ≤ _; simp [wBothS], by show ([] : List TBoth).length ≤ _; simp⟩
        obtain ⟨w1, w2⟩ := w
        obtain ⟨hw1, hw2, hw3⟩ : cBothS w2 ≤ 90000 ∧ wBothS w2 ≤ 130000 ∧ w2.length ≤ 10000 := hwb2
        have he := eqBothS_eq w2 w2 (by omega)
        have hm := markBothS_eq 1 w2 (by omega) (by omega) (by omega)
        have hh := heldBothS_eq 1 w2 (by omega) (by omega) (by omega)
        have d1 : decide (1 + 1 * (up.length : Int) + ((wPaneS a : Nat) : Int) + ((wPaneS b : Nat) : Int) < 0) = false := decide_eq_false (by omega)
        have d2 : decide ((1 : Int) + ((wBothS w2 : Nat) : Int) < 0) = false := decide_eq_false (by omega)
        simp only [hto, hta, htb, hS, hI, heq, hea, heb, hmk, hma, hmb, he, hm, hh, d1, d2, Option.bind_some, decide_true, beq_self_eq_true, Bool.not_true, cond_false, bne_self_eq_false]
      · rw [if_neg hl3, cdp (by omega)]
    · rw [if_neg hl2, cdp (by omega)]
  · rw [if_neg hl, cdp (by omega)]
end Go.Proofs.Ythddkomphkanbaa.Pure
