/- CellsDue of the program returns what the reference's returns. For every argument. -/
import Derived.Test.YthddkomphkanbaaStmtFnExactCellsDue
import Derived.Laws.BitsLemmas
import Derived.Laws.BitsAllLaws
import Derived.Laws.Bits64b
namespace Go.Proofs.Ythddkomphkanbaa.Pure
open Go Go.RowKit Go.Proofs.Ythddkomphkanbaa.Run Go.Proofs.Ythddkomphkanbaa.StmtFnExactCellsDue Go.Proofs.YthddkomphkanbaaW.PrintWords Go.Proofs.Ythddkomphkanbaa.Vm
set_option linter.unusedVariables false
set_option linter.unusedSimpArgs false
set_option linter.unusedSectionVars false
/-! General words -/
theorem cdp {α : Type} {p : Prop} [Decidable p] {a b : α} (h : p) : (bif decide p then a else b) = a := by simp [h]
theorem cdn {α : Type} {p : Prop} [Decidable p] {a b : α} (h : ¬ p) : (bif decide p then a else b) = b := by simp [h]
theorem cnp {α : Type} {x y : Int} {a b : α} (h : x ≠ y) : (bif (x != y) then a else b) = a := by rw [show (x != y) = true from by simpa using h]; rfl
theorem cnn {α : Type} {x y : Int} {a b : α} (h : x = y) : (bif (x != y) then a else b) = b := by simp [bne, h]
theorem cep {α : Type} {x y : Int} {a b : α} (h : x = y) : (bif (x == y) then a else b) = a := by simp [h]
theorem cen {α : Type} {x y : Int} {a b : α} (h : x ≠ y) : (bif (x == y) then a else b) = b := by rw [show (x == y) = false from by simpa using h]; rfl
theorem cond_some {α : Type} (c : Bool) (x y : α) : (bif c then some x else some y) = some (bif c then x else y) := by cases c <;> rfl
theorem cond_and (c x : Bool) : (bif c then x else false) = (c && x) := by cases c <;> rfl
theorem dand (p q : Prop) [Decidable p] [Decidable q] : (decide p && decide q) = decide (p ∧ q) := by by_cases p <;> by_cases q <;> simp_all
theorem w64 {n : Int} (h0 : -9223372036854775808 ≤ n) (h1 : n < 9223372036854775808) : IntKind.i64.wrap n = n := by rw [IntKind.wrap_i64]; omega
theorem u64_mod (n : Int) : IntKind.u64.wrap n = n % 18446744073709551616 := by simp [IntKind.wrap, IntKind.bits, IntKind.signed]
theorem u64w {n : Int} (h0 : 0 ≤ n) (h1 : n < 18446744073709551616) : IntKind.u64.wrap n = n := by rw [u64_mod]; omega
theorem u8_mod (n : Int) : IntKind.u8.wrap n = n % 256 := by simp [IntKind.wrap, IntKind.bits, IntKind.signed]
theorem i64_wf {n : Int} (h : (Lit.int .i64 n).wf = true) : -9223372036854775808 ≤ n ∧ n < 9223372036854775808 := by
  simp only [Lit.wf, IntKind.min, IntKind.max, IntKind.signed, IntKind.bits, Bool.and_eq_true, decide_eq_true_eq, if_true] at h
  omega
theorem u8_wf {n : Int} (h : (Lit.int .u8 n).wf = true) : 0 ≤ n ∧ n < 256 := by
  simp [Lit.wf, IntKind.min, IntKind.max, IntKind.signed, IntKind.bits, Bool.and_eq_true] at h
  omega
theorem tmod_nat (n : Int) (m : Int) (h : 0 ≤ n) : Int.tmod n m = n % m := Int.tmod_eq_emod_of_nonneg h
theorem tdiv_nat (n : Int) (m : Int) (h : 0 ≤ n) : Int.tdiv n m = n / m := Int.tdiv_eq_ediv_of_nonneg h
theorem bits_or_128 (x : Int) (h0 : 0 ≤ x) (h1 : x < 256) : Go.bits .or .u8 x 128 = 128 + x % 128 := by
  obtain ⟨n, rfl⟩ := Int.eq_ofNat_of_zero_le h0
  have hn : n < 256 := by omega
  have key : ∀ m : Fin 256, Go.bits .or .u8 ((m.val : Nat) : Int) 128 = 128 + ((m.val : Nat) : Int) % 128 := by decide +kernel
  exact key ⟨n, hn⟩
theorem bits_xor_zero (x : Int) (h0 : 0 ≤ x) (h1 : x < 18446744073709551616) : Go.bits .xor .u64 x 0 = x := by
  obtain ⟨n, rfl⟩ := Int.eq_ofNat_of_zero_le h0
  have hn : n < 18446744073709551616 := by omega
  show IntKind.u64.wrap (((BitVec.ofInt 64 ((n : Nat) : Int)) ^^^ (BitVec.ofInt 64 0)).toNat : Int) = n
  have e : (BitVec.ofInt 64 0) = 0#64 := by decide
  rw [e, BitVec.xor_zero, BitVec.ofInt_natCast, BitVec.toNat_ofNat, u64_mod]
  omega
theorem bits_xor_ones (x : Int) (h0 : 0 ≤ x) (h1 : x < 18446744073709551616) : Go.bits .xor .u64 x 18446744073709551615 = 18446744073709551615 - x := by
  obtain ⟨n, rfl⟩ := Int.eq_ofNat_of_zero_le h0
  have hn : n < 18446744073709551616 := by omega
  show IntKind.u64.wrap (((BitVec.ofInt 64 ((n : Nat) : Int)) ^^^ (BitVec.ofInt 64 18446744073709551615)).toNat : Int) = 18446744073709551615 - n
  have e : (BitVec.ofInt 64 18446744073709551615) = BitVec.allOnes 64 := by decide
  rw [e, BitVec.xor_allOnes, BitVec.toNat_not, BitVec.ofInt_natCast, BitVec.toNat_ofNat, u64_mod]
  omega
theorem fu_ge (d : Nat) (h : d ≤ 1000000000000) : ∃ m, fu = d + 1 + m := ⟨fu - d - 1, by rw [fu_eq]; omega⟩
theorem nthI_nat {α : Type} (xs : List α) (i : Nat) (d : α) : nthI xs (i : Int) d = xs.getD i d := rfl
theorem drop_nth (xs : List Int) (i : Nat) (h : i < xs.length) : xs.drop i = nthI xs (i : Int) 0 :: xs.drop (i + 1) := by
  rw [nthI_nat, List.getD_eq_getElem?_getD, List.getElem?_eq_getElem h]; exact List.drop_eq_getElem_cons h
/-! Loops over lists -/
theorem nthI_mem {α : Type} (a : List α) (i : Nat) (d : α) (h : i < a.length) : nthI a (i : Int) d ∈ a := by
  rw [nthI_nat, List.getD_eq_getElem?_getD, List.getElem?_eq_getElem h]; simp
theorem nthI_set {α : Type} (xs : List α) (i : Nat) (y d : α) (h : i < xs.length) : nthI (xs.set i y) (i : Int) d = y := by
  rw [nthI_nat, List.getD_eq_getElem?_getD, List.getElem?_set_self h]; rfl
theorem drop_at {α : Type} (xs : List α) (i : Nat) (d : α) (h : i < xs.length) : xs.drop i = nthI xs (i : Int) d :: xs.drop (i + 1) := by
  rw [nthI_nat, List.getD_eq_getElem?_getD, List.getElem?_eq_getElem h]; exact List.drop_eq_getElem_cons h
theorem cneI {x y : Int} {k : Option Bool} : (bif (x != y) then some false else k) = bif decide (x = y) then k else some false := by
  by_cases h : x = y
  · rw [cnn h, cdp h]
  · rw [cnp h, cdn h]
theorem cneB {x y : Bool} {k : Option Bool} : (bif (!(x == y)) then some false else k) = bif decide (x = y) then k else some false := by
  cases x <;> cases y <;> rfl
theorem cbeB {x y : Bool} {k : Option Bool} : (bif (x == y) then k else some false) = bif decide (x = y) then k else some false := by cases x <;> cases y <;> rfl
theorem cnotb {r : Bool} {k : Option Bool} : (bif (!r) then some false else k) = bif r then k else some false := by cases r <;> rfl
theorem cds {p q : Prop} [Decidable p] [Decidable q] : (bif decide p then some (decide q) else some false) = some (decide (p ∧ q)) := by
  by_cases p <;> by_cases q <;> simp_all
theorem cdt {p : Prop} [Decidable p] : (bif decide p then some true else some false) = some (decide p) := by by_cases p <;> simp_all
theorem sdec {p q : Prop} [Decidable p] [Decidable q] (h : q ↔ p) : some (decide q) = some (decide p) := congrArg some (decide_eq_decide.mpr h)
theorem sfal {p : Prop} [Decidable p] (h : ¬ p) : some false = some (decide p) := by rw [decide_eq_false h]
theorem stru {p : Prop} [Decidable p] (h : p) : some true = some (decide p) := by rw [decide_eq_true h]
theorem sbool {b : Bool} {p : Prop} [Decidable p] (h : b = true ↔ p) : some b = some (decide p) := by
  by_cases c : p
  · rw [h.2 c, decide_eq_true c]
  · rw [decide_eq_false c, Bool.eq_false_iff.2 fun e => c (h.1 e)]
theorem sum_mem {l : List Nat} {x : Nat} (h : x ∈ l) : x ≤ l.sum := by
  induction l with
  | nil => cases h
  | cons y l ih =>
    rw [List.sum_cons]
    rcases List.mem_cons.1 h with rfl | h
    · omega
    · have := ih h; omega
theorem toLoop {α : Type} (F : Nat → Int → List α → Option (List α)) (a : List α) (d : α) (hn : a.length ≤ 1000000000000)
    (hs : ∀ (i m : Nat) (xs : List α), i < a.length → xs.length = a.length → F (m + 1) (i : Int) xs = F m ((i + 1 : Nat) : Int) (xs.set i (nthI a (i : Int) d)))
    (he : ∀ (m : Nat) (xs : List α), F (m + 1) (a.length : Int) xs = some xs) (xs : List α) (hx : xs.length = a.length) : F fu 0 xs = some a := by
  obtain ⟨M, hM⟩ := fu_ge a.length hn
  have h1 : ∀ k i : Nat, ∀ xs : List α, xs.length = a.length → i ≤ a.length → a.length - i = k → xs.take i = a.take i → F (k + 1 + M) (i : Int) xs = some a := by
    intro k
    induction k with
    | zero =>
      intro i xs hx hi hd ht
      obtain rfl : i = a.length := by omega
      rw [List.take_of_length_le (by omega), List.take_of_length_le (by omega)] at ht
      subst ht
      rw [show 0 + 1 + M = M + 1 from by omega]
      exact he M xs
    | succ k ih =>
      intro i xs hx hi hd ht
      have hi2 : i < a.length := by omega
      rw [show k + 1 + 1 + M = (k + 1 + M) + 1 from by omega, hs i _ xs hi2 hx]
      refine ih (i + 1) _ (by simpa using hx) (by omega) (by omega) ?_
      rw [nthI_nat, List.getD_eq_getElem?_getD, List.getElem?_eq_getElem hi2, Option.getD_some, List.take_add_one, List.take_add_one, List.take_set_of_le (Nat.le_refl i), ht]
      simp [show i < xs.length from by omega, hi2]
  rw [hM]
  exact h1 a.length 0 xs hx (by omega) (by omega) (by simp)
theorem eqLoop {α : Type} [DecidableEq α] (F : Nat → Int → Option Bool) (a b : List α) (d : α) (hl : a.length = b.length) (hn : a.length ≤ 1000000000000)
    (hs : ∀ (i m : Nat), i < a.length → F (m + 1) (i : Int) = bif decide (nthI a (i : Int) d = nthI b (i : Int) d) then F m ((i + 1 : Nat) : Int) else some false)
    (he : ∀ m : Nat, F (m + 1) (a.length : Int) = some true) : F fu 0 = some (decide (a = b)) := by
  obtain ⟨M, hM⟩ := fu_ge a.length hn
  have h1 : ∀ k i : Nat, i ≤ a.length → a.length - i = k → F (k + 1 + M) (i : Int) = some (decide (a.drop i = b.drop i)) := by
    intro k
    induction k with
    | zero =>
      intro i hi hd
      obtain rfl : i = a.length := by omega
      rw [show 0 + 1 + M = M + 1 from by omega, he, List.drop_of_length_le (by omega), List.drop_of_length_le (by omega)]
      simp
    | succ k ih =>
      intro i hi hd
      rw [show k + 1 + 1 + M = (k + 1 + M) + 1 from by omega, hs i _ (by omega), drop_at a i d (by omega), drop_at b i d (by omega), ih (i + 1) (by omega) (by omega)]
      by_cases e : nthI a (i : Int) d = nthI b (i : Int) d
      · rw [cdp e, e]
        generalize nthI b (i : Int) d = x
        simp
      · rw [cdn e]
        generalize nthI b (i : Int) d = x at *
        generalize nthI a (i : Int) d = y at *
        simp [e]
  rw [hM]
  simpa using h1 a.length 0 (by omega) (by omega)
theorem eqTop {α : Type} [DecidableEq α] (a b : List α) {k : Option Bool} (h : a.length = b.length → k = some (decide (a = b))) : (bif ((a.length : Int) != (b.length : Int)) then some false else k) = some (decide (a = b)) := by
  by_cases e : a.length = b.length
  · rw [cnn (by omega), h e]
  · rw [cnp (by omega), decide_eq_false (fun h => e (by rw [h]))]
theorem szLoop {α : Type} (F : Nat → Int → Int → Option Int) (a : List α) (d : α) (c : α → Nat) (hn : a.length ≤ 1000000000000)
    (hs : ∀ (i m : Nat) (l : Int), i < a.length → 0 ≤ l → l ≤ 1000000000000 → F (m + 1) l (i : Int) = if (c (nthI a (i : Int) d) : Int) ≤ l then F m (l - (c (nthI a (i : Int) d) : Int)) ((i + 1 : Nat) : Int) else some (-1))
    (he : ∀ (m : Nat) (l : Int), F (m + 1) l (a.length : Int) = some l) (l : Int) (h0 : 0 ≤ l) (h1 : l ≤ 1000000000000) : F fu l 0 = some (if (((a.map c).sum : Nat) : Int) ≤ l then l - (((a.map c).sum : Nat) : Int) else -1) := by
  obtain ⟨M, hM⟩ := fu_ge a.length hn
  have h2 : ∀ k i : Nat, ∀ l : Int, 0 ≤ l → l ≤ 1000000000000 → i ≤ a.length → a.length - i = k → F (k + 1 + M) l (i : Int) = some (if ((((a.drop i).map c).sum : Nat) : Int) ≤ l then l - ((((a.drop i).map c).sum : Nat) : Int) else -1) := by
    intro k
    induction k with
    | zero =>
      intro i l h0 h1 hi hd
      obtain rfl : i = a.length := by omega
      rw [show 0 + 1 + M = M + 1 from by omega, he, List.drop_of_length_le (by omega)]
      simp [h0]
    | succ k ih =>
      intro i l h0 h1 hi hd
      rw [show k + 1 + 1 + M = (k + 1 + M) + 1 from by omega, hs i _ l (by omega) h0 h1, drop_at a i d (by omega), List.map_cons, List.sum_cons]
      by_cases e : (c (nthI a (i : Int) d) : Int) ≤ l
      · rw [if_pos e, ih (i + 1) _ (by omega) (by omega) (by omega) (by omega)]
        congr 1
        split <;> split <;> omega
      · rw [if_neg e, if_neg (by omega)]
  rw [hM]
  simpa using h2 a.length 0 l h0 h1 (by omega) (by omega)
/-! Marking -/
def markAll {α : Type} (m1 : Int → α → α) (w1 : α → Nat) : Int → List α → List α
  | _, [] => []
  | k, x :: xs => m1 k x :: markAll m1 w1 (k + (w1 x : Int)) xs
theorem markAll_length {α : Type} (m1 : Int → α → α) (w1 : α → Nat) : ∀ (a : List α) (k : Int), (markAll m1 w1 k a).length = a.length
  | [], _ => rfl
  | x :: xs, k => by simp [markAll, markAll_length m1 w1 xs]
theorem sum_const {α : Type} (w : α → Nat) (a : List α) (n : Nat) (h : ∀ x, w x = n) : (a.map w).sum = n * a.length := by
  induction a with
  | nil => simp
  | cons x xs ih => simp [h x, ih, Nat.mul_add]; omega
theorem cmod3 : decide ((3 : Int) = 0) = false := rfl
theorem markLoop {α : Type} (F : Nat → Int → Int → List α → Option (Int × List α)) (m1 : Int → α → α) (w1 : α → Nat) (a : List α) (d : α) (nl : Nat) (hw : ∀ x, w1 x = nl) {k : Int} (h0 : 0 ≤ k) (hn : a.length ≤ 1000000000000) (hc : k + (nl : Int) * (a.length : Int) ≤ 1000000000000)
    (hs : ∀ (i m : Nat) (k : Int) (xs : List α), i < a.length → xs.length = a.length → 0 ≤ k → k + (nl : Int) ≤ 1000000000000 → F (m + 1) k (i : Int) xs = F m (k + (nl : Int)) ((i + 1 : Nat) : Int) (xs.set i (m1 k (nthI xs (i : Int) d))))
    (he : ∀ (m : Nat) (k : Int) (xs : List α), xs.length = a.length → F (m + 1) k (a.length : Int) xs = some (k, xs)) : F fu k 0 a = some (k + (nl : Int) * (a.length : Int), markAll m1 w1 k a) := by
  obtain ⟨M, hM⟩ := fu_ge a.length hn
  have h1 : ∀ q i : Nat, ∀ (k : Int) (xs : List α), xs.length = a.length → i ≤ a.length → a.length - i = q → 0 ≤ k → k + (nl : Int) * (q : Int) ≤ 1000000000000 → F (q + 1 + M) k (i : Int) xs = some (k + (nl : Int) * (q : Int), xs.take i ++ markAll m1 w1 k (xs.drop i)) := by
    intro q
    induction q with
    | zero =>
      intro i k xs hx hi hd h0 hc
      obtain rfl : i = a.length := by omega
      rw [show 0 + 1 + M = M + 1 from by omega, he _ _ _ hx, List.take_of_length_le (by omega), List.drop_of_length_le (by omega)]
      simp [markAll]
    | succ q ih =>
      intro i k xs hx hi hd h0 hc
      have e : (nl : Int) * ((q + 1 : Nat) : Int) = (nl : Int) * (q : Int) + nl := by rw [Int.natCast_add, Int.mul_add]; simp
      have hq : 0 ≤ (nl : Int) * (q : Int) := Int.mul_nonneg (by omega) (by omega)
      rw [e] at hc ⊢
      rw [show q + 1 + 1 + M = (q + 1 + M) + 1 from by omega, hs i _ k xs (by omega) hx h0 (by omega), ih (i + 1) _ _ (by simpa using hx) (by omega) (by omega) (by omega) (by omega), drop_at xs i d (by omega), markAll, hw]
      have hi2 : i < xs.length := by omega
      rw [List.take_add_one, List.getElem?_set_self hi2, List.take_set_of_le (Nat.le_refl i), List.drop_set_of_lt (by omega)]
      simp
      omega
  rw [hM]
  have := h1 a.length 0 k a rfl (by omega) (by omega) h0 hc
  simpa using this
theorem markAll_nth {α : Type} (m1 : Int → α → α) (w1 : α → Nat) (nl : Nat) (hw : ∀ x, w1 x = nl) (d : α) : ∀ (a : List α) (k : Int) (i : Nat), i < a.length → nthI (markAll m1 w1 k a) (i : Int) d = m1 (k + (nl : Int) * (i : Int)) (nthI a (i : Int) d)
  | [], _, i, h => by simp at h
  | x :: xs, k, 0, _ => by simp [markAll, nthI]
  | x :: xs, k, i + 1, h => by
    have := markAll_nth m1 w1 nl hw d xs (k + (w1 x : Int)) i (by simpa using h)
    rw [nthI_nat, nthI_nat] at this ⊢
    rw [markAll, List.getD_cons_succ, List.getD_cons_succ, this, hw, Int.natCast_add, Int.mul_add]
    congr 1
    omega
theorem heldLoop {α : Type} (F : Nat → Int → Int → Option Int) (m1 : Int → α → α) (w1 : α → Nat) (a : List α) (d : α) (nl : Nat) (hw : ∀ x, w1 x = nl) (k : Int) (h0 : 0 ≤ k) (hn : a.length ≤ 1000000000000) (hc : k + (nl : Int) * (a.length : Int) ≤ 1000000000000)
    (hs : ∀ (i m : Nat) (j : Int), i < a.length → 0 ≤ j → j + (nl : Int) ≤ 1000000000000 → nthI (markAll m1 w1 k a) (i : Int) d = m1 j (nthI a (i : Int) d) → F (m + 1) j (i : Int) = F m (j + (nl : Int)) ((i + 1 : Nat) : Int))
    (he : ∀ (m : Nat) (j : Int), F (m + 1) j (a.length : Int) = some j) : F fu k 0 = some (k + (nl : Int) * (a.length : Int)) := by
  obtain ⟨M, hM⟩ := fu_ge a.length hn
  have h1 : ∀ q i : Nat, i ≤ a.length → a.length - i = q → F (q + 1 + M) (k + (nl : Int) * (i : Int)) (i : Int) = some (k + (nl : Int) * (a.length : Int)) := by
    intro q
    induction q with
    | zero =>
      intro i hi hd
      obtain rfl : i = a.length := by omega
      rw [show 0 + 1 + M = M + 1 from by omega, he]
    | succ q ih =>
      intro i hi hd
      have e : (nl : Int) * ((i + 1 : Nat) : Int) = (nl : Int) * (i : Int) + nl := by rw [Int.natCast_add, Int.mul_add]; simp
      have hq : 0 ≤ (nl : Int) * (i : Int) := Int.mul_nonneg (by omega) (by omega)
      have hle : (nl : Int) * ((i + 1 : Nat) : Int) ≤ (nl : Int) * (a.length : Int) := Int.mul_le_mul_of_nonneg_left (by omega) (by omega)
      rw [show q + 1 + 1 + M = (q + 1 + M) + 1 from by omega, hs i _ _ (by omega) (by omega) (by omega) (markAll_nth m1 w1 nl hw d a k i (by omega))]
      have := ih (i + 1) (by omega) (by omega)
      rw [e] at this
      rw [show k + (nl : Int) * (i : Int) + (nl : Int) = k + ((nl : Int) * (i : Int) + (nl : Int)) from by omega]
      exact this
  rw [hM]
  have := h1 a.length 0 (by omega) (by omega)
  simpa using this
/-! A loop that asks something of each element -/
theorem allLoop (F : Nat → Int → Option Bool) (n : Nat) (p : Nat → Prop) [DecidablePred p] (e : Bool) (hn : n ≤ 1000000000000)
    (hs : ∀ (i m : Nat), i < n → F (m + 1) (i : Int) = bif decide (p i) then F m ((i + 1 : Nat) : Int) else some false)
    (he : ∀ m : Nat, F (m + 1) (n : Int) = some e) : F fu 0 = some (decide (∀ j, j < n → p j) && e) := by
  obtain ⟨M, hM⟩ := fu_ge n hn
  have h1 : ∀ k i : Nat, i + k = n → (∀ j, j < i → p j) → F (k + 1 + M) (i : Int) = some (decide (∀ j, j < n → p j) && e) := by
    intro k
    induction k with
    | zero =>
      intro i hi hp
      obtain rfl : i = n := by omega
      rw [show 0 + 1 + M = M + 1 from by omega, he, decide_eq_true hp]
      rfl
    | succ k ih =>
      intro i hi hp
      rw [show k + 1 + 1 + M = (k + 1 + M) + 1 from by omega, hs i _ (by omega)]
      by_cases c : p i
      · rw [cdp c]
        refine ih (i + 1) (by omega) fun j hj => ?_
        rcases Nat.lt_or_ge j i with h | h
        · exact hp j h
        · obtain rfl : j = i := by omega
          exact c
      · rw [cdn c, decide_eq_false fun h => c (h i (by omega))]
        rfl
  rw [hM]
  exact h1 n 0 (by omega) fun j hj => by omega
/-! Comparing -/
def cmpF (a b : Int) : Int := if a < b then -1 else if b < a then 1 else 0
theorem allLoopK (F : Nat → Int → Option Bool) (n : Nat) (p : Nat → Prop) [DecidablePred p] (E : Option Bool) (hn : n ≤ 1000000000000)
    (hs : ∀ (i m : Nat), i < n → F (m + 1) (i : Int) = bif decide (p i) then F m ((i + 1 : Nat) : Int) else some false)
    (he : ∀ m : Nat, F (m + 1) (n : Int) = E) : F fu 0 = if ∀ j, j < n → p j then E else some false := by
  obtain ⟨M, hM⟩ := fu_ge n hn
  have h1 : ∀ k i : Nat, i + k = n → (∀ j, j < i → p j) → F (k + 1 + M) (i : Int) = if ∀ j, j < n → p j then E else some false := by
    intro k
    induction k with
    | zero =>
      intro i hi hp
      obtain rfl : i = n := by omega
      rw [show 0 + 1 + M = M + 1 from by omega, he, if_pos hp]
    | succ k ih =>
      intro i hi hp
      rw [show k + 1 + 1 + M = (k + 1 + M) + 1 from by omega, hs i _ (by omega)]
      by_cases c : p i
      · rw [cdp c]
        refine ih (i + 1) (by omega) fun j hj => ?_
        rcases Nat.lt_or_ge j i with h | h
        · exact hp j h
        · obtain rfl : j = i := by omega
          exact c
      · rw [cdn c, if_neg fun h => c (h i (by omega))]
  rw [hM]
  exact h1 n 0 (by omega) fun j hj => by omega
/-! Marking, elements of any weight -/
theorem dlt0 {x : Int} (h : 0 ≤ x) : decide (x < 0) = false := decide_eq_false (by omega)
theorem markLoopW {α : Type} (F : Nat → Int → Int → List α → Option (Int × List α)) (m1 : Int → α → α) (w1 : α → Nat) (a : List α) (d : α) {k : Int} (h0 : 0 ≤ k) (hn : a.length ≤ 1000000000000) (hc : k + (((a.map w1).sum : Nat) : Int) ≤ 1000000000000)
    (hs : ∀ (i m : Nat) (k : Int) (xs : List α), i < a.length → xs.length = a.length → 0 ≤ k → k + ((w1 (nthI xs (i : Int) d) : Nat) : Int) ≤ 1000000000000 → F (m + 1) k (i : Int) xs = F m (k + ((w1 (nthI xs (i : Int) d) : Nat) : Int)) ((i + 1 : Nat) : Int) (xs.set i (m1 k (nthI xs (i : Int) d))))
    (he : ∀ (m : Nat) (k : Int) (xs : List α), xs.length = a.length → F (m + 1) k (a.length : Int) xs = some (k, xs)) : F fu k 0 a = some (k + (((a.map w1).sum : Nat) : Int), markAll m1 w1 k a) := by
  obtain ⟨M, hM⟩ := fu_ge a.length hn
  have h1 : ∀ q i : Nat, ∀ (k : Int) (xs : List α), xs.length = a.length → i ≤ a.length → a.length - i = q → 0 ≤ k → k + ((((xs.drop i).map w1).sum : Nat) : Int) ≤ 1000000000000 → F (q + 1 + M) k (i : Int) xs = some (k + ((((xs.drop i).map w1).sum : Nat) : Int), xs.take i ++ markAll m1 w1 k (xs.drop i)) := by
    intro q
    induction q with
    | zero =>
      intro i k xs hx hi hd h0 hc
      obtain rfl : i = a.length := by omega
      rw [show 0 + 1 + M = M + 1 from by omega, he _ _ _ hx, List.take_of_length_le (by omega), List.drop_of_length_le (by omega)]
      simp [markAll]
    | succ q ih =>
      intro i k xs hx hi hd h0 hc
      have hi2 : i < xs.length := by omega
      rw [drop_at xs i d hi2, List.map_cons, List.sum_cons] at hc ⊢
      rw [show q + 1 + 1 + M = (q + 1 + M) + 1 from by omega, hs i _ k xs (by omega) hx h0 (by omega)]
      have e : (xs.set i (m1 k (nthI xs (i : Int) d))).drop (i + 1) = xs.drop (i + 1) := List.drop_set_of_lt (by omega)
      rw [ih (i + 1) _ _ (by simpa using hx) (by omega) (by omega) (by omega) (by rw [e]; omega), e, markAll]
      rw [List.take_add_one, List.getElem?_set_self hi2, List.take_set_of_le (Nat.le_refl i)]
      simp
      omega
  rw [hM]
  have := h1 a.length 0 k a rfl (by omega) (by omega) h0 hc
  simpa using this
theorem markAll_nthW {α : Type} (m1 : Int → α → α) (w1 : α → Nat) (d : α) : ∀ (a : List α) (k : Int) (i : Nat), i < a.length → nthI (markAll m1 w1 k a) (i : Int) d = m1 (k + ((((a.take i).map w1).sum : Nat) : Int)) (nthI a (i : Int) d)
  | [], _, i, h => by simp at h
  | x :: xs, k, 0, _ => by simp [markAll, nthI]
  | x :: xs, k, i + 1, h => by
    have := markAll_nthW m1 w1 d xs (k + (w1 x : Int)) i (by simpa using h)
    rw [nthI_nat, nthI_nat] at this ⊢
    rw [markAll, List.getD_cons_succ, List.getD_cons_succ, this, List.take_succ_cons, List.map_cons, List.sum_cons]
    congr 1
    omega
theorem sum_take_succ {α : Type} (w1 : α → Nat) (d : α) (a : List α) (i : Nat) (h : i < a.length) : ((a.take (i + 1)).map w1).sum = ((a.take i).map w1).sum + w1 (nthI a (i : Int) d) := by
  rw [List.take_add_one, List.map_append, List.sum_append, nthI_nat, List.getD_eq_getElem?_getD, List.getElem?_eq_getElem h]
  simp
theorem sum_take_le {α : Type} (w1 : α → Nat) (a : List α) (i : Nat) : ((a.take i).map w1).sum ≤ (a.map w1).sum := by
  have : (a.map w1).sum = ((a.take i).map w1).sum + ((a.drop i).map w1).sum := by rw [← List.sum_append, ← List.map_append, List.take_append_drop]
  omega
theorem heldLoopW {α : Type} (F : Nat → Int → Int → Option Int) (m1 : Int → α → α) (w1 : α → Nat) (a : List α) (d : α) (k : Int) (h0 : 0 ≤ k) (hn : a.length ≤ 1000000000000) (hc : k + (((a.map w1).sum : Nat) : Int) ≤ 1000000000000)
    (hs : ∀ (i m : Nat) (j : Int), i < a.length → 0 ≤ j → j + ((w1 (nthI a (i : Int) d) : Nat) : Int) ≤ 1000000000000 → nthI (markAll m1 w1 k a) (i : Int) d = m1 j (nthI a (i : Int) d) → F (m + 1) j (i : Int) = F m (j + ((w1 (nthI a (i : Int) d) : Nat) : Int)) ((i + 1 : Nat) : Int))
    (he : ∀ (m : Nat) (j : Int), F (m + 1) j (a.length : Int) = some j) : F fu k 0 = some (k + (((a.map w1).sum : Nat) : Int)) := by
  obtain ⟨M, hM⟩ := fu_ge a.length hn
  have h1 : ∀ q i : Nat, i ≤ a.length → a.length - i = q → F (q + 1 + M) (k + ((((a.take i).map w1).sum : Nat) : Int)) (i : Int) = some (k + (((a.map w1).sum : Nat) : Int)) := by
    intro q
    induction q with
    | zero =>
      intro i hi hd
      obtain rfl : i = a.length := by omega
      rw [show 0 + 1 + M = M + 1 from by omega, he, List.take_of_length_le (Nat.le_refl _)]
    | succ q ih =>
      intro i hi hd
      have hi2 : i < a.length := by omega
      have e := sum_take_succ w1 d a i hi2
      have hle := sum_take_le w1 a (i + 1)
      rw [show q + 1 + 1 + M = (q + 1 + M) + 1 from by omega, hs i _ _ hi2 (by omega) (by omega) (markAll_nthW m1 w1 d a k i hi2)]
      have := ih (i + 1) (by omega) (by omega)
      rw [e] at this
      rw [show k + ((((a.take i).map w1).sum : Nat) : Int) + ((w1 (nthI a (i : Int) d) : Nat) : Int) = k + ((((a.take i).map w1).sum + w1 (nthI a (i : Int) d) : Nat) : Int) from by omega]
      exact this
  rw [hM]
  have := h1 a.length 0 (by omega) (by omega)
  simpa using this
theorem u64_wf {n : Int} (h : (Lit.int .u64 n).wf = true) : 0 ≤ n ∧ n < 18446744073709551616 := by
  simp [Lit.wf, IntKind.min, IntKind.max, IntKind.signed, IntKind.bits, Bool.and_eq_true] at h
  omega
def bInt (x : Int) : Prop := (Lit.int .i64 x).wf = true
theorem szIntS_eq (left : Int) (a : List Int) (h0 : 0 ≤ left) (h1 : left ≤ 1000000000000) (hm : a.length ≤ maxLen ∧ ∀ x ∈ a, bInt x) : L.szIntS left a = some (if ((a.length : Nat) : Int) ≤ left then left - ((a.length : Nat) : Int) else -1) := by
  have hl : a.length ≤ 9223372036854775807 := hm.1
  unfold L.szIntS
  simp only []
  rw [w64 (by omega) (by omega)]
  by_cases h : ((a.length : Nat) : Int) ≤ left
  · rw [cdn (by omega), if_pos h]
  · rw [cdp (by omega), if_neg h]
def bUint64 (x : Int) : Prop := (Lit.int .u64 x).wf = true
abbrev TWide : Type := Int × Int
instance : DecidableEq TWide := (@instDecidableEqProd _ _ (inferInstance : DecidableEq Int) (inferInstance : DecidableEq Int))
def bWide (x : TWide) : Prop := ((Lit.int .i64 x.1).wf = true ∧ (Lit.int .u64 x.2).wf = true)
abbrev TAgg : Type := Int × (TWide) × Int × Int × List Int
instance : DecidableEq TAgg := (@instDecidableEqProd _ _ (inferInstance : DecidableEq Int) (@instDecidableEqProd _ _ (inferInstance : DecidableEq TWide) (@instDecidableEqProd _ _ (inferInstance : DecidableEq Int) (@instDecidableEqProd _ _ (inferInstance : DecidableEq Int) (inferInstance : DecidableEq (List Int))))))
def cAgg (x : TAgg) : Nat := (x.2.2.2.2).length
def cAggS (a : List TAgg) : Nat := a.length + (a.map cAgg).sum
theorem cAggS_mem {a : List TAgg} {x : TAgg} (h : x ∈ a) : cAgg x ≤ cAggS a := by
  have := sum_mem (List.mem_map.2 ⟨x, h, rfl⟩ : cAgg x ∈ a.map cAgg)
  unfold cAggS; omega
def bAgg (x : TAgg) : Prop := ((Lit.int .i64 x.1).wf = true ∧ ((Lit.int .i64 x.2.1.1).wf = true ∧ (Lit.int .u64 x.2.1.2).wf = true) ∧ (Lit.int .i64 x.2.2.1).wf = true ∧ (Lit.int .i64 x.2.2.2.1).wf = true ∧ (x.2.2.2.2.length ≤ maxLen ∧ ∀ y ∈ x.2.2.2.2, bInt y))
theorem szAgg_eq (x : TAgg) (left : Int) (h0 : 0 ≤ left) (h1 : left ≤ 1000000000000) (hb : bAgg x) : L.szAgg x.1 x.2.1.1 x.2.1.2 x.2.2.1 x.2.2.2.1 left x.2.2.2.2 = some (if (cAgg x : Int) ≤ left then left - (cAgg x : Int) else -1) := by
  unfold bAgg at hb
  unfold L.szAgg cAgg
  rw [szIntS_eq _ x.2.2.2.2 (by omega) (by omega) hb.2.2.2.2, Option.bind_some]
  by_cases h0 : (((x.2.2.2.2).length : Nat) : Int) ≤ left
  · first
      | (rw [if_pos h0, cdn (by omega)]; done)
      | (rw [if_pos h0, cdn (by omega), if_pos (by omega)]; congr 1; omega)
  · first | (rw [if_neg h0, cdp (by omega)]; done) | rw [if_neg h0, cdp (by omega), if_neg (by omega)]
abbrev TCell : Type := Int × Int × Int × Int × Int × TAgg
instance : DecidableEq TCell := (@instDecidableEqProd _ _ (inferInstance : DecidableEq Int) (@instDecidableEqProd _ _ (inferInstance : DecidableEq Int) (@instDecidableEqProd _ _ (inferInstance : DecidableEq Int) (@instDecidableEqProd _ _ (inferInstance : DecidableEq Int) (@instDecidableEqProd _ _ (inferInstance : DecidableEq Int) (inferInstance : DecidableEq TAgg))))))
def cCell (x : TCell) : Nat := (x.2.2.2.2.2.2.2.2.2).length
def cCellS (a : List TCell) : Nat := a.length + (a.map cCell).sum
theorem cCellS_mem {a : List TCell} {x : TCell} (h : x ∈ a) : cCell x ≤ cCellS a := by
  have := sum_mem (List.mem_map.2 ⟨x, h, rfl⟩ : cCell x ∈ a.map cCell)
  unfold cCellS; omega
def bCell (x : TCell) : Prop := ((Lit.int .i64 x.1).wf = true ∧ (Lit.int .i64 x.2.1).wf = true ∧ (Lit.int .i64 x.2.2.1).wf = true ∧ (Lit.int .i64 x.2.2.2.1).wf = true ∧ (Lit.int .i64 x.2.2.2.2.1).wf = true ∧ ((Lit.int .i64 x.2.2.2.2.2.1).wf = true ∧ ((Lit.int .i64 x.2.2.2.2.2.2.1.1).wf = true ∧ (Lit.int .u64 x.2.2.2.2.2.2.1.2).wf = true) ∧ (Lit.int .i64 x.2.2.2.2.2.2.2.1).wf = true ∧ (Lit.int .i64 x.2.2.2.2.2.2.2.2.1).wf = true ∧ (x.2.2.2.2.2.2.2.2.2.length ≤ maxLen ∧ ∀ y ∈ x.2.2.2.2.2.2.2.2.2, bInt y)))
theorem szCell_eq (x : TCell) (left : Int) (h0 : 0 ≤ left) (h1 : left ≤ 1000000000000) (hb : bCell x) : L.szCell x.1 x.2.1 x.2.2.1 x.2.2.2.1 x.2.2.2.2.1 x.2.2.2.2.2.1 x.2.2.2.2.2.2.1.1 x.2.2.2.2.2.2.1.2 x.2.2.2.2.2.2.2.1 x.2.2.2.2.2.2.2.2.1 left x.2.2.2.2.2.2.2.2.2 = some (if (cCell x : Int) ≤ left then left - (cCell x : Int) else -1) := by
  unfold bCell at hb
  unfold L.szCell cCell
  rw [szAgg_eq x.2.2.2.2.2 _ (by omega) (by omega) hb.2.2.2.2.2, Option.bind_some]
  unfold cAgg
  by_cases h0 : (((x.2.2.2.2.2.2.2.2.2).length : Nat) : Int) ≤ left
  · first
      | (rw [if_pos h0, cdn (by omega)]; done)
      | (rw [if_pos h0, cdn (by omega), if_pos (by omega)]; congr 1; omega)
  · first | (rw [if_neg h0, cdp (by omega)]; done) | rw [if_neg h0, cdp (by omega), if_neg (by omega)]
theorem szCellS_eq (left : Int) (a : List TCell) (h0 : 0 ≤ left) (h1 : left ≤ 1000000000000) (hm : a.length ≤ maxLen ∧ ∀ x ∈ a, bCell x) : L.szCellS left a = some (if ((cCellS a : Nat) : Int) ≤ left then left - ((cCellS a : Nat) : Int) else -1) := by
  have hl : a.length ≤ 9223372036854775807 := hm.1
  unfold L.szCellS
  simp only []
  rw [w64 (by omega) (by omega)]
  by_cases h : ((a.length : Nat) : Int) ≤ left
  · rw [cdn (by omega)]
    have := szLoop (fun m l i => L.szCellS_l0 m (fun y14 y15 => some y15) (fun y16 => some y16) l i a) a ((0 : Int), ((0 : Int), ((0 : Int), ((0 : Int), ((0 : Int), ((0 : Int), (((0 : Int), (0 : Int)), ((0 : Int), ((0 : Int), []))))))))) cCell (by omega) (fun i m l hi h0 h1 => ?_) (fun m l => ?_) (left - (a.length : Int)) (by omega) (by omega)
    · refine this.trans ?_
      unfold cCellS
      congr 1
      split <;> split <;> omega
    · show L.szCellS_l0 (m + 1) _ _ _ _ _ = _
      rw [L.szCellS_l0, cdp (by omega), cdp (by omega), szCell_eq (nthI a (i : Int) ((0 : Int), ((0 : Int), ((0 : Int), ((0 : Int), ((0 : Int), ((0 : Int), (((0 : Int), (0 : Int)), ((0 : Int), ((0 : Int), [])))))))))) l h0 h1 (hm.2 _ (nthI_mem a i _ hi)), Option.bind_some]
      split
      · rw [cdn (by omega), w64 (by omega) (by omega)]; rfl
      · rw [cdp (by omega)]
    · show L.szCellS_l0 (m + 1) _ _ _ _ _ = _
      rw [L.szCellS_l0, cdn (by omega)]
  · rw [cdp (by omega), if_neg (by unfold cCellS; omega)]
theorem toWide_eq (x : TWide) : L.toWide x.1 x.2 = some (x.1, x.2) := by
  rfl
theorem toIntS_eq (a : List Int) (hc : a.length ≤ 1000000000000) : L.toIntS a = some a := by
  have hn := hc
  unfold L.toIntS
  simp only []
  rw [cdp (by omega)]
  refine toLoop (fun m i xs => L.toIntS_l0 m (fun y => some y) i a xs) a (0 : Int) hn (fun i m xs hi hx => ?_) (fun m xs => ?_) _ (by simp)
  · show L.toIntS_l0 (m + 1) _ _ _ _ = L.toIntS_l0 m _ _ _ _
    rw [L.toIntS_l0, cdp (by omega), cdp (by omega), cdp (by omega), w64 (by omega) (by omega)]
    rfl
  · show L.toIntS_l0 (m + 1) _ _ _ _ = _
    rw [L.toIntS_l0, cdn (by omega)]
theorem toAgg_eq (x : TAgg) (hc : cAgg x ≤ 1000000000000) : L.toAgg x.1 x.2.1.1 x.2.1.2 x.2.2.1 x.2.2.2.1 x.2.2.2.2 = some (x.1, x.2.1.1, x.2.1.2, x.2.2.1, x.2.2.2.1, x.2.2.2.2) := by
  unfold L.toAgg
  unfold cAgg at hc
  simp only [toWide_eq x.2.1, toIntS_eq x.2.2.2.2 (by omega), Option.bind_some]
theorem toCell_eq (x : TCell) (hc : cCell x ≤ 1000000000000) : L.toCell x.1 x.2.1 x.2.2.1 x.2.2.2.1 x.2.2.2.2.1 x.2.2.2.2.2.1 x.2.2.2.2.2.2.1.1 x.2.2.2.2.2.2.1.2 x.2.2.2.2.2.2.2.1 x.2.2.2.2.2.2.2.2.1 x.2.2.2.2.2.2.2.2.2 = some (x.1, x.2.1, x.2.2.1, x.2.2.2.1, x.2.2.2.2.1, x.2.2.2.2.2.1, x.2.2.2.2.2.2.1.1, x.2.2.2.2.2.2.1.2, x.2.2.2.2.2.2.2.1, x.2.2.2.2.2.2.2.2.1, x.2.2.2.2.2.2.2.2.2) := by
  unfold L.toCell
  unfold cCell at hc
  simp only [toAgg_eq x.2.2.2.2.2 (by unfold cAgg; omega), Option.bind_some]
theorem toCellS_eq (a : List TCell) (hc : cCellS a ≤ 1000000000000) : L.toCellS a = some a := by
  have hn : a.length ≤ 1000000000000 := by unfold cCellS at hc; omega
  unfold L.toCellS
  simp only []
  rw [cdp (by omega)]
  refine toLoop (fun m i xs => L.toCellS_l0 m (fun y => some y) i a xs) a ((0 : Int), ((0 : Int), ((0 : Int), ((0 : Int), ((0 : Int), ((0 : Int), (((0 : Int), (0 : Int)), ((0 : Int), ((0 : Int), []))))))))) hn (fun i m xs hi hx => ?_) (fun m xs => ?_) _ (by simp)
  · show L.toCellS_l0 (m + 1) _ _ _ _ = L.toCellS_l0 m _ _ _ _
    rw [L.toCellS_l0, cdp (by omega), cdp (by omega), toCell_eq (nthI a (i : Int) ((0 : Int), ((0 : Int), ((0 : Int), ((0 : Int), ((0 : Int), ((0 : Int), (((0 : Int), (0 : Int)), ((0 : Int), ((0 : Int), [])))))))))) (Nat.le_trans (cCellS_mem (nthI_mem a i _ hi)) hc), Option.bind_some, cdp (by omega), w64 (by omega) (by omega)]
    rfl
  · show L.toCellS_l0 (m + 1) _ _ _ _ = _
    rw [L.toCellS_l0, cdn (by omega)]
theorem eqWide_eq (x y : TWide) : L.eqWide x.1 x.2 y.1 y.2 = some (decide (x = y)) := by
  unfold L.eqWide
  simp only [cneI, cneB, cnotb, cbeB, cds, cdt, Option.bind_some]
  exact sdec ⟨fun h => (Prod.ext h.1 h.2), by rintro rfl; exact ⟨rfl, rfl⟩⟩
theorem eqIntS_eq (a b : List Int) (hc : a.length ≤ 1000000000000) : L.eqIntS a b = some (decide (a = b)) := by
  have hn := hc
  unfold L.eqIntS
  refine eqTop a b ?_
  intro hl
  refine eqLoop (fun m i => L.eqIntS_l0 m (fun y => some y) (some true) i a b) a b (0 : Int) hl hn (fun i m hi => ?_) (fun m => ?_)
  · show L.eqIntS_l0 (m + 1) _ _ _ _ _ = bif _ then L.eqIntS_l0 m _ _ _ _ _ else _
    rw [L.eqIntS_l0, cdp (by omega), cdp (by omega), cdp (by omega), cneI, w64 (by omega) (by omega)]
    rfl
  · show L.eqIntS_l0 (m + 1) _ _ _ _ _ = _
    rw [L.eqIntS_l0, cdn (by omega)]
theorem eqAgg_eq (x y : TAgg) (hc : cAgg x ≤ 1000000000000) : L.eqAgg x.1 x.2.1.1 x.2.1.2 x.2.2.1 x.2.2.2.1 y.1 y.2.1.1 y.2.1.2 y.2.2.1 y.2.2.2.1 x.2.2.2.2 y.2.2.2.2 = some (decide (x = y)) := by
  unfold cAgg at hc
  unfold L.eqAgg
  simp only [eqWide_eq x.2.1 y.2.1, eqIntS_eq x.2.2.2.2 y.2.2.2.2 (by omega), cneI, cneB, cnotb, cbeB, cds, cdt, Option.bind_some]
  exact sdec ⟨fun h => (Prod.ext h.1 (Prod.ext h.2.1 (Prod.ext h.2.2.1 (Prod.ext h.2.2.2.1 h.2.2.2.2)))), by rintro rfl; exact ⟨rfl, rfl, rfl, rfl, rfl⟩⟩
theorem eqCell_eq (x y : TCell) (hc : cCell x ≤ 1000000000000) : L.eqCell x.1 x.2.1 x.2.2.1 x.2.2.2.1 x.2.2.2.2.1 x.2.2.2.2.2.1 x.2.2.2.2.2.2.1.1 x.2.2.2.2.2.2.1.2 x.2.2.2.2.2.2.2.1 x.2.2.2.2.2.2.2.2.1 y.1 y.2.1 y.2.2.1 y.2.2.2.1 y.2.2.2.2.1 y.2.2.2.2.2.1 y.2.2.2.2.2.2.1.1 y.2.2.2.2.2.2.1.2 y.2.2.2.2.2.2.2.1 y.2.2.2.2.2.2.2.2.1 x.2.2.2.2.2.2.2.2.2 y.2.2.2.2.2.2.2.2.2 = some (decide (x = y)) := by
  unfold cCell at hc
  unfold L.eqCell
  simp only [eqAgg_eq x.2.2.2.2.2 y.2.2.2.2.2 (by unfold cAgg; omega), cneI, cneB, cnotb, cbeB, cds, cdt, Option.bind_some]
  exact sdec ⟨fun h => (Prod.ext h.1 (Prod.ext h.2.1 (Prod.ext h.2.2.1 (Prod.ext h.2.2.2.1 (Prod.ext h.2.2.2.2.1 h.2.2.2.2.2))))), by rintro rfl; exact ⟨rfl, rfl, rfl, rfl, rfl, rfl⟩⟩
theorem eqCellS_eq (a b : List TCell) (hc : cCellS a ≤ 1000000000000) : L.eqCellS a b = some (decide (a = b)) := by
  have hn : a.length ≤ 1000000000000 := by unfold cCellS at hc; omega
  unfold L.eqCellS
  refine eqTop a b ?_
  intro hl
  refine eqLoop (fun m i => L.eqCellS_l0 m (fun y => some y) (some true) i a b) a b ((0 : Int), ((0 : Int), ((0 : Int), ((0 : Int), ((0 : Int), ((0 : Int), (((0 : Int), (0 : Int)), ((0 : Int), ((0 : Int), []))))))))) hl hn (fun i m hi => ?_) (fun m => ?_)
  · show L.eqCellS_l0 (m + 1) _ _ _ _ _ = bif _ then L.eqCellS_l0 m _ _ _ _ _ else _
    rw [L.eqCellS_l0, cdp (by omega), cdp (by omega), cdp (by omega), eqCell_eq (nthI a (i : Int) ((0 : Int), ((0 : Int), ((0 : Int), ((0 : Int), ((0 : Int), ((0 : Int), (((0 : Int), (0 : Int)), ((0 : Int), ((0 : Int), [])))))))))) (nthI b (i : Int) ((0 : Int), ((0 : Int), ((0 : Int), ((0 : Int), ((0 : Int), ((0 : Int), (((0 : Int), (0 : Int)), ((0 : Int), ((0 : Int), [])))))))))) (Nat.le_trans (cCellS_mem (nthI_mem a i _ hi)) hc), Option.bind_some, cnotb, w64 (by omega) (by omega)]
    rfl
  · show L.eqCellS_l0 (m + 1) _ _ _ _ _ = _
    rw [L.eqCellS_l0, cdn (by omega)]
def m1Int (k : Int) (_ : Int) : Int := k
def w1Int (_ : Int) : Nat := 1
def mIntS (k : Int) (a : List Int) : List Int := markAll m1Int w1Int k a
def wIntS (a : List Int) : Nat := (a.map w1Int).sum
theorem wIntS_len (a : List Int) : wIntS a = 1 * a.length := by unfold wIntS; exact sum_const _ a _ (fun _ => rfl)
theorem markIntS_eq (k : Int) (a : List Int) (h0 : 0 ≤ k) (hc : k + 1 * (a.length : Int) ≤ 1000000000000) : L.markIntS k a = some (k + 1 * (a.length : Int), mIntS k a) := by
  unfold L.markIntS mIntS
  refine (markLoop (fun m k i xs => L.markIntS_l0 m (fun y12 y13 => some (y12, y13)) k i xs) m1Int w1Int a (0 : Int) 1 (fun _ => rfl) h0 (by omega) hc (fun i m k xs hi hx h0 h1 => ?_) (fun m k xs hx => ?_)).trans rfl
  · show L.markIntS_l0 (m + 1) _ _ _ _ = L.markIntS_l0 m _ _ _ _
    have hdec : decide ((0 : Int) ≤ (i : Int) ∧ (i : Int) < (xs.length : Int)) = true := by simp; omega
    rw [L.markIntS_l0, cdp (by omega)]
    simp (disch := omega) only [hdec, cond_true, w64, u8_mod, u64w, List.length_set, nthI_set, List.set_set, Int.toNat_natCast, cmod3, Int.add_assoc, Int.reduceAdd, if_false, reduceIte]
    rfl
  · show L.markIntS_l0 (m + 1) _ _ _ _ = _
    rw [L.markIntS_l0, cdn (by omega)]
def m1Cell (k : Int) (x : TCell) : TCell := (k, (k + 1, (k + 2, (k + 3, (k + 4, (k + 5, ((k + 6, k + 7), (k + 8, (k + 9, mIntS (k + 10) x.2.2.2.2.2.2.2.2.2)))))))))
def w1Cell (x : TCell) : Nat := 10 + 1 * (x.2.2.2.2.2.2.2.2.2).length
def mCellS (k : Int) (a : List TCell) : List TCell := markAll m1Cell w1Cell k a
def wCellS (a : List TCell) : Nat := (a.map w1Cell).sum
theorem markCellS_eq (k : Int) (a : List TCell) (h0 : 0 ≤ k) (hn : a.length ≤ 1000000000000) (hc : k + ((wCellS a : Nat) : Int) ≤ 1000000000000) : L.markCellS k a = some (k + ((wCellS a : Nat) : Int), mCellS k a) := by
  unfold L.markCellS mCellS wCellS
  refine (markLoopW (fun m k i xs => L.markCellS_l0 m (fun y12 y13 => some (y12, y13)) k i xs) m1Cell w1Cell a ((0 : Int), ((0 : Int), ((0 : Int), ((0 : Int), ((0 : Int), ((0 : Int), (((0 : Int), (0 : Int)), ((0 : Int), ((0 : Int), []))))))))) h0 hn (by unfold wCellS at hc; exact hc) (fun i m k xs hi hx h0 h1 => ?_) (fun m k xs hx => ?_)).trans rfl
  · show L.markCellS_l0 (m + 1) _ _ _ _ = L.markCellS_l0 m _ _ _ _
    have hdec : decide ((0 : Int) ≤ (i : Int) ∧ (i : Int) < (xs.length : Int)) = true := by simp; omega
    have e : k + ((w1Cell (nthI xs (i : Int) ((0 : Int), ((0 : Int), ((0 : Int), ((0 : Int), ((0 : Int), ((0 : Int), (((0 : Int), (0 : Int)), ((0 : Int), ((0 : Int), [])))))))))) : Nat) : Int) = k + (10 + 1 * (((nthI xs (i : Int) ((0 : Int), ((0 : Int), ((0 : Int), ((0 : Int), ((0 : Int), ((0 : Int), (((0 : Int), (0 : Int)), ((0 : Int), ((0 : Int), [])))))))))).2.2.2.2.2.2.2.2.2).length : Int)) := by unfold w1Cell; omega
    have e2 : IntKind.i64.wrap ((i : Int) + 1) = ((i + 1 : Nat) : Int) := by rw [w64 (by omega) (by omega)]; omega
    rw [e] at h1 ⊢
    unfold m1Cell
    rw [L.markCellS_l0, cdp (by omega)]
    skip
    simp (disch := omega) only [hdec, cond_true, e2, w64, u8_mod, u64w, List.length_set, nthI_set, List.set_set, Int.toNat_natCast, cmod3, Int.add_assoc, Int.reduceAdd, if_false, reduceIte, Option.bind_some, Int.add_zero, cond_false, markIntS_eq]
    all_goals rfl
  · show L.markCellS_l0 (m + 1) _ _ _ _ = _
    rw [L.markCellS_l0, cdn (by omega)]
theorem heldIntS_eq (k : Int) (a : List Int) (h0 : 0 ≤ k) (hc : k + 1 * (a.length : Int) ≤ 1000000000000) : L.heldIntS k (mIntS k a) = some (k + 1 * (a.length : Int)) := by
  unfold L.heldIntS
  refine heldLoop (fun m q i => L.heldIntS_l0 m (fun y12 y13 => some y13) (fun y14 => some y14) q i (mIntS k a)) m1Int w1Int a (0 : Int) 1 (fun _ => rfl) k h0 (by omega) hc (fun i m j hi h0 h1 hx => ?_) (fun m j => ?_)
  all_goals (have hl : (mIntS k a).length = a.length := markAll_length _ _ _ _)
  · show L.heldIntS_l0 (m + 1) _ _ _ _ _ = L.heldIntS_l0 m _ _ _ _ _
    have hx : nthI (mIntS k a) (i : Int) (0 : Int) = _ := hx
    have hdec : decide ((0 : Int) ≤ (i : Int) ∧ (i : Int) < ((mIntS k a).length : Int)) = true := by rw [hl]; simp; omega
    rw [L.heldIntS_l0, cdp (by omega)]
    simp (disch := omega) only [hdec, hx, m1Int, cond_true, cond_false, w64, u8_mod, u64w, bne_self_eq_false, cmod3, Int.add_assoc, Int.reduceAdd, if_false, reduceIte, beq_self_eq_true, Bool.not_true]
    rfl
  · show L.heldIntS_l0 (m + 1) _ _ _ _ _ = _
    rw [L.heldIntS_l0, cdn (by rw [hl]; omega)]
theorem heldCellS_eq (k : Int) (a : List TCell) (h0 : 0 ≤ k) (hn : a.length ≤ 1000000000000) (hc : k + ((wCellS a : Nat) : Int) ≤ 1000000000000) : L.heldCellS k (mCellS k a) = some (k + ((wCellS a : Nat) : Int)) := by
  unfold L.heldCellS wCellS
  refine heldLoopW (fun m q i => L.heldCellS_l0 m (fun y12 y13 => some y13) (fun y14 => some y14) q i (mCellS k a)) m1Cell w1Cell a ((0 : Int), ((0 : Int), ((0 : Int), ((0 : Int), ((0 : Int), ((0 : Int), (((0 : Int), (0 : Int)), ((0 : Int), ((0 : Int), []))))))))) k h0 hn (by unfold wCellS at hc; exact hc) (fun i m j hi h0 h1 hx => ?_) (fun m j => ?_)
  all_goals (have hl : (mCellS k a).length = a.length := markAll_length _ _ _ _)
  · show L.heldCellS_l0 (m + 1) _ _ _ _ _ = L.heldCellS_l0 m _ _ _ _ _
    have hx : nthI (mCellS k a) (i : Int) ((0 : Int), ((0 : Int), ((0 : Int), ((0 : Int), ((0 : Int), ((0 : Int), (((0 : Int), (0 : Int)), ((0 : Int), ((0 : Int), []))))))))) = _ := hx
    have hdec : decide ((0 : Int) ≤ (i : Int) ∧ (i : Int) < ((mCellS k a).length : Int)) = true := by rw [hl]; simp; omega
    have e : j + ((w1Cell (nthI a (i : Int) ((0 : Int), ((0 : Int), ((0 : Int), ((0 : Int), ((0 : Int), ((0 : Int), (((0 : Int), (0 : Int)), ((0 : Int), ((0 : Int), [])))))))))) : Nat) : Int) = j + (10 + 1 * (((nthI a (i : Int) ((0 : Int), ((0 : Int), ((0 : Int), ((0 : Int), ((0 : Int), ((0 : Int), (((0 : Int), (0 : Int)), ((0 : Int), ((0 : Int), [])))))))))).2.2.2.2.2.2.2.2.2).length : Int)) := by unfold w1Cell; omega
    have e2 : IntKind.i64.wrap ((i : Int) + 1) = ((i + 1 : Nat) : Int) := by rw [w64 (by omega) (by omega)]; omega
    rw [e] at h1 ⊢
    rw [L.heldCellS_l0, cdp (by rw [hl]; omega)]
    simp (disch := omega) only [hdec, hx, e2, m1Cell, cond_true, cond_false, w64, u8_mod, u64w, bne_self_eq_false, cmod3, Int.add_assoc, Int.reduceAdd, if_false, reduceIte, beq_self_eq_true, Bool.not_true, dlt0, Option.bind_some, Int.add_zero, heldIntS_eq]
    all_goals rfl
  · show L.heldCellS_l0 (m + 1) _ _ _ _ _ = _
    rw [L.heldCellS_l0, cdn (by rw [hl]; omega)]
theorem in_eq (a b c : Int) : I.in a b c = some (decide (b ≤ a ∧ a ≤ c)) := by unfold I.in; rw [cond_some, cond_and, dand]
/-! Elements -/
theorem isKey_eq (a : Int) : I.isKey a = some (decide (0 ≤ a ∧ a ≤ 15)) := by unfold I.isKey; rw [in_eq]; rfl
theorem l04Key_eq (a : Int) : S.l04Key a = some (decide (0 ≤ a ∧ a ≤ 15)) := by unfold S.l04Key; rw [cond_some, cond_and, dand]
/-! Wide numbers: a pair that stands for a number, up to multiples of 2^128 -/
def inI (n : Int) : Prop := -9223372036854775808 ≤ n ∧ n < 9223372036854775808
instance (n : Int) : Decidable (inI n) := by unfold inI; exact inferInstance
def inW (n : Int) : Prop := -170141183460469231731687303715884105728 ≤ n ∧ n < 170141183460469231731687303715884105728
def wd (n : Int) : Int × Int := (IntKind.i64.wrap (n / 18446744073709551616), n % 18446744073709551616)
theorem i64_u64 (n : Int) : IntKind.i64.wrap (IntKind.u64.wrap n) = IntKind.i64.wrap n := by rw [u64_mod, IntKind.wrap_i64, IntKind.wrap_i64]; omega
theorem u64_i64 (n : Int) : IntKind.u64.wrap (IntKind.i64.wrap n) = IntKind.u64.wrap n := by rw [u64_mod, u64_mod, IntKind.wrap_i64]; omega
theorem u64_add (a b : Int) : IntKind.u64.wrap (IntKind.u64.wrap a + IntKind.u64.wrap b) = IntKind.u64.wrap (a + b) := by simp only [u64_mod]; omega
theorem i64_add (a b : Int) : IntKind.i64.wrap (IntKind.i64.wrap a + b) = IntKind.i64.wrap (a + b) := by simp only [IntKind.wrap_i64]; omega
theorem i64_add2 (a b : Int) : IntKind.i64.wrap (a + IntKind.i64.wrap b) = IntKind.i64.wrap (a + b) := by simp only [IntKind.wrap_i64]; omega
theorem i64_range (n : Int) : inI (IntKind.i64.wrap n) := by unfold inI; rw [IntKind.wrap_i64]; omega
theorem wd_range (n : Int) : inI (wd n).1 ∧ 0 ≤ (wd n).2 ∧ (wd n).2 < 18446744073709551616 := ⟨i64_range _, by unfold wd; omega, by unfold wd; omega⟩
theorem wd_of {h l n : Int} (h0 : inI h) (h1 : 0 ≤ l) (h2 : l < 18446744073709551616) (hn : n = h * 18446744073709551616 + l) : (h, l) = wd n := by
  unfold inI at h0
  unfold wd
  have e1 : n / 18446744073709551616 = h := by omega
  have e2 : n % 18446744073709551616 = l := by omega
  rw [e1, e2, w64 h0.1 h0.2]
theorem wd_inj {m n : Int} (hm : inW m) (hn : inW n) (h : wd m = wd n) : m = n := by
  unfold inW at hm hn
  unfold wd at h
  simp only [Prod.mk.injEq, IntKind.wrap_i64] at h
  omega
theorem sWideOf_eq (n : Int) (h : inI n) : S.WideOf n = some (wd n) := by
  unfold inI at h
  unfold S.WideOf wd
  have e2 : IntKind.u64.wrap n = n % 18446744073709551616 := u64_mod n
  by_cases c : n < 0
  · rw [cdp c, e2, show n / 18446744073709551616 = -1 from by omega, w64 (by omega) (by omega)]
  · rw [cdn c, e2, show n / 18446744073709551616 = 0 from by omega, w64 (by omega) (by omega)]
theorem sWideAdd_eq (a b : Int) : S.WideAdd (wd a).1 (wd a).2 (wd b).1 (wd b).2 = some (wd (a + b)) := by
  unfold S.WideAdd wd
  simp only [u64_i64, u64_add, i64_u64]
  have ha := Int.mul_ediv_add_emod a 18446744073709551616
  have hb := Int.mul_ediv_add_emod b 18446744073709551616
  have ha2 := Int.emod_lt_of_pos a (show (0 : Int) < 18446744073709551616 by decide)
  have hb2 := Int.emod_lt_of_pos b (show (0 : Int) < 18446744073709551616 by decide)
  have ha0 := Int.emod_nonneg a (show (18446744073709551616 : Int) ≠ 0 by decide)
  have hb0 := Int.emod_nonneg b (show (18446744073709551616 : Int) ≠ 0 by decide)
  generalize a / 18446744073709551616 = A at *
  generalize a % 18446744073709551616 = p at *
  generalize b / 18446744073709551616 = B at *
  generalize b % 18446744073709551616 = q at *
  have e2 : IntKind.u64.wrap (p + q) = (a + b) % 18446744073709551616 := by rw [u64_mod]; omega
  by_cases c : IntKind.u64.wrap (p + q) < p
  · rw [cdp c, e2]
    rw [u64_mod] at c
    have e1 : (a + b) / 18446744073709551616 = A + B + 1 := by omega
    rw [e1]
    congr 2
    rw [u64_mod, IntKind.wrap_i64, IntKind.wrap_i64]
    omega
  · rw [cdn c, e2]
    rw [u64_mod] at c
    have e1 : (a + b) / 18446744073709551616 = A + B := by omega
    rw [e1]
theorem sWideNeg_eq (a : Int) : S.WideNeg (wd a).1 (wd a).2 = some (wd (-a)) := by
  unfold S.WideNeg
  have e1 : (IntKind.i64.wrap (-1 - (wd a).1), IntKind.u64.wrap (18446744073709551615 - (wd a).2)) = wd (-1 - a) := by
    unfold wd
    simp only [Prod.mk.injEq, u64_mod, IntKind.wrap_i64]
    omega
  have h1 := congrArg Prod.fst e1
  have h2 := congrArg Prod.snd e1
  simp only at h1 h2
  have e3 : wd 1 = (0, 1) := by decide
  have := sWideAdd_eq (-1 - a) 1
  rw [e3] at this
  rw [h1, h2, this, show -1 - a + 1 = -a from by omega]
  rfl
theorem mul_range {a b : Int} (ha : inI a) (hb : inI b) : inW (a * b) := by
  have h1 : a.natAbs ≤ 9223372036854775808 := by unfold inI at ha; omega
  have h2 : b.natAbs ≤ 9223372036854775808 := by unfold inI at hb; omega
  have h3 : (a * b).natAbs ≤ 9223372036854775808 * 9223372036854775808 := by rw [Int.natAbs_mul]; exact Nat.mul_le_mul h1 h2
  unfold inW; omega
theorem sTimes_l (e : Int → Int → Int → Int → Option (Int × Int)) (c1 c2 : Int) (m : Nat) : ∀ (d x : Nat) (W A : Int), x < 2 ^ d → x < 18446744073709551616 →
    S.l03Times_l0 (d + 1 + m) e (x : Int) c1 c2 (wd W).1 (wd W).2 (wd A).1 (wd A).2 = e c1 c2 (wd (W + (x : Int) * A)).1 (wd (W + (x : Int) * A)).2 := by
  intro d
  induction d with
  | zero =>
    intro x W A hx hx2
    obtain rfl : x = 0 := by simpa using hx
    rw [show 0 + 1 + m = m + 1 from by omega, S.l03Times_l0, cdn (by omega)]
    simp
  | succ d ih =>
    intro x W A hx hx2
    rw [show d + 1 + 1 + m = (d + 1 + m) + 1 from by omega, S.l03Times_l0]
    by_cases c : ¬ 0 < x
    · obtain rfl : x = 0 := by omega
      rw [cdn (by omega)]; simp
    rw [cdp (by omega), cdn (by decide)]
    simp only [sWideAdd_eq, Option.bind_some]
    rw [tmod_nat _ _ (by omega), tdiv_nat _ _ (by omega), u64w (by omega) (by omega)]
    have hq : x / 2 < 2 ^ d := by rw [Nat.pow_succ] at hx; omega
    have hi := fun W' => ih (x / 2) W' (A + A) hq (by omega)
    rw [show (x : Int) / 2 = ((x / 2 : Nat) : Int) from by omega]
    by_cases c2 : (x : Int) % 2 = 1
    · rw [cep c2, cdn (by decide), hi]
      rw [show (x : Int) = 2 * ((x / 2 : Nat) : Int) + 1 from by omega, Int.add_mul, Int.mul_add, Int.mul_assoc, Int.one_mul]
      generalize ((x / 2 : Nat) : Int) * A = Y
      rw [show W + A + (Y + Y) = W + (2 * Y + A) from by omega]
    · rw [cen c2, cdn (by decide), hi]
      rw [show (x : Int) = 2 * ((x / 2 : Nat) : Int) from by omega, Int.mul_add, Int.mul_assoc]
      generalize ((x / 2 : Nat) : Int) * A = Y
      rw [show W + (Y + Y) = W + 2 * Y from by omega]
theorem sTimes_eq (a b : Int) (ha : inI a) (hb : inI b) : S.l03Times a b = some (wd (a * b)) := by
  unfold S.l03Times
  rw [sWideOf_eq a ha, Option.bind_some]
  obtain ⟨m, hm⟩ := fu_ge 64 (by omega)
  have e0 : wd 0 = (0, 0) := by decide
  have key := fun (x : Nat) (A : Int) (hx : x < 18446744073709551616) => sTimes_l (fun y22 y23 y24 y25 => some (y24, y25)) 0 0 m 64 x 0 A (by omega) hx
  simp only [e0] at key
  unfold inI at hb
  by_cases c : b < 0
  · obtain ⟨x, hx⟩ := Int.eq_ofNat_of_zero_le (show 0 ≤ -b from by omega)
    simp only []
    rw [cdp c, sWideNeg_eq, Option.bind_some, hm, show IntKind.u64.wrap (0 - IntKind.u64.wrap b) = (x : Int) from by simp only [u64_mod]; omega]
    refine (key x (-a) (by omega)).trans ?_
    rw [← hx, Int.neg_mul_neg, Int.mul_comm b a, Int.zero_add]
  · obtain ⟨x, hx⟩ := Int.eq_ofNat_of_zero_le (show 0 ≤ b from by omega)
    simp only []
    rw [cdn c, hm, show IntKind.u64.wrap b = (x : Int) from by simp only [u64_mod]; omega]
    refine (key x a (by omega)).trans ?_
    rw [← hx, Int.mul_comm b a, Int.zero_add]
theorem compareInt_eq (a b : Int) : G.cmp.Compare_int a b = some (cmpF a b) := by
  unfold G.cmp.Compare_int G.cmp.isNaN_int cmpF
  simp only [Option.bind_some, bne_self_eq_false, cond_false]
  by_cases h : a < b
  · rw [cdp h, if_pos h]
  · rw [cdn h, if_neg h]
    by_cases h2 : b < a
    · rw [cdp h2, if_pos h2]
    · rw [cdn h2, if_neg h2]
def orF : List Int → Int
  | [] => 0
  | x :: xs => if x ≠ 0 then x else orF xs
theorem orInt_eq (a : List Int) (hn : a.length ≤ 1000000000000) : G.cmp.Or_int a = some (orF a) := by
  unfold G.cmp.Or_int
  obtain ⟨M, hM⟩ := fu_ge a.length hn
  have h1 : ∀ k i : Nat, i + k = a.length → G.cmp.Or_int_l0 (k + 1 + M) (fun y10 y11 => some y10) (fun y12 => some y12) 0 (a.length : Int) (i : Int) a = some (orF (a.drop i)) := by
    intro k
    induction k with
    | zero =>
      intro i hi
      rw [show 0 + 1 + M = M + 1 from by omega, G.cmp.Or_int_l0, cdn (by omega), List.drop_of_length_le (by omega)]; rfl
    | succ k ih =>
      intro i hi
      rw [show k + 1 + 1 + M = (k + 1 + M) + 1 from by omega, G.cmp.Or_int_l0, cdp (by omega), cdp (by omega), drop_at a i 0 (by omega), orF]
      simp only []
      by_cases c : nthI a (i : Int) 0 = 0
      · rw [cnn c, if_neg (by simpa using c), w64 (by omega) (by omega)]
        exact ih (i + 1) (by omega)
      · rw [cnp c, if_pos c]
  rw [hM]
  exact h1 a.length 0 (by omega)
/-! Wide numbers of the program -/
theorem xor_ones_i64 (x : Int) (h : inI x) : Go.bits .xor .i64 (-1) x = -1 - x := by
  unfold inI at h
  show IntKind.i64.wrap (((BitVec.ofInt 64 (-1)) ^^^ (BitVec.ofInt 64 x)).toNat : Int) = -1 - x
  have e : (BitVec.ofInt 64 (-1)) = BitVec.allOnes 64 := by decide
  have e2 : ((BitVec.ofInt 64 x).toNat : Int) = x % 18446744073709551616 := by rw [BitVec.toNat_ofInt]; omega
  rw [e, BitVec.xor_comm, BitVec.xor_allOnes, BitVec.toNat_not, IntKind.wrap_i64]
  omega
theorem xor_ones_u64 (x : Int) (h0 : 0 ≤ x) (h1 : x < 18446744073709551616) : Go.bits .xor .u64 18446744073709551615 x = 18446744073709551615 - x := by
  show IntKind.u64.wrap (((BitVec.ofInt 64 18446744073709551615) ^^^ (BitVec.ofInt 64 x)).toNat : Int) = _
  have e : (BitVec.ofInt 64 18446744073709551615) = BitVec.allOnes 64 := by decide
  have e2 : ((BitVec.ofInt 64 x).toNat : Int) = x % 18446744073709551616 := by rw [BitVec.toNat_ofInt]; omega
  rw [e, BitVec.xor_comm, BitVec.xor_allOnes, BitVec.toNat_not, u64_mod]
  omega
theorem iWideOf_eq (n : Int) (h : inI n) : I.WideOf n = some (wd n) := by
  unfold inI at h
  unfold I.WideOf wd
  rw [cdp (by decide), show (2 : Int) ^ min (Int.toNat 63) (IntKind.bits .i64) = 9223372036854775808 from by decide, Int.fdiv_eq_ediv_of_nonneg _ (by decide), u64_mod, IntKind.wrap_i64]
  congr 2
  omega
theorem iWideAdd_eq (a b : Int) : I.WideAdd (wd a).1 (wd a).2 (wd b).1 (wd b).2 = some (wd (a + b)) := by
  unfold I.WideAdd
  have ha := (wd_range a).2
  have hb := (wd_range b).2
  rw [cdp (by omega)]
  unfold wd
  simp only [i64_add, i64_add2, Int.add_zero]
  have e : a / 18446744073709551616 + b / 18446744073709551616 + (a % 18446744073709551616 + b % 18446744073709551616) / 18446744073709551616 = (a + b) / 18446744073709551616 := by omega
  have e2 : (a % 18446744073709551616 + b % 18446744073709551616) % 18446744073709551616 = (a + b) % 18446744073709551616 := by omega
  rw [e, e2]
theorem iWideNeg_eq (a : Int) : I.WideNeg (wd a).1 (wd a).2 = some (wd (-a)) := by
  unfold I.WideNeg
  have hr := wd_range a
  rw [show (if IntKind.signed .i64 then (-1 : Int) else IntKind.max .i64) = -1 from by decide, show (if IntKind.signed .u64 then (-1 : Int) else IntKind.max .u64) = 18446744073709551615 from by decide]
  simp only []
  rw [xor_ones_i64 _ hr.1, xor_ones_u64 _ hr.2.1 hr.2.2]
  have e1 : (-1 - (wd a).1, 18446744073709551615 - (wd a).2) = wd (-1 - a) := by
    unfold wd
    simp only [Prod.mk.injEq, IntKind.wrap_i64]
    omega
  have h1 := congrArg Prod.fst e1
  have h2 := congrArg Prod.snd e1
  simp only at h1 h2
  have e3 : wd 1 = (0, 1) := by decide
  have := iWideAdd_eq (-1 - a) 1
  rw [e3] at this
  rw [h1, h2, this, show -1 - a + 1 = -a from by omega]
  rfl
theorem and_low (x : Int) (h0 : 0 ≤ x) (h1 : x < 18446744073709551616) : Go.bits .and .u64 x 4294967295 = x % 4294967296 := by
  obtain ⟨n, rfl⟩ := Int.eq_ofNat_of_zero_le h0
  have := bits_and_u64_nat n 4294967295 (by omega) (by omega)
  rw [show (4294967295 : Nat) = 2 ^ 32 - 1 from by decide, Nat.and_two_pow_sub_one_eq_mod] at this
  exact this
theorem mul64_digits (a b : Int) (ha : 0 ≤ a) (ha2 : a < 18446744073709551616) (hb : 0 ≤ b) (hb2 : b < 18446744073709551616) :
    ∃ p q r s : Int, (a / 4294967296) * (b / 4294967296) = p ∧ (a / 4294967296) * (b % 4294967296) = q ∧ (a % 4294967296) * (b / 4294967296) = r ∧ (a % 4294967296) * (b % 4294967296) = s ∧
      a * b = p * 18446744073709551616 + (q + r) * 4294967296 + s ∧ 0 ≤ p ∧ p ≤ 18446744065119617025 ∧ 0 ≤ q ∧ q ≤ 18446744065119617025 ∧ 0 ≤ r ∧ r ≤ 18446744065119617025 ∧ 0 ≤ s ∧ s ≤ 18446744065119617025 := by
  have bd : ∀ x y : Int, 0 ≤ x → x ≤ 4294967295 → 0 ≤ y → y ≤ 4294967295 → 0 ≤ x * y ∧ x * y ≤ 18446744065119617025 := fun x y h1 h2 h3 h4 => ⟨Int.mul_nonneg h1 h3, Int.le_trans (Int.mul_le_mul h2 h4 h3 (by decide)) (by decide)⟩
  have e : a * b = (a / 4294967296 * 4294967296 + a % 4294967296) * (b / 4294967296 * 4294967296 + b % 4294967296) := by rw [Int.ediv_mul_add_emod, Int.ediv_mul_add_emod]
  have h1 := bd (a / 4294967296) (b / 4294967296) (by omega) (by omega) (by omega) (by omega)
  have h2 := bd (a / 4294967296) (b % 4294967296) (by omega) (by omega) (by omega) (by omega)
  have h3 := bd (a % 4294967296) (b / 4294967296) (by omega) (by omega) (by omega) (by omega)
  have h4 := bd (a % 4294967296) (b % 4294967296) (by omega) (by omega) (by omega) (by omega)
  refine ⟨_, _, _, _, rfl, rfl, rfl, rfl, ?_, h1.1, h1.2, h2.1, h2.2, h3.1, h3.2, h4.1, h4.2⟩
  rw [e]
  generalize a / 4294967296 = A
  generalize a % 4294967296 = C
  generalize b / 4294967296 = B
  generalize b % 4294967296 = D
  rw [Int.add_mul, Int.mul_add, Int.mul_add]
  rw [show A * 4294967296 * (B * 4294967296) = A * B * 18446744073709551616 from by rw [Int.mul_assoc, Int.mul_left_comm 4294967296 B, ← Int.mul_assoc, show (4294967296 : Int) * 4294967296 = 18446744073709551616 from by decide]]
  rw [show A * 4294967296 * D = A * D * 4294967296 from by rw [Int.mul_assoc, Int.mul_comm 4294967296 D, ← Int.mul_assoc], show C * (B * 4294967296) = C * B * 4294967296 from by rw [Int.mul_assoc]]
  omega
theorem mul64_eq (a b : Int) (ha : 0 ≤ a) (ha2 : a < 18446744073709551616) (hb : 0 ≤ b) (hb2 : b < 18446744073709551616) : G.bits.Mul64 a b = some (a * b / 18446744073709551616, a * b % 18446744073709551616) := by
  unfold G.bits.Mul64
  have h32 : (2 : Int) ^ min (Int.toNat 32) (IntKind.bits .u64) = 4294967296 := by decide
  have hd : decide ((0 : Int) ≤ 32) = true := by decide
  obtain ⟨p, q, r, s, e1, e2, e3, e4, e5, p0, p1, q0, q1, r0, r1, s0, s1⟩ := mul64_digits a b ha ha2 hb hb2
  have fd : ∀ x : Int, Int.fdiv x 4294967296 = x / 4294967296 := fun x => Int.fdiv_eq_ediv_of_nonneg _ (by decide)
  simp only [hd, cond_true, h32, fd, and_low a ha ha2, and_low b hb hb2, e1, e2, e3, e4]
  rw [u64w q0 (by omega), u64w s0 (by omega), u64w p0 (by omega), u64w r0 (by omega), u64w (n := q + s / 4294967296) (by omega) (by omega), and_low _ (by omega) (by omega), u64w (n := p + (q + s / 4294967296) / 4294967296) (by omega) (by omega), u64w (n := (q + s / 4294967296) % 4294967296 + r) (by omega) (by omega), u64w (by omega) (by omega), u64_mod, e5]
  congr 2
  omega
theorem iTimesW_eq (n m : Int) (hn : inI n) (hm : 0 ≤ m) (hm2 : m < 18446744073709551616) (hm3 : m ≤ 9223372036854775807) : I.wideTimes n m = some (wd (n * m)) := by
  unfold I.wideTimes
  unfold inI at hn
  have em : IntKind.u64.wrap m = m := u64w hm hm2
  have key : ∀ z : Int, 0 ≤ z → z ≤ 9223372036854775808 → (IntKind.i64.wrap (z * m / 18446744073709551616), z * m % 18446744073709551616) = wd (z * m) := fun z h0 h1 => rfl
  simp only [em]
  by_cases c : n < 0
  · rw [cdp c, show IntKind.u64.wrap (0 - IntKind.u64.wrap n) = -n from by simp only [u64_mod]; omega, mul64_eq (-n) m (by omega) (by omega) hm hm2, Option.bind_some, cdp c]
    have h1 : IntKind.i64.wrap (-n * m / 18446744073709551616) = (wd (-n * m)).1 := rfl
    have h2 : -n * m % 18446744073709551616 = (wd (-n * m)).2 := rfl
    simp only []
    rw [h1, h2, iWideNeg_eq, Int.neg_mul, Int.neg_neg]
    rfl
  · rw [cdn c, show IntKind.u64.wrap n = n from u64w (by omega) (by omega), mul64_eq n m (by omega) (by omega) hm hm2, Option.bind_some, cdn c]
    rfl
theorem compareU64_eq (a b : Int) : G.cmp.Compare_uint64 a b = some (cmpF a b) := by
  unfold G.cmp.Compare_uint64 G.cmp.isNaN_uint64 cmpF
  simp only [Option.bind_some, bne_self_eq_false, cond_false]
  by_cases h : a < b
  · rw [cdp h, if_pos h]
  · rw [cdn h, if_neg h]
    by_cases h2 : b < a
    · rw [cdp h2, if_pos h2]
    · rw [cdn h2, if_neg h2]
theorem wd_cmp {a b : Int} (ha : inW a) (hb : inW b) : (if (wd a).1 ≠ (wd b).1 then cmpF (wd a).1 (wd b).1 else cmpF (wd a).2 (wd b).2) = cmpF a b := by
  unfold inW at ha hb
  unfold wd cmpF
  simp only [IntKind.wrap_i64]
  split <;> (repeat' split) <;> first | rfl | omega
theorem cmpF_zero (a b : Int) : cmpF a b = 0 ↔ a = b := by unfold cmpF; split <;> (try split) <;> omega
theorem orF_two (x y : Int) : orF [x, y] = if x ≠ 0 then x else y := by
  by_cases h : x = 0 <;> by_cases h2 : y = 0 <;> simp [orF, h, h2]
theorem iWideCmp_eq {a b : Int} (ha : inW a) (hb : inW b) : I.WideCmp (wd a).1 (wd a).2 (wd b).1 (wd b).2 = some (cmpF a b) := by
  unfold I.WideCmp
  rw [compareInt_eq, compareU64_eq, Option.bind_some, Option.bind_some, orInt_eq _ (by simp), Option.bind_some, ← wd_cmp ha hb, orF_two]
  by_cases h : (wd a).1 = (wd b).1
  · rw [(cmpF_zero _ _).2 h, if_neg (by decide), if_neg (fun q => q h)]
  · rw [if_pos (fun q => h ((cmpF_zero _ _).1 q)), if_pos h]
theorem sWideCmp_eq {a b : Int} (ha : inW a) (hb : inW b) : S.WideCmp (wd a).1 (wd a).2 (wd b).1 (wd b).2 = some (cmpF a b) := by
  rw [← wd_cmp ha hb]
  unfold S.WideCmp cmpF
  by_cases h : (wd a).1 = (wd b).1
  · rw [cnn h, if_neg (by simpa using h)]
    by_cases h2 : (wd a).2 = (wd b).2
    · rw [cnn h2, if_neg (by omega), if_neg (by omega)]
    · rw [cnp h2]
      by_cases h3 : (wd a).2 < (wd b).2
      · rw [cdp h3, if_pos h3]
      · rw [cdn h3, if_neg h3, if_pos (by omega)]
  · rw [cnp h, if_pos h]
    by_cases h3 : (wd a).1 < (wd b).1
    · rw [cdp h3, if_pos h3]
    · rw [cdn h3, if_neg h3, if_pos (by omega)]
/-! Aggregates -/
def lsum : List Int → Int
  | [] => 0
  | x :: xs => x + lsum xs
theorem lsum_bd {a : List Int} (h : ∀ x ∈ a, inI x) : -9223372036854775808 * (a.length : Int) ≤ lsum a ∧ lsum a ≤ 9223372036854775807 * (a.length : Int) := by
  induction a with
  | nil => simp [lsum]
  | cons x xs ih =>
    have h1 := ih fun y hy => h y (List.mem_cons_of_mem _ hy)
    have h2 := h x List.mem_cons_self
    unfold inI at h2
    simp only [lsum, List.length_cons]
    omega
def maxAt (xs : List Int) : Nat → Nat → Nat → Nat
  | 0, _, a => a
  | k + 1, i, a => maxAt xs k (i + 1) (if nthI xs (a : Int) 0 < nthI xs (i : Int) 0 then i else a)
theorem maxAt_ok (xs : List Int) : ∀ k i a : Nat, i + k = xs.length → a < xs.length → (∀ j : Nat, j < i → nthI xs (j : Int) 0 ≤ nthI xs (a : Int) 0 ∧ (j < a → nthI xs (j : Int) 0 < nthI xs (a : Int) 0)) → (a ≤ i) →
    maxAt xs k i a < xs.length ∧ ∀ j : Nat, j < xs.length → nthI xs (j : Int) 0 ≤ nthI xs ((maxAt xs k i a : Nat) : Int) 0 ∧ (j < maxAt xs k i a → nthI xs (j : Int) 0 < nthI xs ((maxAt xs k i a : Nat) : Int) 0) := by
  intro k
  induction k with
  | zero => intro i a hi ha h _; obtain rfl : i = xs.length := by omega
            exact ⟨ha, h⟩
  | succ k ih =>
    intro i a hi ha h hle
    rw [maxAt]
    by_cases c : nthI xs (a : Int) 0 < nthI xs (i : Int) 0
    · rw [if_pos c]
      refine ih (i + 1) i (by omega) (by omega) (fun j hj => ?_) (by omega)
      rcases Nat.lt_or_ge j i with h' | h'
      · have := (h j h').1; exact ⟨by omega, fun _ => by omega⟩
      · obtain rfl : j = i := by omega
        exact ⟨Int.le_refl _, fun h => by omega⟩
    · rw [if_neg c]
      refine ih (i + 1) a (by omega) ha (fun j hj => ?_) (by omega)
      rcases Nat.lt_or_ge j i with h' | h'
      · exact h j h'
      · obtain rfl : j = i := by omega
        exact ⟨by omega, fun h => by omega⟩
def sel : Nat → List Int → List Int
  | 0, _ => []
  | n + 1, all => if all = [] then [] else nthI all ((maxAt all all.length 0 0 : Nat) : Int) 0 :: sel n (all.take (maxAt all all.length 0 0) ++ all.drop (maxAt all all.length 0 0 + 1))
theorem sel_length : ∀ n all, (sel n all).length ≤ n
  | 0, _ => by simp [sel]
  | n + 1, all => by
    rw [sel]
    split
    · simp
    · have := sel_length n (all.take (maxAt all all.length 0 0) ++ all.drop (maxAt all all.length 0 0 + 1))
      simp only [List.length_cons]; omega
def descB : List Int → Bool
  | [] => true
  | x :: xs => (xs.all fun y => decide (y ≤ x)) && descB xs
theorem sel_eq : ∀ n all, all.length ≤ n → (sel n all = all ↔ descB all = true)
  | 0, [], _ => by simp [sel, descB]
  | 0, x :: xs, h => by simp at h
  | n + 1, [], _ => by simp [sel, descB]
  | n + 1, x :: xs, h => by
    have hm := maxAt_ok (x :: xs) (x :: xs).length 0 0 (by omega) (by simp) (fun j hj => by omega) (by omega)
    have ih := sel_eq n xs (by simp at h; omega)
    rw [sel, if_neg (by simp)]
    generalize maxAt (x :: xs) (x :: xs).length 0 0 = a at *
    have h0 : nthI (x :: xs) ((0 : Nat) : Int) 0 = x := rfl
    have hj : ∀ y ∈ xs, ∃ j : Nat, j + 1 < (x :: xs).length ∧ nthI (x :: xs) ((j + 1 : Nat) : Int) 0 = y := fun y hy => by
      obtain ⟨j, hj, e⟩ := List.getElem_of_mem hy
      refine ⟨j, by simp; omega, ?_⟩
      rw [nthI_nat, List.getD_cons_succ, List.getD_eq_getElem?_getD, List.getElem?_eq_getElem hj, e]; rfl
    rw [descB, Bool.and_eq_true, List.all_eq_true]
    constructor
    · intro e
      injection e with e1 e2
      have ha : a = 0 := by
        rcases Nat.eq_zero_or_pos a with h' | h'
        · exact h'
        · have := (hm.2 0 (by simp)).2 h'
          rw [h0] at this; omega
      subst ha
      refine ⟨fun y hy => ?_, ih.1 (by simpa using e2)⟩
      obtain ⟨j, hj1, hj2⟩ := hj y hy
      have := (hm.2 (j + 1) hj1).1
      rw [hj2, h0] at this
      exact decide_eq_true this
    · rintro ⟨h1, h2⟩
      have ha : a = 0 := by
        rcases Nat.eq_zero_or_pos a with h' | h'
        · exact h'
        · have h3 := (hm.2 0 (by simp)).2 h'
          rw [h0] at h3
          obtain ⟨b, rfl⟩ : ∃ b, a = b + 1 := ⟨a - 1, by omega⟩
          have hb : b < xs.length := by have := hm.1; simp at this; omega
          have e : nthI (x :: xs) ((b + 1 : Nat) : Int) 0 = xs[b] := by
            rw [nthI_nat, List.getD_cons_succ, List.getD_eq_getElem?_getD, List.getElem?_eq_getElem hb]; rfl
          rw [e] at h3
          have := of_decide_eq_true (h1 _ (List.getElem_mem hb))
          omega
      subst ha
      rw [h0]
      simp only [List.take_zero, List.nil_append, List.drop_succ_cons, List.drop_zero, Nat.zero_add]
      rw [ih.2 h2]
theorem sTop_l1 (e : Int → List Int → List Int → Option (List Int)) (m : Nat) (xs acc : List Int) (hx : xs.length ≤ 1000000000000) : ∀ k i a : Nat, i + k = xs.length → a < xs.length → S.TopOf_l1 (k + 1 + m) e (a : Int) (i : Int) xs acc = e ((maxAt xs k i a : Nat) : Int) xs acc := by
  intro k
  induction k with
  | zero =>
    intro i a hi ha
    rw [show 0 + 1 + m = m + 1 from by omega, S.TopOf_l1, cdn (by omega)]; rfl
  | succ k ih =>
    intro i a hi ha
    rw [show k + 1 + 1 + m = (k + 1 + m) + 1 from by omega, S.TopOf_l1, cdp (by omega), cdp (by omega), cdp (by omega), w64 (by omega) (by omega), maxAt]
    simp only []
    by_cases c : nthI xs (a : Int) 0 < nthI xs (i : Int) 0
    · rw [cdp c, if_pos c]; exact ih (i + 1) i (by omega) (by omega)
    · rw [cdn c, if_neg c]; exact ih (i + 1) a (by omega) ha
theorem sTop_l0 (m : Nat) : ∀ (d : Nat) (all out : List Int), out.length + d = 4 → all.length ≤ 1000000000 → S.TopOf_l0 (d + 1 + m) (fun y => some y) all out = some (out ++ sel d all) := by
  intro d
  induction d with
  | zero =>
    intro all out ho ha
    rw [show 0 + 1 + m = m + 1 from by omega, S.TopOf_l0, cdn (by omega)]; simp [sel]
  | succ d ih =>
    intro all out ho ha
    rw [show d + 1 + 1 + m = (d + 1 + m) + 1 from by omega, S.TopOf_l0, cdp (by omega), sel]
    by_cases c : all = []
    · subst c
      rw [cdn (by simp), if_pos rfl]; simp
    · have hp : 0 < all.length := List.length_pos_iff.2 c
      obtain ⟨M, hM⟩ := fu_ge all.length (by omega)
      rw [cdp (by omega), if_neg c, hM]
      refine (sTop_l1 _ M all out (by omega) all.length 0 0 (by omega) hp).trans ?_
      have hm := (maxAt_ok all all.length 0 0 (by omega) hp (fun j hj => by omega) (by omega)).1
      generalize maxAt all all.length 0 0 = a at *
      have e1 : IntKind.i64.wrap ((a : Int) + 1) = ((a + 1 : Nat) : Int) := by rw [w64 (by omega) (by omega)]; omega
      simp only [e1, Int.toNat_natCast, List.nil_append]
      rw [cdp (by omega), cdp (by simp; omega), cdp (by omega), cdp (by omega), cdp (by simp; omega), cdp (by simp; omega)]
      rw [show Int.toNat 0 = 0 from rfl, List.drop_zero, List.take_of_length_le (Nat.le_refl all.length)]
      refine (ih _ _ (by simp; omega) (by simp; omega)).trans ?_
      simp
theorem sTopOf_eq (a b : List Int) (h : a.length + b.length ≤ 1000000000) : S.TopOf a b = some (sel 4 (a ++ b)) := by
  unfold S.TopOf
  obtain ⟨m, hm⟩ := fu_ge 4 (by omega)
  simp only [List.nil_append]
  rw [cdp (by simp; omega), cdp (by omega), hm]
  exact sTop_l0 m 4 (a ++ b) [] rfl (by rw [List.length_append]; omega)
theorem sSame_eq (a b : List Int) (hc : a.length ≤ 1000000000000) : S.l07Same a b = some (decide (a = b)) := by
  unfold S.l07Same
  refine eqTop a b ?_
  intro hl
  refine eqLoop (fun m i => S.l07Same_l0 m (fun y => some y) (some true) i a b) a b (0 : Int) hl hc (fun i m hi => ?_) (fun m => ?_)
  · show S.l07Same_l0 (m + 1) _ _ _ _ _ = bif _ then S.l07Same_l0 m _ _ _ _ _ else _
    rw [S.l07Same_l0, cdp (by omega), cdp (by omega), cdp (by omega), cneI, w64 (by omega) (by omega)]
    rfl
  · show S.l07Same_l0 (m + 1) _ _ _ _ _ = _
    rw [S.l07Same_l0, cdn (by omega)]
/-- What an aggregate must be. -/
def aggOk (N h l mn mx : Int) (top : List Int) : Prop :=
  (N = 0 ∧ h = 0 ∧ l = 0 ∧ mn = 0 ∧ mx = 0 ∧ top.length = 0) ∨
  ((1 ≤ N ∧ N ≤ 1000000) ∧ (top.length : Int) = (if 4 < N then 4 else N) ∧ descB top = true ∧ nthI top 0 0 = mx ∧ mn ≤ nthI top ((top.length - 1 : Nat) : Int) 0 ∧
    if N ≤ 4 then mn = nthI top ((top.length - 1 : Nat) : Int) 0 ∧ h * 18446744073709551616 + l = lsum top
    else lsum top + mn + mn * (N - 5) ≤ h * 18446744073709551616 + l ∧ h * 18446744073709551616 + l ≤ lsum top + mn + nthI top ((top.length - 1 : Nat) : Int) 0 * (N - 5))
instance (N h l mn mx : Int) (top : List Int) : Decidable (aggOk N h l mn mx top) := by unfold aggOk; exact inferInstance
/-- Consecutive ones. -/
def descI (a : List Int) (i : Nat) : Prop := ∀ j : Nat, i ≤ j → j < a.length → 0 < j → nthI a (j : Int) 0 ≤ nthI a ((j - 1 : Nat) : Int) 0
theorem descB_cons : ∀ (x : Int) (xs : List Int), descB (x :: xs) = true ↔ (∀ y ∈ xs, y ≤ x) ∧ descB xs = true := fun x xs => by
  rw [descB, Bool.and_eq_true, List.all_eq_true]
  simp only [decide_eq_true_eq]
theorem descI_cons (x y : Int) (xs : List Int) : descI (x :: y :: xs) 0 ↔ y ≤ x ∧ descI (y :: xs) 0 := by
  constructor
  · intro h
    refine ⟨h 1 (by omega) (by simp) (by omega), fun j _ hj h0 => ?_⟩
    obtain ⟨i, rfl⟩ : ∃ i, j = i + 1 := ⟨j - 1, by omega⟩
    exact h (i + 2) (by omega) (by simp at hj ⊢; omega) (by omega)
  · rintro ⟨h1, h2⟩ j _ hj h0
    obtain ⟨i, rfl⟩ : ∃ i, j = i + 1 := ⟨j - 1, by omega⟩
    rcases Nat.eq_zero_or_pos i with rfl | hi
    · exact h1
    · have := h2 i (by omega) (by simp at hj ⊢; omega) hi
      obtain ⟨k, rfl⟩ : ∃ k, i = k + 1 := ⟨i - 1, by omega⟩
      exact this
theorem descI_iff : ∀ a : List Int, descI a 0 ↔ descB a = true
  | [] => by simp [descI, descB]
  | [x] => by
    simp only [descB, List.all_nil, Bool.and_self, iff_true]
    intro j _ hj h0; simp at hj; omega
  | x :: y :: xs => by
    rw [descI_cons, descB_cons, descI_iff (y :: xs)]
    constructor
    · rintro ⟨h1, h2⟩
      refine ⟨fun z hz => ?_, h2⟩
      rcases List.mem_cons.1 hz with rfl | hz
      · exact h1
      · have := ((descB_cons y xs).1 h2).1 z hz; omega
    · rintro ⟨h1, h2⟩; exact ⟨h1 y List.mem_cons_self, h2⟩
section
variable (top : List Int) (ht : ∀ x ∈ top, inI x) (hl : top.length ≤ 4)
include ht hl
theorem sAgg_l (e : Int → Int → Int → Int → Int → Int → Int → List Int → Option Bool) (c1 c2 c3 c4 c5 : Int) (m : Nat) : ∀ (d i : Nat) (V : Int), i + d = top.length → S.AggOk_l0 (d + 1 + m) e (i : Int) c1 c2 c3 c4 c5 (wd V).1 (wd V).2 top = e c1 c2 c3 c4 c5 (wd (V + lsum (top.drop i))).1 (wd (V + lsum (top.drop i))).2 top := by
  intro d
  induction d with
  | zero =>
    intro i V hi
    rw [show 0 + 1 + m = m + 1 from by omega, S.AggOk_l0, cdn (by omega), List.drop_of_length_le (by omega)]
    simp [lsum]
  | succ d ih =>
    intro i V hi
    rw [show d + 1 + 1 + m = (d + 1 + m) + 1 from by omega, S.AggOk_l0, cdp (by omega), cdp (by omega), sWideOf_eq _ (ht _ (nthI_mem top i 0 (by omega))), Option.bind_some, sWideAdd_eq, Option.bind_some, w64 (by omega) (by omega)]
    refine (ih (i + 1) _ (by omega)).trans ?_
    rw [drop_at top i 0 (by omega), lsum, Int.add_assoc]
theorem iAgg_l (e0 : Bool → Int → Int → Int → Int → Int → Int → Int → List Int → Option Bool) (e1 : Int → Int → Int → Int → Int → Int → Int → List Int → Option Bool) (c1 c2 c3 c4 c5 : Int) (he : ∀ a b c d e f g h, e0 false a b c d e f g h = some false) (m : Nat) : ∀ (d i : Nat) (V : Int), i + d = top.length →
    (descI top i → I.isAgg_l0 (d + 1 + m) e0 e1 (top.length : Int) (i : Int) c1 c2 c3 c4 c5 (wd V).1 (wd V).2 top = e1 c1 c2 c3 c4 c5 (wd (V - lsum (top.drop i))).1 (wd (V - lsum (top.drop i))).2 top) ∧
    (¬ descI top i → I.isAgg_l0 (d + 1 + m) e0 e1 (top.length : Int) (i : Int) c1 c2 c3 c4 c5 (wd V).1 (wd V).2 top = some false) := by
  intro d
  induction d with
  | zero =>
    intro i V hi
    rw [show 0 + 1 + m = m + 1 from by omega, I.isAgg_l0, cdn (by omega), List.drop_of_length_le (by omega)]
    exact ⟨fun _ => by simp [lsum], fun h => absurd (fun j h1 h2 => by omega) h⟩
  | succ d ih =>
    intro i V hi
    have hx := ht _ (nthI_mem top i 0 (by omega))
    have next : V + -nthI top (i : Int) 0 - lsum (top.drop (i + 1)) = V - lsum (top.drop i) := by
      rw [drop_at top i 0 (by omega), lsum]; omega
    have hgo := ih (i + 1) (V + -nthI top (i : Int) 0) (by omega)
    rw [next] at hgo
    rw [show d + 1 + 1 + m = (d + 1 + m) + 1 from by omega, I.isAgg_l0, cdp (by omega), cdp (by omega)]
    simp only [iWideOf_eq _ hx, Option.bind_some, iWideNeg_eq, iWideAdd_eq]
    rw [w64 (n := (i : Int) + 1) (by omega) (by omega)]
    by_cases c : 0 < i
    · rw [cdp (by omega), w64 (by omega) (by omega), cdp (by omega), show (i : Int) - 1 = ((i - 1 : Nat) : Int) from by omega]
      by_cases c2 : nthI top ((i - 1 : Nat) : Int) 0 < nthI top (i : Int) 0
      · rw [cdp c2, he]
        exact ⟨fun h => by have := h i (Nat.le_refl _) (by omega) c; omega, fun _ => rfl⟩
      · rw [cdn c2]
        refine ⟨fun h => hgo.1 fun j h1 => h j (by omega), fun h => hgo.2 fun h' => h fun j h1 h2 h3 => ?_⟩
        rcases Nat.lt_or_ge i j with h4 | h4
        · exact h' j (by omega) h2 h3
        · obtain rfl : j = i := by omega
          omega
    · rw [cdn (by omega)]
      refine ⟨fun h => hgo.1 fun j h1 => h j (by omega), fun h => hgo.2 fun h' => h fun j h1 h2 h3 => h' j (by omega) h2 h3⟩
end
theorem wd_red (V : Int) (h0 : -340282366920938463463374607431768211456 ≤ V) (h1 : V < 340282366920938463463374607431768211456) : ∃ V3, inW V3 ∧ wd V = wd V3 ∧ (V3 = V ∨ V3 = V - 340282366920938463463374607431768211456 ∨ V3 = V + 340282366920938463463374607431768211456) := by
  have per : ∀ X : Int, wd (X + 340282366920938463463374607431768211456) = wd X := fun X => by
    unfold wd
    simp only [Prod.mk.injEq, IntKind.wrap_i64]
    omega
  unfold inW
  by_cases c : V < -170141183460469231731687303715884105728
  · exact ⟨V + 340282366920938463463374607431768211456, by omega, (per V).symm, .inr (.inr rfl)⟩
  · by_cases c2 : 170141183460469231731687303715884105728 ≤ V
    · refine ⟨V - 340282366920938463463374607431768211456, by omega, ?_, .inr (.inl rfl)⟩
      have := per (V - 340282366920938463463374607431768211456)
      rw [show V - 340282366920938463463374607431768211456 + 340282366920938463463374607431768211456 = V from by omega] at this
      exact this
    · exact ⟨V, by omega, rfl, .inl rfl⟩
theorem cmpF_le (a b : Int) : cmpF a b ≤ 0 ↔ a ≤ b := by unfold cmpF; split <;> (try split) <;> omega
theorem cmpF_ge (a b : Int) : 0 ≤ cmpF a b ↔ b ≤ a := by unfold cmpF; split <;> (try split) <;> omega
theorem many_bd {x n : Int} (hx : inI x) (h0 : 0 ≤ n) (h1 : n ≤ 1000000) : -9223372036854775808000000 ≤ x * n ∧ x * n ≤ 9223372036854775808000000 := by
  have h2 : x.natAbs ≤ 9223372036854775808 := by unfold inI at hx; omega
  have h3 : (x * n).natAbs ≤ 9223372036854775808 * 1000000 := by rw [Int.natAbs_mul]; exact Nat.mul_le_mul h2 (by omega)
  omega
section
variable (N h l mn mx : Int) (top : List Int) (hN : inI N) (hh : inI h) (hl0 : 0 ≤ l) (hl1 : l < 18446744073709551616) (hmn : inI mn) (ht : ∀ x ∈ top, inI x) (hl : top.length ≤ 1000000000)
include hN hh hl0 hl1 hmn ht hl
theorem iAggOk_eq : I.isAgg N h l mn mx top = some (decide (aggOk N h l mn mx top)) := by
  unfold I.isAgg
  by_cases c0 : N = 0
  · rw [cep c0]
    have hz : ∀ x : Int, (x == 0) = decide (x = 0) := fun x => by rw [Bool.eq_iff_iff]; simp
    simp only [hz, Bool.and_true, dand, cds]
    refine sdec ?_
    unfold aggOk
    constructor
    · rintro ⟨⟨h1, h2⟩, h3, h4, h5⟩; exact .inl ⟨c0, h1, h2, h3, h4, by omega⟩
    · rintro (⟨_, h1, h2, h3, h4, h5⟩ | ⟨h1, _⟩)
      · exact ⟨⟨h1, h2⟩, h3, h4, by omega⟩
      · omega
  rw [cen c0, in_eq, Option.bind_some]
  by_cases c1 : ¬ (1 ≤ N ∧ N ≤ 1000000)
  · rw [decide_eq_false c1, Bool.not_false, cond_true]
    exact sfal fun h => by unfold aggOk at h; rcases h with h | h <;> omega
  have c1 := Decidable.not_not.1 c1
  rw [decide_eq_true c1, Bool.not_true, cond_false]
  by_cases c2 : ¬ (top.length : Int) = (if 4 < N then 4 else N)
  · rw [cnp c2]
    exact sfal fun h => by
      unfold aggOk at h
      rcases h with h | h
      · omega
      · exact c2 h.2.1
  have c2 := Decidable.not_not.1 c2
  have hlen : 1 ≤ top.length ∧ top.length ≤ 4 := by split at c2 <;> omega
  rw [cnn c2, cdp (by omega)]
  by_cases c3 : ¬ nthI top 0 0 = mx
  · rw [cnp c3]
    exact sfal fun h => by
      unfold aggOk at h
      rcases h with h | h
      · omega
      · exact c3 h.2.2.2.1
  have c3 := Decidable.not_not.1 c3
  rw [cnn c3]
  obtain ⟨W, hW⟩ : ∃ W, W = h * 18446744073709551616 + l := ⟨_, rfl⟩
  have hw := wd_of hh hl0 hl1 hW
  obtain ⟨m, hm⟩ := fu_ge top.length (by omega)
  rw [hm]
  have hloop := iAgg_l top ht hlen.2 (fun y37 y38 y39 y40 y41 y42 y43 y44 y45 => some y37) (fun y46 y47 y48 y49 y50 y51 y52 y53 =>
    (let v55 : Int := (IntKind.wrap .i64 ((y53.length : Int) - 1))
    (bif decide ((0 : Int) ≤ v55 ∧ v55 < (y53.length : Int)) then
    (let v56 : Int := (nthI y53 v55 (0 : Int))
    (bif (decide (y46 ≤ 4)) then
    (bif (y49 == v56) then
    (some ((y51 == 0) && ((y52 == 0) && true)))
    else
    (some false))
    else
    (let v60 : Int := (IntKind.wrap .i64 ((IntKind.wrap .i64 (y46 - 4)) - 1))
    (Option.bind (I.WideOf y49) fun r61 =>
    (Option.bind (I.WideNeg r61.1 r61.2) fun r62 =>
    (Option.bind (I.WideAdd y51 y52 r62.1 r62.2) fun r63 =>
    (bif (decide (y49 ≤ v56)) then
    (Option.bind (I.wideTimes y49 v60) fun r65 =>
    (Option.bind (I.WideCmp r65.1 r65.2 r63.1 r63.2) fun r66 =>
    (bif (decide (r66 ≤ 0)) then
    (Option.bind (I.wideTimes v56 v60) fun r68 =>
    (Option.bind (I.WideCmp r63.1 r63.2 r68.1 r68.2) fun r69 =>
    (some (decide (r69 ≤ 0)))))
    else
    (some false))))
    else
    (some false))))))))
    else
    none))) N h l mn mx (fun _ _ _ _ _ _ _ _ => rfl) m top.length 0 W (by omega)
  rw [← hw, List.drop_zero] at hloop
  by_cases c4 : ¬ descI top 0
  · refine (hloop.2 c4).trans (sfal fun h => ?_)
    unfold aggOk at h
    rcases h with h | h
    · omega
    · exact c4 ((descI_iff top).2 h.2.2.1)
  have c4 := Classical.not_not.1 c4
  refine (hloop.1 c4).trans ?_
  have hs := lsum_bd ht
  have e1 : IntKind.i64.wrap ((top.length : Int) - 1) = ((top.length - 1 : Nat) : Int) := by rw [w64 (by omega) (by omega)]; omega
  have hlast := ht _ (nthI_mem top (top.length - 1) 0 (by omega))
  have hWr : inW W := by unfold inI at hh; unfold inW; omega
  simp only [e1]
  rw [cdp (by omega)]
  have hA : ∀ (q : Prop), (aggOk N h l mn mx top ↔ mn ≤ nthI top ((top.length - 1 : Nat) : Int) 0 ∧ if N ≤ 4 then mn = nthI top ((top.length - 1 : Nat) : Int) 0 ∧ W = lsum top else lsum top + mn + mn * (N - 5) ≤ W ∧ W ≤ lsum top + mn + nthI top ((top.length - 1 : Nat) : Int) 0 * (N - 5)) := fun q => by
    unfold aggOk
    rw [← hW]
    constructor
    · rintro (h | ⟨_, _, _, _, h5, h6⟩)
      · omega
      · exact ⟨h5, h6⟩
    · rintro ⟨h5, h6⟩
      exact .inr ⟨c1, c2, (descI_iff top).1 c4, c3, h5, h6⟩
  have hA := hA True
  unfold inW at hWr
  by_cases c5 : N ≤ 4
  · rw [cdp c5]
    rw [if_pos c5] at hA
    by_cases c6 : mn = nthI top ((top.length - 1 : Nat) : Int) 0
    · rw [cep c6]
      refine sbool (Iff.trans ?_ hA.symm)
      simp only [Bool.and_true, Bool.and_eq_true, beq_iff_eq]
      obtain ⟨V3, h1, h2, h3⟩ := wd_red (W - lsum top) (by omega) (by omega)
      have e0 : wd 0 = (0, 0) := by decide
      constructor
      · rintro ⟨q1, q2⟩
        have : wd V3 = wd 0 := by rw [← h2, e0]; exact Prod.ext q1 q2
        have := wd_inj h1 (by unfold inW; omega) this
        exact ⟨by omega, c6, by omega⟩
      · rintro ⟨_, _, q⟩
        rw [show W - lsum top = 0 from by omega, e0]; exact ⟨rfl, rfl⟩
    · rw [cen c6]
      exact sfal fun h => c6 (hA.1 h).2.1
  · rw [cdn c5]
    rw [if_neg c5] at hA
    have e2 : IntKind.i64.wrap (IntKind.i64.wrap (N - 4) - 1) = N - 5 := by rw [w64 (n := N - 4) (by omega) (by omega), w64 (by omega) (by omega)]; omega
    simp only [e2]
    rw [iWideOf_eq _ hmn, Option.bind_some, iWideNeg_eq, Option.bind_some, iWideAdd_eq, Option.bind_some]
    by_cases c6 : mn ≤ nthI top ((top.length - 1 : Nat) : Int) 0
    · rw [cdp c6, iTimesW_eq _ _ hmn (by omega) (by omega) (by omega), iTimesW_eq _ _ hlast (by omega) (by omega) (by omega)]
      have b1 := many_bd hmn (show 0 ≤ N - 5 by omega) (by omega)
      have b2 := many_bd hlast (show 0 ≤ N - 5 by omega) (by omega)
      unfold inI at hmn
      obtain ⟨V3, h1, h2, h3⟩ := wd_red (W - lsum top + -mn) (by omega) (by omega)
      generalize mn * (N - 5) = p at *
      generalize nthI top ((top.length - 1 : Nat) : Int) 0 * (N - 5) = q at *
      rw [h2]
      simp only [Option.bind_some]
      rw [iWideCmp_eq (show inW p by unfold inW; omega) h1, Option.bind_some, iWideCmp_eq h1 (show inW q by unfold inW; omega), Option.bind_some, cds]
      refine sdec (Iff.trans ?_ hA.symm)
      rw [cmpF_le, cmpF_le]
      unfold inW at h1
      constructor
      · rintro ⟨q1, q2⟩; exact ⟨c6, by omega, by omega⟩
      · rintro ⟨_, q1, q2⟩; constructor <;> omega
    · rw [cdn c6]
      exact sfal fun h => c6 (hA.1 h).1
theorem sAggOk_eq : S.AggOk N h l mn mx top = some (decide (aggOk N h l mn mx top)) := by
  unfold S.AggOk
  by_cases c1 : N < 0
  · rw [cdp c1]; exact sfal fun h => by unfold aggOk at h; rcases h with h | h <;> omega
  rw [cdn c1]
  by_cases c1b : 1000000 < N
  · rw [cdp c1b]; exact sfal fun h => by unfold aggOk at h; rcases h with h | h <;> omega
  rw [cdn c1b]
  by_cases c2 : ¬ (top.length : Int) = (if 4 < N then 4 else N)
  · rw [cnp c2]
    exact sfal fun h => by
      unfold aggOk at h
      rcases h with h | h
      · rw [if_neg (by omega)] at c2; omega
      · exact c2 h.2.1
  have c2 := Decidable.not_not.1 c2
  rw [cnn c2]
  by_cases c0 : N = 0
  · rw [cep c0]
    have hz : ∀ x : Int, (x == 0) = decide (x = 0) := fun x => by rw [Bool.eq_iff_iff]; simp
    simp only [hz, Bool.and_true, dand, cds]
    refine sdec ?_
    rw [if_neg (by omega)] at c2
    unfold aggOk
    constructor
    · rintro ⟨⟨h1, h2⟩, h3, h4⟩; exact .inl ⟨c0, h1, h2, h3, h4, by omega⟩
    · rintro (⟨_, h1, h2, h3, h4, h5⟩ | ⟨h1, _⟩)
      · exact ⟨⟨h1, h2⟩, h3, h4⟩
      · omega
  rw [cen c0]
  have hlen : 1 ≤ top.length ∧ top.length ≤ 4 := by split at c2 <;> omega
  have hsl := sel_length 4 (top ++ [])
  rw [sTopOf_eq top [] (by simp; omega), Option.bind_some, sSame_eq _ _ (by omega), Option.bind_some, List.append_nil]
  by_cases c4 : ¬ sel 4 top = top
  · rw [decide_eq_false c4, Bool.not_false, cond_true]
    refine sfal fun h => ?_
    unfold aggOk at h
    rcases h with h | h
    · omega
    · exact c4 ((sel_eq 4 top hlen.2).2 h.2.2.1)
  have c4 := Decidable.not_not.1 c4
  rw [decide_eq_true c4, Bool.not_true, cond_false, cdp (by omega)]
  have c4 := (sel_eq 4 top hlen.2).1 c4
  by_cases c3 : ¬ nthI top 0 0 = mx
  · rw [cnp c3]
    exact sfal fun h => by
      unfold aggOk at h
      rcases h with h | h
      · omega
      · exact c3 h.2.2.2.1
  have c3 := Decidable.not_not.1 c3
  have e1 : IntKind.i64.wrap ((top.length : Int) - 1) = ((top.length - 1 : Nat) : Int) := by rw [w64 (by omega) (by omega)]; omega
  rw [cnn c3]
  simp only [e1]
  rw [cdp (by omega)]
  by_cases c6 : nthI top ((top.length - 1 : Nat) : Int) 0 < mn
  · rw [cdp c6]
    exact sfal fun h => by
      unfold aggOk at h
      rcases h with h | h
      · omega
      · have := h.2.2.2.2.1; omega
  rw [cdn c6]
  obtain ⟨W, hW⟩ : ∃ W, W = h * 18446744073709551616 + l := ⟨_, rfl⟩
  have hw := wd_of hh hl0 hl1 hW
  obtain ⟨m, hm⟩ := fu_ge top.length (by omega)
  have hloop := fun e => sAgg_l top ht hlen.2 e N h l mn mx m top.length 0 0 (by omega)
  rw [show wd 0 = (0, 0) from by decide, List.drop_zero, Int.zero_add] at hloop
  rw [hm]
  refine (hloop _).trans ?_
  have hs := lsum_bd ht
  have hlast := ht _ (nthI_mem top (top.length - 1) 0 (by omega))
  have hWr : inW W := by unfold inI at hh; unfold inW; omega
  have hA : aggOk N h l mn mx top ↔ if N ≤ 4 then mn = nthI top ((top.length - 1 : Nat) : Int) 0 ∧ W = lsum top else lsum top + mn + mn * (N - 5) ≤ W ∧ W ≤ lsum top + mn + nthI top ((top.length - 1 : Nat) : Int) 0 * (N - 5) := by
    unfold aggOk
    rw [← hW]
    constructor
    · rintro (h | ⟨_, _, _, _, h5, h6⟩)
      · omega
      · exact h6
    · intro h6
      exact .inr ⟨by omega, c2, c4, c3, by omega, h6⟩
  have e2 : IntKind.i64.wrap (N - (top.length : Int)) = N - (top.length : Int) := w64 (by omega) (by omega)
  have hwr : ∀ X : Int, (h == (wd X).1 && (l == (wd X).2 && true)) = decide (wd W = wd X) := fun X => by
    rw [← hw, Bool.eq_iff_iff]
    simp only [Bool.and_true, Bool.and_eq_true, beq_iff_eq, decide_eq_true_eq, Prod.ext_iff]
  have hcmp : ∀ X : Int, inW X → S.WideCmp h l (wd X).1 (wd X).2 = some (cmpF W X) := fun X hX => by
    have := sWideCmp_eq hWr hX
    rwa [← hw] at this
  simp only [e1, e2, hwr, dup_eq, same_self]
  by_cases c5 : N ≤ 4
  · rw [if_pos c5] at hA
    rw [if_neg (by omega)] at c2
    rw [cep (by omega), cdp (by omega)]
    by_cases c7 : mn = nthI top ((top.length - 1 : Nat) : Int) 0
    · rw [cep c7]
      refine sdec (Iff.trans ?_ hA.symm)
      constructor
      · intro q; exact ⟨c7, wd_inj hWr (by unfold inW; omega) q⟩
      · rintro ⟨_, q⟩; rw [q]
    · rw [cen c7]
      exact sfal fun h => c7 (hA.1 h).1
  · rw [if_neg c5] at hA
    rw [if_pos (by omega)] at c2
    have hl4 : top.length = 4 := by omega
    have e3 : IntKind.i64.wrap (N - (top.length : Int) - 1) = N - 5 := by rw [w64 (by omega) (by omega)]; omega
    have b1 := many_bd hmn (show 0 ≤ N - 5 by omega) (by omega)
    have b2 := many_bd hlast (show 0 ≤ N - 5 by omega) (by omega)
    have ht1 : S.l07Times (N - (top.length : Int)) mn = some (wd (mn * (N - 5) + mn)) := by
      unfold S.l07Times
      rw [sTimes_eq _ _ (by unfold inI; omega) hmn, show (N - (top.length : Int)) * mn = mn * (N - 5) + mn from by rw [show N - (top.length : Int) = (N - 5) + 1 from by omega, Int.add_mul, Int.one_mul, Int.mul_comm]]; rfl
    have hi3 : nthI top 3 0 = nthI top ((top.length - 1 : Nat) : Int) 0 := by rw [hl4]; rfl
    have ht2 : S.l07Times (N - 5) (nthI top 3 0) = some (wd (nthI top ((top.length - 1 : Nat) : Int) 0 * (N - 5))) := by
      unfold S.l07Times
      rw [hi3, sTimes_eq _ _ (by unfold inI; omega) hlast, Int.mul_comm]; rfl
    unfold inI at hmn
    rw [cen (by omega)]
    simp only [ht1, Option.bind_some, sWideAdd_eq, e3]
    rw [cdp (by omega), sWideOf_eq mn (by unfold inI; omega)]
    simp only [Option.bind_some, sWideAdd_eq, ht2]
    generalize mn * (N - 5) = p at *
    generalize nthI top ((top.length - 1 : Nat) : Int) 0 * (N - 5) = q at *
    rw [hcmp _ (by unfold inW; omega), Option.bind_some, hcmp _ (by unfold inW; omega), Option.bind_some, cds]
    refine sdec (Iff.trans ?_ hA.symm)
    rw [cmpF_le, cmpF_ge]
    constructor
    · rintro ⟨q1, q2⟩; constructor <;> omega
    · rintro ⟨q1, q2⟩; constructor <;> omega
end
/-! Cells -/
def cellOk (c : TCell) : Prop := (0 ≤ c.1 ∧ c.1 ≤ 3) ∧ (0 ≤ c.2.1 ∧ c.2.1 ≤ 15) ∧ (0 ≤ c.2.2.2.2.1 ∧ c.2.2.2.2.1 ≤ 15) ∧ (0 ≤ c.2.2.1 ∧ c.2.2.1 < c.2.2.2.1 ∧ c.2.2.2.1 ≤ 1100) ∧ aggOk c.2.2.2.2.2.1 c.2.2.2.2.2.2.1.1 c.2.2.2.2.2.2.1.2 c.2.2.2.2.2.2.2.1 c.2.2.2.2.2.2.2.2.1 c.2.2.2.2.2.2.2.2.2 ∧ 0 < c.2.2.2.2.2.1
instance (c : TCell) : Decidable (cellOk c) := by unfold cellOk; exact inferInstance
theorem l06Win_eq (a b : Int) : S.l06Win a b = some (decide (0 ≤ a ∧ a < b ∧ b ≤ 1100)) := by unfold S.l06Win; simp only [cds]
theorem isWin_eq (a b : Int) : I.isWin a b = some (decide (0 ≤ a ∧ a < b ∧ b ≤ 1100)) := by unfold I.isWin; simp only [cds]
theorem isId_eq (a : Int) : I.isId a = some (decide (0 ≤ a ∧ a ≤ 3)) := by unfold I.isId; rw [in_eq]; rfl
theorem isCellPlace_eq (a b c : Int) : I.isCellPlace a b c = some (decide ((0 ≤ a ∧ a ≤ 3) ∧ (0 ≤ b ∧ b ≤ 15) ∧ (0 ≤ c ∧ c ≤ 15))) := by
  unfold I.isCellPlace; simp only [isId_eq, isKey_eq, in_eq, Option.bind_some, cds]
theorem agg_wf {c : TCell} (h : bCell c) (hl : c.2.2.2.2.2.2.2.2.2.length ≤ 1000000000) : S.AggOk c.2.2.2.2.2.1 c.2.2.2.2.2.2.1.1 c.2.2.2.2.2.2.1.2 c.2.2.2.2.2.2.2.1 c.2.2.2.2.2.2.2.2.1 c.2.2.2.2.2.2.2.2.2 = some (decide (aggOk c.2.2.2.2.2.1 c.2.2.2.2.2.2.1.1 c.2.2.2.2.2.2.1.2 c.2.2.2.2.2.2.2.1 c.2.2.2.2.2.2.2.2.1 c.2.2.2.2.2.2.2.2.2)) ∧ I.isAgg c.2.2.2.2.2.1 c.2.2.2.2.2.2.1.1 c.2.2.2.2.2.2.1.2 c.2.2.2.2.2.2.2.1 c.2.2.2.2.2.2.2.2.1 c.2.2.2.2.2.2.2.2.2 = some (decide (aggOk c.2.2.2.2.2.1 c.2.2.2.2.2.2.1.1 c.2.2.2.2.2.2.1.2 c.2.2.2.2.2.2.2.1 c.2.2.2.2.2.2.2.2.1 c.2.2.2.2.2.2.2.2.2)) := by
  obtain ⟨_, _, _, _, _, h6, ⟨h7, h8⟩, h9, h10, h11⟩ := h
  have q8 : 0 ≤ c.2.2.2.2.2.2.1.2 ∧ c.2.2.2.2.2.2.1.2 < 18446744073709551616 := u64_wf h8
  have qt : ∀ x ∈ c.2.2.2.2.2.2.2.2.2, inI x := fun x hx => i64_wf (h11.2 x hx)
  exact ⟨sAggOk_eq _ _ _ _ _ _ (i64_wf h6) (i64_wf h7) q8.1 q8.2 (i64_wf h9) qt hl, iAggOk_eq _ _ _ _ _ _ (i64_wf h6) (i64_wf h7) q8.1 q8.2 (i64_wf h9) qt hl⟩
theorem sCellOk_eq (c : TCell) (h : bCell c) (hl : c.2.2.2.2.2.2.2.2.2.length ≤ 1000000000) : S.CellOk c.1 c.2.1 c.2.2.1 c.2.2.2.1 c.2.2.2.2.1 c.2.2.2.2.2.1 c.2.2.2.2.2.2.1.1 c.2.2.2.2.2.2.1.2 c.2.2.2.2.2.2.2.1 c.2.2.2.2.2.2.2.2.1 c.2.2.2.2.2.2.2.2.2 = some (decide (cellOk c)) := by
  unfold S.CellOk
  simp only [l04Key_eq, l06Win_eq, (agg_wf h hl).1, Option.bind_some, cds]
  refine sdec ?_
  unfold cellOk
  by_cases hA : aggOk c.2.2.2.2.2.1 c.2.2.2.2.2.2.1.1 c.2.2.2.2.2.2.1.2 c.2.2.2.2.2.2.2.1 c.2.2.2.2.2.2.2.2.1 c.2.2.2.2.2.2.2.2.2 <;> simp only [hA, and_true, true_and, false_and, and_false] <;> omega
theorem iCellOk_eq (c : TCell) (h : bCell c) (hl : c.2.2.2.2.2.2.2.2.2.length ≤ 1000000000) : I.isCell c.1 c.2.1 c.2.2.1 c.2.2.2.1 c.2.2.2.2.1 c.2.2.2.2.2.1 c.2.2.2.2.2.2.1.1 c.2.2.2.2.2.2.1.2 c.2.2.2.2.2.2.2.1 c.2.2.2.2.2.2.2.2.1 c.2.2.2.2.2.2.2.2.2 = some (decide (cellOk c)) := by
  unfold I.isCell I.Cell_win
  simp only [isCellPlace_eq, isWin_eq, (agg_wf h hl).2, Option.bind_some, cds]
  refine sdec ?_
  unfold cellOk
  by_cases hA : aggOk c.2.2.2.2.2.1 c.2.2.2.2.2.2.1.1 c.2.2.2.2.2.2.1.2 c.2.2.2.2.2.2.2.1 c.2.2.2.2.2.2.2.2.1 c.2.2.2.2.2.2.2.2.2 <;> simp only [hA, and_true, true_and, false_and, and_false] <;> omega
def cellKey (c : TCell) : List Int := [c.1, c.2.1, c.2.2.1, c.2.2.2.1, c.2.2.2.2.1]
/-- One cell stands ahead of another one. -/
def cellLt (a b : TCell) : Prop :=
  if a.1 ≠ b.1 then a.1 < b.1 else if a.2.1 ≠ b.2.1 then a.2.1 < b.2.1 else if a.2.2.1 ≠ b.2.2.1 then a.2.2.1 < b.2.2.1 else if a.2.2.2.1 ≠ b.2.2.2.1 then a.2.2.2.1 < b.2.2.2.1 else a.2.2.2.2.1 < b.2.2.2.2.1
instance (a b : TCell) : Decidable (cellLt a b) := by unfold cellLt; exact inferInstance
theorem sLess_eq (a b : TCell) : S.l09Less a.1 a.2.1 a.2.2.1 a.2.2.2.1 a.2.2.2.2.1 a.2.2.2.2.2.1 a.2.2.2.2.2.2.1.1 a.2.2.2.2.2.2.1.2 a.2.2.2.2.2.2.2.1 a.2.2.2.2.2.2.2.2.1 b.1 b.2.1 b.2.2.1 b.2.2.2.1 b.2.2.2.2.1 b.2.2.2.2.2.1 b.2.2.2.2.2.2.1.1 b.2.2.2.2.2.2.1.2 b.2.2.2.2.2.2.2.1 b.2.2.2.2.2.2.2.2.1 a.2.2.2.2.2.2.2.2.2 b.2.2.2.2.2.2.2.2.2 = some (decide (cellLt a b)) := by
  unfold S.l09Less
  simp only [Bool.cond_eq_ite, bne_iff_ne]
  repeat' split
  all_goals exact sdec (by unfold cellLt; simp_all)
theorem orF_four (x y z w : Int) : orF [x, y, z, w] = if x ≠ 0 then x else if y ≠ 0 then y else if z ≠ 0 then z else w := by
  by_cases h : x = 0 <;> by_cases h2 : y = 0 <;> by_cases h3 : z = 0 <;> by_cases h4 : w = 0 <;> simp [orF, h, h2, h3, h4]
theorem cmpF_neg (a b : Int) : cmpF a b < 0 ↔ a < b := by unfold cmpF; split <;> (try split) <;> omega
def cellCmp (a b : TCell) : Int := orF [orF [cmpF a.1 b.1, cmpF a.2.1 b.2.1, cmpF a.2.2.1 b.2.2.1, cmpF a.2.2.2.1 b.2.2.2.1], cmpF a.2.2.2.2.1 b.2.2.2.2.1]
theorem iCompareCells_eq (a b : TCell) : I.compareCells a.1 a.2.1 a.2.2.1 a.2.2.2.1 a.2.2.2.2.1 a.2.2.2.2.2.1 a.2.2.2.2.2.2.1.1 a.2.2.2.2.2.2.1.2 a.2.2.2.2.2.2.2.1 a.2.2.2.2.2.2.2.2.1 b.1 b.2.1 b.2.2.1 b.2.2.2.1 b.2.2.2.2.1 b.2.2.2.2.2.1 b.2.2.2.2.2.2.1.1 b.2.2.2.2.2.2.1.2 b.2.2.2.2.2.2.2.1 b.2.2.2.2.2.2.2.2.1 a.2.2.2.2.2.2.2.2.2 b.2.2.2.2.2.2.2.2.2 = some (cellCmp a b) := by
  unfold I.compareCells I.compareSeats cellCmp
  rw [compareInt_eq, compareInt_eq, compareInt_eq, compareInt_eq, compareInt_eq]
  simp only [Option.bind_some]
  rw [orInt_eq _ (by simp)]
  simp only [Option.bind_some]
  rw [orInt_eq _ (by simp)]
  rfl
theorem cellCmp_neg (a b : TCell) : cellCmp a b < 0 ↔ cellLt a b := by
  unfold cellCmp cellLt
  rw [orF_two, orF_four]
  by_cases c1 : a.1 = b.1 <;> by_cases c2 : a.2.1 = b.2.1 <;> by_cases c3 : a.2.2.1 = b.2.2.1 <;> by_cases c4 : a.2.2.2.1 = b.2.2.2.1 <;> simp [c1, c2, c3, c4, cmpF_zero, cmpF_neg]
abbrev cellD : TCell := ((0 : Int), ((0 : Int), ((0 : Int), ((0 : Int), ((0 : Int), ((0 : Int), (((0 : Int), (0 : Int)), ((0 : Int), ((0 : Int), [])))))))))
def cellsP (a : List TCell) (i : Nat) : Prop := cellOk (nthI a (i : Int) cellD) ∧ (i = 0 ∨ cellLt (nthI a ((i - 1 : Nat) : Int) cellD) (nthI a (i : Int) cellD))
instance (a : List TCell) : DecidablePred (cellsP a) := fun i => by unfold cellsP; exact inferInstance
def cellsOk (a : List TCell) : Prop := (∀ j, j < a.length → cellsP a j) ∧ a.length ≤ 10000
instance (a : List TCell) : Decidable (cellsOk a) := by unfold cellsOk; exact inferInstance
section
variable (a : List TCell) (hw : ∀ x ∈ a, bCell x) (hc : cCellS a ≤ 1000000000)
include hw hc
theorem cell_len {x : TCell} (h : x ∈ a) : x.2.2.2.2.2.2.2.2.2.length ≤ 1000000000 := Nat.le_trans (cCellS_mem h) hc
theorem sCellsOk_eq : S.CellsOk a = some (decide (cellsOk a)) := by
  have hn : a.length ≤ 1000000000 := by unfold cCellS at hc; omega
  unfold S.CellsOk
  by_cases h : 10000 < a.length
  · rw [cdp (by omega)]; exact sfal fun q => by have := q.2; omega
  rw [cdn (by omega)]
  refine (allLoop (fun m i => S.CellsOk_l0 m (fun y => some y) (some true) i a) a.length (cellsP a) true (by omega) (fun i m hi => ?_) (fun m => ?_)).trans ?_
  · show S.CellsOk_l0 (m + 1) _ _ _ _ = bif _ then S.CellsOk_l0 m _ _ _ _ else _
    have hx := nthI_mem a i cellD hi
    have hdec : decide ((0 : Int) ≤ (i : Int) ∧ (i : Int) < (a.length : Int)) = true := decide_eq_true (by omega)
    rw [S.CellsOk_l0, cdp (by omega)]
    simp only [hdec, cond_true]
    rw [sCellOk_eq (nthI a (i : Int) cellD) (hw _ hx) (cell_len a hw hc hx), Option.bind_some]
    by_cases c1 : cellOk (nthI a (i : Int) cellD)
    · rw [decide_eq_true c1, Bool.not_true, cond_false]
      by_cases c2 : 0 < i
      · have hd2 : decide ((0 : Int) ≤ ((i - 1 : Nat) : Int) ∧ ((i - 1 : Nat) : Int) < (a.length : Int)) = true := decide_eq_true (by omega)
        have e1 : IntKind.i64.wrap ((i : Int) - 1) = ((i - 1 : Nat) : Int) := by rw [w64 (by omega) (by omega)]; omega
        rw [cdp (by omega)]
        simp only [e1, hd2, cond_true]
        rw [sLess_eq (nthI a ((i - 1 : Nat) : Int) cellD) (nthI a (i : Int) cellD), Option.bind_some, w64 (by omega) (by omega)]
        by_cases c3 : cellLt (nthI a ((i - 1 : Nat) : Int) cellD) (nthI a (i : Int) cellD)
        · rw [decide_eq_true c3, cdp (show cellsP a i from ⟨c1, .inr c3⟩)]; rfl
        · rw [decide_eq_false c3, cdn (fun q : cellsP a i => q.2.elim (by omega) c3)]; rfl
      · rw [cdn (by omega), w64 (by omega) (by omega), cdp (show cellsP a i from ⟨c1, .inl (by omega)⟩)]; rfl
    · rw [decide_eq_false c1, Bool.not_false, cond_true, cdn (fun q : cellsP a i => c1 q.1)]
  · show S.CellsOk_l0 (m + 1) _ _ _ _ = _
    rw [S.CellsOk_l0, cdn (by omega)]
  · rw [Bool.and_true]; exact sdec ⟨fun q => ⟨q, by omega⟩, fun q => q.1⟩
theorem iCellsOk_eq : I.areCells a = some (decide (cellsOk a)) := by
  have hn : a.length ≤ 1000000000 := by unfold cCellS at hc; omega
  unfold I.areCells
  refine (allLoop (fun m i => I.areCells_l0 m (fun y z => some y) (fun y => some (decide ((y.length : Int) ≤ 10000))) (a.length : Int) i a) a.length (cellsP a) (decide ((a.length : Int) ≤ 10000)) (by omega) (fun i m hi => ?_) (fun m => ?_)).trans ?_
  · show I.areCells_l0 (m + 1) _ _ _ _ _ = bif _ then I.areCells_l0 m _ _ _ _ _ else _
    have hx := nthI_mem a i cellD hi
    have hdec : decide ((0 : Int) ≤ (i : Int) ∧ (i : Int) < (a.length : Int)) = true := decide_eq_true (by omega)
    rw [I.areCells_l0, cdp (by omega)]
    simp only [hdec, cond_true]
    rw [iCellOk_eq (nthI a (i : Int) cellD) (hw _ hx) (cell_len a hw hc hx), Option.bind_some]
    by_cases c1 : cellOk (nthI a (i : Int) cellD)
    · rw [decide_eq_true c1, Bool.not_true, cond_false]
      by_cases c2 : 0 < i
      · have hd2 : decide ((0 : Int) ≤ ((i - 1 : Nat) : Int) ∧ ((i - 1 : Nat) : Int) < (a.length : Int)) = true := decide_eq_true (by omega)
        have e1 : IntKind.i64.wrap ((i : Int) - 1) = ((i - 1 : Nat) : Int) := by rw [w64 (by omega) (by omega)]; omega
        rw [cdp (by omega)]
        simp only [e1, hd2, cond_true]
        rw [iCompareCells_eq (nthI a ((i - 1 : Nat) : Int) cellD) (nthI a (i : Int) cellD), Option.bind_some, w64 (by omega) (by omega)]
        have hneg := cellCmp_neg (nthI a ((i - 1 : Nat) : Int) cellD) (nthI a (i : Int) cellD)
        by_cases c3 : cellLt (nthI a ((i - 1 : Nat) : Int) cellD) (nthI a (i : Int) cellD)
        · have := hneg.2 c3
          rw [cdn (by omega), cdp (show cellsP a i from ⟨c1, .inr c3⟩)]; rfl
        · have : ¬ _ := fun q => c3 (hneg.1 q)
          rw [cdp (by omega), cdn (fun q : cellsP a i => q.2.elim (by omega) c3)]
      · rw [cdn (by omega), w64 (by omega) (by omega), cdp (show cellsP a i from ⟨c1, .inl (by omega)⟩)]; rfl
    · rw [decide_eq_false c1, Bool.not_false, cond_true, cdn (fun q : cellsP a i => c1 q.1)]
  · show I.areCells_l0 (m + 1) _ _ _ _ _ = _
    rw [I.areCells_l0, cdn (by omega)]
  · rw [dand]; exact sdec ⟨fun q => ⟨q.1, by omega⟩, fun q => ⟨q.1, by have := q.2; omega⟩⟩
end
/-! A loop that picks -/
theorem filterLoop {β γ : Type} (F : Nat → Int → List β → Option γ) (n : Nat) (p : Nat → Bool) (g : Nat → β) (E : List β → Option γ) (hn : n ≤ 1000000000000)
    (hs : ∀ (i m : Nat) (acc : List β), i < n → acc.length ≤ i → F (m + 1) (i : Int) acc = bif p i then F m ((i + 1 : Nat) : Int) (acc ++ [g i]) else F m ((i + 1 : Nat) : Int) acc)
    (he : ∀ (m : Nat) (acc : List β), F (m + 1) (n : Int) acc = E acc) : F fu 0 [] = E (((List.range n).filter p).map g) := by
  obtain ⟨M, hM⟩ := fu_ge n hn
  have h1 : ∀ k i : Nat, ∀ acc : List β, i + k = n → acc.length ≤ i → F (k + 1 + M) (i : Int) acc = E (acc ++ ((List.range' i k).filter p).map g) := by
    intro k
    induction k with
    | zero =>
      intro i acc hi ha
      obtain rfl : i = n := by omega
      rw [show 0 + 1 + M = M + 1 from by omega, he]
      simp
    | succ k ih =>
      intro i acc hi ha
      rw [show k + 1 + 1 + M = (k + 1 + M) + 1 from by omega, List.range'_succ, List.filter_cons, hs i _ acc (by omega) ha]
      cases hp : p i with
      | true =>
        rw [cond_true, ih (i + 1) _ (by omega) (by simp; omega)]
        simp
      | false =>
        rw [cond_false, ih (i + 1) _ (by omega) (by omega)]
        simp
  rw [hM, List.range_eq_range']
  exact h1 n 0 [] (by omega) (by simp)
/-! Boxes in new memory -/
theorem range_nth {α : Type} (a : List α) (d : α) : ((List.range a.length).filter fun _ => true).map (fun i : Nat => nthI a (i : Int) d) = a := by
  rw [List.filter_eq_self.2 (fun _ _ => rfl)]
  apply List.ext_getElem?
  intro i
  rw [List.getElem?_map]
  by_cases h : i < a.length
  · rw [List.getElem?_range h, List.getElem?_eq_getElem h, Option.map_some, nthI_nat, List.getD_eq_getElem?_getD, List.getElem?_eq_getElem h]
    rfl
  · rw [List.getElem?_eq_none (by simp; omega), List.getElem?_eq_none (by omega)]
    rfl
theorem copyLoop {α γ : Type} (F : Nat → Int → List α → Option γ) (a : List α) (d : α) (E : List α → Option γ) (hn : a.length ≤ 1000000000000)
    (hs : ∀ (i m : Nat) (acc : List α), i < a.length → acc.length ≤ i → F (m + 1) (i : Int) acc = F m ((i + 1 : Nat) : Int) (acc ++ [nthI a (i : Int) d]))
    (he : ∀ (m : Nat) (acc : List α), F (m + 1) (a.length : Int) acc = E acc) : F fu 0 [] = E a := by
  have := filterLoop F a.length (fun _ => true) (fun i => nthI a (i : Int) d) E hn (fun i m acc h1 h2 => hs i m acc h1 h2) he
  rw [this, range_nth]
theorem cloneInt_eq (a : List Int) (h : a.length ≤ 1048576) : G.slices.Clone_int a = some a := by
  unfold G.slices.Clone_int
  by_cases h0 : a.length = 0
  · obtain rfl := List.eq_nil_of_length_eq_zero h0
    rw [cdp h0, cdp (by simp only [List.length_nil]; omega)]
    exact same_self _
  · rw [cdn h0, List.nil_append, cdp (by simp only [List.length_nil]; omega)]
/-! Elements that are picked -/
def pickL {α : Type} (p : Nat → Bool) (a : List α) (d : α) : List α := ((List.range a.length).filter p).map fun i : Nat => nthI a (i : Int) d
theorem range_map {α : Type} (a : List α) (d : α) : (List.range a.length).map (fun i : Nat => nthI a (i : Int) d) = a := by
  have := range_nth a d
  rwa [List.filter_eq_self.2 (fun _ _ => rfl)] at this
theorem pickL_sub {α : Type} (p : Nat → Bool) (a : List α) (d : α) : (pickL p a d).Sublist a := by
  have h : ((List.range a.length).filter p).Sublist (List.range a.length) := List.filter_sublist
  have h2 := h.map (fun i : Nat => nthI a (i : Int) d)
  rw [range_map] at h2
  exact h2
theorem pickL_len {α : Type} (p : Nat → Bool) (a : List α) (d : α) : (pickL p a d).length ≤ a.length := (pickL_sub p a d).length_le
theorem pickL_mem {α : Type} {p : Nat → Bool} {a : List α} {d x : α} (h : x ∈ pickL p a d) : x ∈ a := (pickL_sub p a d).subset h
theorem sum_sub {α : Type} (f : α → Nat) : ∀ {l1 l2 : List α}, List.Sublist l1 l2 → (l1.map f).sum ≤ (l2.map f).sum := by
  intro l1 l2 h
  induction h with
  | slnil => simp
  | cons x h ih => simp only [List.map_cons, List.sum_cons]; omega
  | cons_cons x h ih => simp only [List.map_cons, List.sum_cons]; omega
/-! Cells in new memory -/
theorem cellCopied_eq (x : TCell) (h : x.2.2.2.2.2.2.2.2.2.length ≤ 1048576) : I.Cell_copied x.1 x.2.1 x.2.2.1 x.2.2.2.1 x.2.2.2.2.1 x.2.2.2.2.2.1 x.2.2.2.2.2.2.1.1 x.2.2.2.2.2.2.1.2 x.2.2.2.2.2.2.2.1 x.2.2.2.2.2.2.2.2.1 x.2.2.2.2.2.2.2.2.2 = some (x.1, x.2.1, x.2.2.1, x.2.2.2.1, x.2.2.2.2.1, x.2.2.2.2.2.1, x.2.2.2.2.2.2.1.1, x.2.2.2.2.2.2.1.2, x.2.2.2.2.2.2.2.1, x.2.2.2.2.2.2.2.2.1, x.2.2.2.2.2.2.2.2.2) := by
  unfold I.Cell_copied
  rw [cloneInt_eq _ h, Option.bind_some]
theorem l09Agg_eq (a b c d e : Int) (t : List Int) (h : t.length ≤ 1048576) : S.l09Agg a b c d e t = some (a, b, c, d, e, t) := by
  unfold S.l09Agg
  rw [List.nil_append, cdp (by simp only [List.length_nil]; omega)]
theorem l09Copy_eq (a : List TCell) (hn : a.length ≤ 1048576) (hv : ∀ x ∈ a, x.2.2.2.2.2.2.2.2.2.length ≤ 1048576) : S.l09Copy a = some a := by
  unfold S.l09Copy
  refine copyLoop (fun m i acc => S.l09Copy_l0 m (fun y10 => some y10) i a acc) a cellD (fun xs => some xs) (by omega) (fun i m acc hi hacc => ?_) (fun m acc => ?_)
  · show S.l09Copy_l0 (m + 1) _ _ _ _ = S.l09Copy_l0 m _ _ _ _
    have hdec : decide ((0 : Int) ≤ (i : Int) ∧ (i : Int) < (a.length : Int)) = true := decide_eq_true (by omega)
    have hx := hv _ (nthI_mem a i cellD hi)
    rw [S.l09Copy_l0, cdp (by omega)]
    simp only [hdec, cond_true]
    rw [l09Agg_eq _ _ _ _ _ _ hx, Option.bind_some, w64 (by omega) (by omega)]
    rw [cdp (by simp only [List.length_cons, List.length_nil]; omega)]
    rfl
  · show S.l09Copy_l0 (m + 1) _ _ _ _ = _
    rw [S.l09Copy_l0, cdn (by omega)]
theorem wCellS_le (q : List TCell) : wCellS q ≤ 10 * cCellS q := by
  unfold wCellS cCellS
  induction q with
  | nil => simp
  | cons x q ih =>
    have : w1Cell x = 10 + 1 * cCell x := rfl
    simp only [List.map_cons, List.sum_cons, List.length_cons]
    omega
theorem cCellS_len (a : List TCell) : a.length ≤ cCellS a := by unfold cCellS; omega
theorem cCellS_pick (p : Nat → Bool) (a : List TCell) : cCellS (pickL p a cellD) ≤ cCellS a := by
  have h1 := sum_sub cCell (pickL_sub p a cellD)
  have h2 := pickL_len p a cellD
  unfold cCellS
  omega

def dueP (f t : Int) (a : List TCell) (i : Nat) : Bool := decide (f < (nthI a (i : Int) cellD).2.2.2.1) && decide ((nthI a (i : Int) cellD).2.2.2.1 ≤ t)
section
variable (f t : Int) (a : List TCell) (hw : ∀ x ∈ a, bCell x) (hc : cCellS a ≤ 1048576)
include hw hc
theorem sDue_eq : S.CellsDue f t a = some (if cellsOk a then pickL (dueP f t a) a cellD else []) := by
  have hla := cCellS_len a
  have hok := sCellsOk_eq a hw (by omega)
  unfold S.CellsDue
  by_cases h : cellsOk a
  · rw [if_pos h]
    have hpl := pickL_len (dueP f t a) a cellD
    have hpm : ∀ x ∈ pickL (dueP f t a) a cellD, x.2.2.2.2.2.2.2.2.2.length ≤ 1048576 := fun x hx => by have h1 := cCellS_mem (pickL_mem hx); have h2 : cCell x = x.2.2.2.2.2.2.2.2.2.length := rfl; omega
    refine (filterLoop (fun m i acc => S.CellsDue_l0 m (fun y18 => (Option.bind (S.l09Copy y18) fun r19 => (some r19))) f t i a acc) a.length (dueP f t a) (fun i : Nat => nthI a (i : Int) cellD) (fun acc => (Option.bind (S.l09Copy acc) fun r15 => (some r15))) (by omega) (fun i m acc hi hacc => ?_) (fun m acc => ?_)).trans ?_
    · show S.CellsDue_l0 (m + 1) _ _ _ _ _ _ = bif _ then S.CellsDue_l0 m _ _ _ _ _ _ else S.CellsDue_l0 m _ _ _ _ _ _
      have hdec : decide ((0 : Int) ≤ (i : Int) ∧ (i : Int) < (a.length : Int)) = true := decide_eq_true (by omega)
      rw [S.CellsDue_l0, hok, Option.bind_some, decide_eq_true h, cond_true, cdp (by omega)]
      simp only [hdec, cond_true]
      rw [w64 (by omega) (by omega)]
      unfold dueP
      cases decide (f < (nthI a (i : Int) cellD).2.2.2.1)
      · rfl
      · cases decide ((nthI a (i : Int) cellD).2.2.2.1 ≤ t)
        · rfl
        · simp only [cond_true, Bool.and_self]
          rw [cdp (by simp only [List.length_cons, List.length_nil]; omega)]
          rfl
    · show S.CellsDue_l0 (m + 1) _ _ _ _ _ _ = _
      rw [S.CellsDue_l0, hok, Option.bind_some, decide_eq_true h, cond_true, cdn (by omega)]
    · show (Option.bind (S.l09Copy (pickL (dueP f t a) a cellD)) fun r15 => (some r15)) = _
      rw [l09Copy_eq _ (by omega) hpm, Option.bind_some]
  · rw [if_neg h]
    obtain ⟨M, hM⟩ := fu_ge 0 (by omega)
    rw [hM, show 0 + 1 + M = M + 1 from by omega, S.CellsDue_l0, hok, Option.bind_some, decide_eq_false h, cond_false, l09Copy_eq [] (by simp) (by simp), Option.bind_some]
theorem iDue_eq : I.CellsDue f t a = some (if cellsOk a then pickL (dueP f t a) a cellD else []) := by
  have hla := cCellS_len a
  have hok := iCellsOk_eq a hw (by omega)
  unfold I.CellsDue
  rw [hok, Option.bind_some]
  by_cases h : cellsOk a
  · rw [if_pos h, decide_eq_true h, Bool.not_true, cond_false]
    have main : I.chosen f t a = some (f, t, pickL (dueP f t a) a cellD) := by
      unfold I.chosen
      refine filterLoop (fun m i acc => I.chosen_l0 m (fun y17 y18 y19 => some (y17, y18, y19)) (a.length : Int) i f t acc a) a.length (dueP f t a) (fun i : Nat => nthI a (i : Int) cellD) (fun acc => some (f, t, acc)) (by omega) (fun i m acc hi hacc => ?_) (fun m acc => ?_)
      · show I.chosen_l0 (m + 1) _ _ _ _ _ _ _ = bif _ then I.chosen_l0 m _ _ _ _ _ _ _ else I.chosen_l0 m _ _ _ _ _ _ _
        have hdec : decide ((0 : Int) ≤ (i : Int) ∧ (i : Int) < (a.length : Int)) = true := decide_eq_true (by omega)
        have hx : (nthI a (i : Int) cellD).2.2.2.2.2.2.2.2.2.length ≤ 1048576 := by have h1 := cCellS_mem (nthI_mem a i cellD hi); have h2 : cCell (nthI a (i : Int) cellD) = (nthI a (i : Int) cellD).2.2.2.2.2.2.2.2.2.length := rfl; omega
        rw [I.chosen_l0, cdp (by omega)]
        simp only [hdec, cond_true, cellCopied_eq (nthI a (i : Int) cellD) hx, I.CellsDue_1, I.Cell_isDue, cond_some, cond_and, Option.bind_some]
        rw [w64 (by omega) (by omega)]
        unfold dueP
        cases decide (f < (nthI a (i : Int) cellD).2.2.2.1)
        · rfl
        · cases decide ((nthI a (i : Int) cellD).2.2.2.1 ≤ t)
          · rfl
          · simp only [cond_true, Bool.and_self]
            rw [cdp (by simp only [List.length_cons, List.length_nil]; omega)]
            rfl
      · show I.chosen_l0 (m + 1) _ _ _ _ _ _ _ = _
        rw [I.chosen_l0, cdn (by omega)]
    rw [main, Option.bind_some]
  · rw [if_neg h, decide_eq_false h, Bool.not_false, cond_true]
end
theorem FnExactCellsDue : StmtFnExactCellsDue.Stmt := by
  intro a f t ha hf ht
  have hsz := szCellS_eq 1048576 a (by omega) (by omega) ha
  unfold L.FnExactCellsDue
  rw [hsz, Option.bind_some]
  by_cases hl : ((cCellS a : Nat) : Int) ≤ 1048576
  · have hla := cCellS_len a
    have hto := toCellS_eq a (by omega)
    have heq := eqCellS_eq a a (by omega)
    have hwa := wCellS_le a
    have hmk := markCellS_eq 1 a (by omega) (by omega) (by omega)
    rw [if_pos hl, cdn (by omega)]
    have hS := sDue_eq f t a ha.2 (by omega)
    have hI := iDue_eq f t a ha.2 (by omega)
    obtain ⟨w, hw⟩ : ∃ w : List TCell, w = if cellsOk a then pickL (dueP f t a) a cellD else [] := ⟨_, rfl⟩
    rw [← hw] at hS hI
    have hwb : cCellS w ≤ 1048576 := by
      rw [hw]
      split
      · have := cCellS_pick (dueP f t a) a; omega
      · simp [cCellS]
    have hww := wCellS_le w
    have hlw := cCellS_len w
    have he := eqCellS_eq w w (by omega)
    have hm := markCellS_eq 1 w (by omega) (by omega) (by omega)
    have hh := heldCellS_eq 1 w (by omega) (by omega) (by omega)
    have d1 : decide ((1 : Int) + ((wCellS a : Nat) : Int) < 0) = false := decide_eq_false (by omega)
    have d2 : decide ((1 : Int) + ((wCellS w : Nat) : Int) < 0) = false := decide_eq_false (by omega)
    simp only [hto, hS, hI, heq, hmk, he, hm, hh, d1, d2, Option.bind_some, decide_true, beq_self_eq_true, Bool.not_true, cond_false, bne_self_eq_false]
  · rw [if_neg hl, cdp (by omega)]
end Go.Proofs.Ythddkomphkanbaa.Pure
