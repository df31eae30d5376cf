/- PanesSort of the program returns what the reference's returns. For every argument. -/
import Derived.Test.YtipipipngmenoaaStmtFnExactPanesSort
import Derived.Laws.BitsLemmas
import Derived.Laws.BitsAllLaws
import Derived.Laws.Bits64b
namespace Go.Proofs.Ytipipipngmenoaa.Pure
open Go Go.RowKit Go.Proofs.Ytipipipngmenoaa.Run Go.Proofs.Ytipipipngmenoaa.StmtFnExactPanesSort Go.Proofs.YtipipipngmenoaaW.PrintWords Go.Proofs.Ytipipipngmenoaa.Vm
set_option linter.unusedVariables false
set_option linter.unusedSimpArgs false
set_option linter.unusedSectionVars false
theorem cdp {α : Type} {p : Prop} [Decidable p] {a b : α} (h : p) : (bif decide p then a else b) = a := by simp [h]
theorem cdn {α : Type} {p : Prop} [Decidable p] {a b : α} (h : ¬ p) : (bif decide p then a else b) = b := by simp [h]
theorem cnp {α : Type} {x y : Int} {a b : α} (h : x ≠ y) : (bif (x != y) then a else b) = a := by rw [show (x != y) = true from by simpa using h]; rfl
theorem cnn {α : Type} {x y : Int} {a b : α} (h : x = y) : (bif (x != y) then a else b) = b := by simp [bne, h]
theorem cep {α : Type} {x y : Int} {a b : α} (h : x = y) : (bif (x == y) then a else b) = a := by simp [h]
theorem cen {α : Type} {x y : Int} {a b : α} (h : x ≠ y) : (bif (x == y) then a else b) = b := by rw [show (x == y) = false from by simpa using h]; rfl
theorem cond_some {α : Type} (c : Bool) (x y : α) : (bif c then some x else some y) = some (bif c then x else y) := by cases c <;> rfl
theorem cond_and (c x : Bool) : (bif c then x else false) = (c && x) := by cases c <;> rfl
theorem dand (p q : Prop) [Decidable p] [Decidable q] : (decide p && decide q) = decide (p ∧ q) := by by_cases p <;> by_cases q <;> simp_all
theorem w64 {n : Int} (h0 : -9223372036854775808 ≤ n) (h1 : n < 9223372036854775808) : IntKind.i64.wrap n = n := by rw [IntKind.wrap_i64]; omega
theorem u64_mod (n : Int) : IntKind.u64.wrap n = n % 18446744073709551616 := by simp [IntKind.wrap, IntKind.bits, IntKind.signed]
theorem u64w {n : Int} (h0 : 0 ≤ n) (h1 : n < 18446744073709551616) : IntKind.u64.wrap n = n := by rw [u64_mod]; omega
theorem u8_mod (n : Int) : IntKind.u8.wrap n = n % 256 := by simp [IntKind.wrap, IntKind.bits, IntKind.signed]
theorem i64_wf {n : Int} (h : (Lit.int .i64 n).wf = true) : -9223372036854775808 ≤ n ∧ n < 9223372036854775808 := by
  simp only [Lit.wf, IntKind.min, IntKind.max, IntKind.signed, IntKind.bits, Bool.and_eq_true, decide_eq_true_eq, if_true] at h
  omega
theorem u8_wf {n : Int} (h : (Lit.int .u8 n).wf = true) : 0 ≤ n ∧ n < 256 := by
  simp [Lit.wf, IntKind.min, IntKind.max, IntKind.signed, IntKind.bits, Bool.and_eq_true] at h
  omega
theorem tmod_nat (n : Int) (m : Int) (h : 0 ≤ n) : Int.tmod n m = n % m := Int.tmod_eq_emod_of_nonneg h
theorem tdiv_nat (n : Int) (m : Int) (h : 0 ≤ n) : Int.tdiv n m = n / m := Int.tdiv_eq_ediv_of_nonneg h
theorem bits_or_128 (x : Int) (h0 : 0 ≤ x) (h1 : x < 256) : Go.bits .or .u8 x 128 = 128 + x % 128 := by
  obtain ⟨n, rfl⟩ := Int.eq_ofNat_of_zero_le h0
  have hn : n < 256 := by omega
  have key : ∀ m : Fin 256, Go.bits .or .u8 ((m.val : Nat) : Int) 128 = 128 + ((m.val : Nat) : Int) % 128 := by decide +kernel
  exact key ⟨n, hn⟩
theorem bits_xor_zero (x : Int) (h0 : 0 ≤ x) (h1 : x < 18446744073709551616) : Go.bits .xor .u64 x 0 = x := by
  obtain ⟨n, rfl⟩ := Int.eq_ofNat_of_zero_le h0
  have hn : n < 18446744073709551616 := by omega
  show IntKind.u64.wrap (((BitVec.ofInt 64 ((n : Nat) : Int)) ^^^ (BitVec.ofInt 64 0)).toNat : Int) = n
  have e : (BitVec.ofInt 64 0) = 0#64 := by decide
  rw [e, BitVec.xor_zero, BitVec.ofInt_natCast, BitVec.toNat_ofNat, u64_mod]
  omega
theorem bits_xor_ones (x : Int) (h0 : 0 ≤ x) (h1 : x < 18446744073709551616) : Go.bits .xor .u64 x 18446744073709551615 = 18446744073709551615 - x := by
  obtain ⟨n, rfl⟩ := Int.eq_ofNat_of_zero_le h0
  have hn : n < 18446744073709551616 := by omega
  show IntKind.u64.wrap (((BitVec.ofInt 64 ((n : Nat) : Int)) ^^^ (BitVec.ofInt 64 18446744073709551615)).toNat : Int) = 18446744073709551615 - n
  have e : (BitVec.ofInt 64 18446744073709551615) = BitVec.allOnes 64 := by decide
  rw [e, BitVec.xor_allOnes, BitVec.toNat_not, BitVec.ofInt_natCast, BitVec.toNat_ofNat, u64_mod]
  omega
theorem fu_ge (d : Nat) (h : d ≤ 1000000000000) : ∃ m, fu = d + 1 + m := ⟨fu - d - 1, by rw [fu_eq]; omega⟩
theorem nthI_nat {α : Type} (xs : List α) (i : Nat) (d : α) : nthI xs (i : Int) d = xs.getD i d := rfl
theorem drop_nth (xs : List Int) (i : Nat) (h : i < xs.length) : xs.drop i = nthI xs (i : Int) 0 :: xs.drop (i + 1) := by
  rw [nthI_nat, List.getD_eq_getElem?_getD, List.getElem?_eq_getElem h]; exact List.drop_eq_getElem_cons h
theorem nthI_mem {α : Type} (a : List α) (i : Nat) (d : α) (h : i < a.length) : nthI a (i : Int) d ∈ a := by
  rw [nthI_nat, List.getD_eq_getElem?_getD, List.getElem?_eq_getElem h]; simp
theorem nthI_set {α : Type} (xs : List α) (i : Nat) (y d : α) (h : i < xs.length) : nthI (xs.set i y) (i : Int) d = y := by
  rw [nthI_nat, List.getD_eq_getElem?_getD, List.getElem?_set_self h]; rfl
theorem drop_at {α : Type} (xs : List α) (i : Nat) (d : α) (h : i < xs.length) : xs.drop i = nthI xs (i : Int) d :: xs.drop (i + 1) := by
  rw [nthI_nat, List.getD_eq_getElem?_getD, List.getElem?_eq_getElem h]; exact List.drop_eq_getElem_cons h
theorem cneI {x y : Int} {k : Option Bool} : (bif (x != y) then some false else k) = bif decide (x = y) then k else some false := by
  by_cases h : x = y
  · rw [cnn h, cdp h]
  · rw [cnp h, cdn h]
theorem cneB {x y : Bool} {k : Option Bool} : (bif (!(x == y)) then some false else k) = bif decide (x = y) then k else some false := by
  cases x <;> cases y <;> rfl
theorem cbeB {x y : Bool} {k : Option Bool} : (bif (x == y) then k else some false) = bif decide (x = y) then k else some false := by cases x <;> cases y <;> rfl
theorem cnotb {r : Bool} {k : Option Bool} : (bif (!r) then some false else k) = bif r then k else some false := by cases r <;> rfl
theorem cds {p q : Prop} [Decidable p] [Decidable q] : (bif decide p then some (decide q) else some false) = some (decide (p ∧ q)) := by
  by_cases p <;> by_cases q <;> simp_all
theorem cdt {p : Prop} [Decidable p] : (bif decide p then some true else some false) = some (decide p) := by by_cases p <;> simp_all
theorem sdec {p q : Prop} [Decidable p] [Decidable q] (h : q ↔ p) : some (decide q) = some (decide p) := congrArg some (decide_eq_decide.mpr h)
theorem sfal {p : Prop} [Decidable p] (h : ¬ p) : some false = some (decide p) := by rw [decide_eq_false h]
theorem stru {p : Prop} [Decidable p] (h : p) : some true = some (decide p) := by rw [decide_eq_true h]
theorem sbool {b : Bool} {p : Prop} [Decidable p] (h : b = true ↔ p) : some b = some (decide p) := by
  by_cases c : p
  · rw [h.2 c, decide_eq_true c]
  · rw [decide_eq_false c, Bool.eq_false_iff.2 fun e => c (h.1 e)]
theorem sum_mem {l : List Nat} {x : Nat} (h : x ∈ l) : x ≤ l.sum := by
  induction l with
  | nil => cases h
  | cons y l ih =>
    rw [List.sum_cons]
    rcases List.mem_cons.1 h with rfl | h
    · omega
    · have := ih h; omega
theorem toLoop {α : Type} (F : Nat → Int → List α → Option (List α)) (a : List α) (d : α) (hn : a.length ≤ 1000000000000)
    (hs : ∀ (i m : Nat) (xs : List α), i < a.length → xs.length = a.length → F (m + 1) (i : Int) xs = F m ((i + 1 : Nat) : Int) (xs.set i (nthI a (i : Int) d)))
    (he : ∀ (m : Nat) (xs : List α), F (m + 1) (a.length : Int) xs = some xs) (xs : List α) (hx : xs.length = a.length) : F fu 0 xs = some a := by
  obtain ⟨M, hM⟩ := fu_ge a.length hn
  have h1 : ∀ k i : Nat, ∀ xs : List α, xs.length = a.length → i ≤ a.length → a.length - i = k → xs.take i = a.take i → F (k + 1 + M) (i : Int) xs = some a := by
    intro k
    induction k with
    | zero =>
      intro i xs hx hi hd ht
      obtain rfl : i = a.length := by omega
      rw [List.take_of_length_le (by omega), List.take_of_length_le (by omega)] at ht
      subst ht
      rw [show 0 + 1 + M = M + 1 from by omega]
      exact he M xs
    | succ k ih =>
      intro i xs hx hi hd ht
      have hi2 : i < a.length := by omega
      rw [show k + 1 + 1 + M = (k + 1 + M) + 1 from by omega, hs i _ xs hi2 hx]
      refine ih (i + 1) _ (by simpa using hx) (by omega) (by omega) ?_
      rw [nthI_nat, List.getD_eq_getElem?_getD, List.getElem?_eq_getElem hi2, Option.getD_some, List.take_add_one, List.take_add_one, List.take_set_of_le (Nat.le_refl i), ht]
      simp [show i < xs.length from by omega, hi2]
  rw [hM]
  exact h1 a.length 0 xs hx (by omega) (by omega) (by simp)
theorem eqLoop {α : Type} [DecidableEq α] (F : Nat → Int → Option Bool) (a b : List α) (d : α) (hl : a.length = b.length) (hn : a.length ≤ 1000000000000)
    (hs : ∀ (i m : Nat), i < a.length → F (m + 1) (i : Int) = bif decide (nthI a (i : Int) d = nthI b (i : Int) d) then F m ((i + 1 : Nat) : Int) else some false)
    (he : ∀ m : Nat, F (m + 1) (a.length : Int) = some true) : F fu 0 = some (decide (a = b)) := by
  obtain ⟨M, hM⟩ := fu_ge a.length hn
  have h1 : ∀ k i : Nat, i ≤ a.length → a.length - i = k → F (k + 1 + M) (i : Int) = some (decide (a.drop i = b.drop i)) := by
    intro k
    induction k with
    | zero =>
      intro i hi hd
      obtain rfl : i = a.length := by omega
      rw [show 0 + 1 + M = M + 1 from by omega, he, List.drop_of_length_le (by omega), List.drop_of_length_le (by omega)]
      simp
    | succ k ih =>
      intro i hi hd
      rw [show k + 1 + 1 + M = (k + 1 + M) + 1 from by omega, hs i _ (by omega), drop_at a i d (by omega), drop_at b i d (by omega), ih (i + 1) (by omega) (by omega)]
      by_cases e : nthI a (i : Int) d = nthI b (i : Int) d
      · rw [cdp e, e]
        generalize nthI b (i : Int) d = x
        simp
      · rw [cdn e]
        generalize nthI b (i : Int) d = x at *
        generalize nthI a (i : Int) d = y at *
        simp [e]
  rw [hM]
  simpa using h1 a.length 0 (by omega) (by omega)
theorem eqTop {α : Type} [DecidableEq α] (a b : List α) {k : Option Bool} (h : a.length = b.length → k = some (decide (a = b))) : (bif ((a.length : Int) != (b.length : Int)) then some false else k) = some (decide (a = b)) := by
  by_cases e : a.length = b.length
  · rw [cnn (by omega), h e]
  · rw [cnp (by omega), decide_eq_false (fun h => e (by rw [h]))]
theorem szLoop {α : Type} (F : Nat → Int → Int → Option Int) (a : List α) (d : α) (c : α → Nat) (hn : a.length ≤ 1000000000000)
    (hs : ∀ (i m : Nat) (l : Int), i < a.length → 0 ≤ l → l ≤ 1000000000000 → F (m + 1) l (i : Int) = if (c (nthI a (i : Int) d) : Int) ≤ l then F m (l - (c (nthI a (i : Int) d) : Int)) ((i + 1 : Nat) : Int) else some (-1))
    (he : ∀ (m : Nat) (l : Int), F (m + 1) l (a.length : Int) = some l) (l : Int) (h0 : 0 ≤ l) (h1 : l ≤ 1000000000000) : F fu l 0 = some (if (((a.map c).sum : Nat) : Int) ≤ l then l - (((a.map c).sum : Nat) : Int) else -1) := by
  obtain ⟨M, hM⟩ := fu_ge a.length hn
  have h2 : ∀ k i : Nat, ∀ l : Int, 0 ≤ l → l ≤ 1000000000000 → i ≤ a.length → a.length - i = k → F (k + 1 + M) l (i : Int) = some (if ((((a.drop i).map c).sum : Nat) : Int) ≤ l then l - ((((a.drop i).map c).sum : Nat) : Int) else -1) := by
    intro k
    induction k with
    | zero =>
      intro i l h0 h1 hi hd
      obtain rfl : i = a.length := by omega
      rw [show 0 + 1 + M = M + 1 from by omega, he, List.drop_of_length_le (by omega)]
      simp [h0]
    | succ k ih =>
      intro i l h0 h1 hi hd
      rw [show k + 1 + 1 + M = (k + 1 + M) + 1 from by omega, hs i _ l (by omega) h0 h1, drop_at a i d (by omega), List.map_cons, List.sum_cons]
      by_cases e : (c (nthI a (i : Int) d) : Int) ≤ l
      · rw [if_pos e, ih (i + 1) _ (by omega) (by omega) (by omega) (by omega)]
        congr 1
        split <;> split <;> omega
      · rw [if_neg e, if_neg (by omega)]
  rw [hM]
  simpa using h2 a.length 0 l h0 h1 (by omega) (by omega)
def markAll {α : Type} (m1 : Int → α → α) (w1 : α → Nat) : Int → List α → List α
  | _, [] => []
  | k, x :: xs => m1 k x :: markAll m1 w1 (k + (w1 x : Int)) xs
theorem markAll_length {α : Type} (m1 : Int → α → α) (w1 : α → Nat) : ∀ (a : List α) (k : Int), (markAll m1 w1 k a).length = a.length
  | [], _ => rfl
  | x :: xs, k => by simp [markAll, markAll_length m1 w1 xs]
theorem sum_const {α : Type} (w : α → Nat) (a : List α) (n : Nat) (h : ∀ x, w x = n) : (a.map w).sum = n * a.length := by
  induction a with
  | nil => simp
  | cons x xs ih => simp [h x, ih, Nat.mul_add]; omega
theorem cmod3 : decide ((3 : Int) = 0) = false := rfl
theorem markLoop {α : Type} (F : Nat → Int → Int → List α → Option (Int × List α)) (m1 : Int → α → α) (w1 : α → Nat) (a : List α) (d : α) (nl : Nat) (hw : ∀ x, w1 x = nl) {k : Int} (h0 : 0 ≤ k) (hn : a.length ≤ 1000000000000) (hc : k + (nl : Int) * (a.length : Int) ≤ 1000000000000)
    (hs : ∀ (i m : Nat) (k : Int) (xs : List α), i < a.length → xs.length = a.length → 0 ≤ k → k + (nl : Int) ≤ 1000000000000 → F (m + 1) k (i : Int) xs = F m (k + (nl : Int)) ((i + 1 : Nat) : Int) (xs.set i (m1 k (nthI xs (i : Int) d))))
    (he : ∀ (m : Nat) (k : Int) (xs : List α), xs.length = a.length → F (m + 1) k (a.length : Int) xs = some (k, xs)) : F fu k 0 a = some (k + (nl : Int) * (a.length : Int), markAll m1 w1 k a) := by
  obtain ⟨M, hM⟩ := fu_ge a.length hn
  have h1 : ∀ q i : Nat, ∀ (k : Int) (xs : List α), xs.length = a.length → i ≤ a.length → a.length - i = q → 0 ≤ k → k + (nl : Int) * (q : Int) ≤ 1000000000000 → F (q + 1 + M) k (i : Int) xs = some (k + (nl : Int) * (q : Int), xs.take i ++ markAll m1 w1 k (xs.drop i)) := by
    intro q
    induction q with
    | zero =>
      intro i k xs hx hi hd h0 hc
      obtain rfl : i = a.length := by omega
      rw [show 0 + 1 + M = M + 1 from by omega, he _ _ _ hx, List.take_of_length_le (by omega), List.drop_of_length_le (by omega)]
      simp [markAll]
    | succ q ih =>
      intro i k xs hx hi hd h0 hc
      have e : (nl : Int) * ((q + 1 : Nat) : Int) = (nl : Int) * (q : Int) + nl := by rw [Int.natCast_add, Int.mul_add]; simp
      have hq : 0 ≤ (nl : Int) * (q : Int) := Int.mul_nonneg (by omega) (by omega)
      rw [e] at hc ⊢
      rw [show q + 1 + 1 + M = (q + 1 + M) + 1 from by omega, hs i _ k xs (by omega) hx h0 (by omega), ih (i + 1) _ _ (by simpa using hx) (by omega) (by omega) (by omega) (by omega), drop_at xs i d (by omega), markAll, hw]
      have hi2 : i < xs.length := by omega
      rw [List.take_add_one, List.getElem?_set_self hi2, List.take_set_of_le (Nat.le_refl i), List.drop_set_of_lt (by omega)]
      simp
      omega
  rw [hM]
  have := h1 a.length 0 k a rfl (by omega) (by omega) h0 hc
  simpa using this
theorem markAll_nth {α : Type} (m1 : Int → α → α) (w1 : α → Nat) (nl : Nat) (hw : ∀ x, w1 x = nl) (d : α) : ∀ (a : List α) (k : Int) (i : Nat), i < a.length → nthI (markAll m1 w1 k a) (i : Int) d = m1 (k + (nl : Int) * (i : Int)) (nthI a (i : Int) d)
  | [], _, i, h => by simp at h
  | x :: xs, k, 0, _ => by simp [markAll, nthI]
  | x :: xs, k, i + 1, h => by
    have := markAll_nth m1 w1 nl hw d xs (k + (w1 x : Int)) i (by simpa using h)
    rw [nthI_nat, nthI_nat] at this ⊢
    rw [markAll, List.getD_cons_succ, List.getD_cons_succ, this, hw, Int.natCast_add, Int.mul_add]
    congr 1
    omega
theorem heldLoop {α : Type} (F : Nat → Int → Int → Option Int) (m1 : Int → α → α) (w1 : α → Nat) (a : List α) (d : α) (nl : Nat) (hw : ∀ x, w1 x = nl) (k : Int) (h0 : 0 ≤ k) (hn : a.length ≤ 1000000000000) (hc : k + (nl : Int) * (a.length : Int) ≤ 1000000000000)
    (hs : ∀ (i m : Nat) (j : Int), i < a.length → 0 ≤ j → j + (nl : Int) ≤ 1000000000000 → nthI (markAll m1 w1 k a) (i : Int) d = m1 j (nthI a (i : Int) d) → F (m + 1) j (i : Int) = F m (j + (nl : Int)) ((i + 1 : Nat) : Int))
    (he : ∀ (m : Nat) (j : Int), F (m + 1) j (a.length : Int) = some j) : F fu k 0 = some (k + (nl : Int) * (a.length : Int)) := by
  obtain ⟨M, hM⟩ := fu_ge a.length hn
  have h1 : ∀ q i : Nat, i ≤ a.length → a.length - i = q → F (q + 1 + M) (k + (nl : Int) * (i : Int)) (i : Int) = some (k + (nl : Int) * (a.length : Int)) := by
    intro q
    induction q with
    | zero =>
      intro i hi hd
      obtain rfl : i = a.length := by omega
      rw [show 0 + 1 + M = M + 1 from by omega, he]
    | succ q ih =>
      intro i hi hd
      have e : (nl : Int) * ((i + 1 : Nat) : Int) = (nl : Int) * (i : Int) + nl := by rw [Int.natCast_add, Int.mul_add]; simp
      have hq : 0 ≤ (nl : Int) * (i : Int) := Int.mul_nonneg (by omega) (by omega)
      have hle : (nl : Int) * ((i + 1 : Nat) : Int) ≤ (nl : Int) * (a.length : Int) := Int.mul_le_mul_of_nonneg_left (by omega) (by omega)
      rw [show q + 1 + 1 + M = (q + 1 + M) + 1 from by omega, hs i _ _ (by omega) (by omega) (by omega) (markAll_nth m1 w1 nl hw d a k i (by omega))]
      have := ih (i + 1) (by omega) (by omega)
      rw [e] at this
      rw [show k + (nl : Int) * (i : Int) + (nl : Int) = k + ((nl : Int) * (i : Int) + (nl : Int)) from by omega]
      exact this
  rw [hM]
  have := h1 a.length 0 (by omega) (by omega)
  simpa using this
theorem allLoop (F : Nat → Int → Option Bool) (n : Nat) (p : Nat → Prop) [DecidablePred p] (e : Bool) (hn : n ≤ 1000000000000)
    (hs : ∀ (i m : Nat), i < n → F (m + 1) (i : Int) = bif decide (p i) then F m ((i + 1 : Nat) : Int) else some false)
    (he : ∀ m : Nat, F (m + 1) (n : Int) = some e) : F fu 0 = some (decide (∀ j, j < n → p j) && e) := by
  obtain ⟨M, hM⟩ := fu_ge n hn
  have h1 : ∀ k i : Nat, i + k = n → (∀ j, j < i → p j) → F (k + 1 + M) (i : Int) = some (decide (∀ j, j < n → p j) && e) := by
    intro k
    induction k with
    | zero =>
      intro i hi hp
      obtain rfl : i = n := by omega
      rw [show 0 + 1 + M = M + 1 from by omega, he, decide_eq_true hp]
      rfl
    | succ k ih =>
      intro i hi hp
      rw [show k + 1 + 1 + M = (k + 1 + M) + 1 from by omega, hs i _ (by omega)]
      by_cases c : p i
      · rw [cdp c]
        refine ih (i + 1) (by omega) fun j hj => ?_
        rcases Nat.lt_or_ge j i with h | h
        · exact hp j h
        · obtain rfl : j = i := by omega
          exact c
      · rw [cdn c, decide_eq_false fun h => c (h i (by omega))]
        rfl
  rw [hM]
  exact h1 n 0 (by omega) fun j hj => by omega
def cmpF (a b : Int) : Int := if a < b then -1 else if b < a then 1 else 0
theorem allLoopK (F : Nat → Int → Option Bool) (n : Nat) (p : Nat → Prop) [DecidablePred p] (E : Option Bool) (hn : n ≤ 1000000000000)
    (hs : ∀ (i m : Nat), i < n → F (m + 1) (i : Int) = bif decide (p i) then F m ((i + 1 : Nat) : Int) else some false)
    (he : ∀ m : Nat, F (m + 1) (n : Int) = E) : F fu 0 = if ∀ j, j < n → p j then E else some false := by
  obtain ⟨M, hM⟩ := fu_ge n hn
  have h1 : ∀ k i : Nat, i + k = n → (∀ j, j < i → p j) → F (k + 1 + M) (i : Int) = if ∀ j, j < n → p j then E else some false := by
    intro k
    induction k with
    | zero =>
      intro i hi hp
      obtain rfl : i = n := by omega
      rw [show 0 + 1 + M = M + 1 from by omega, he, if_pos hp]
    | succ k ih =>
      intro i hi hp
      rw [show k + 1 + 1 + M = (k + 1 + M) + 1 from by omega, hs i _ (by omega)]
      by_cases c : p i
      · rw [cdp c]
        refine ih (i + 1) (by omega) fun j hj => ?_
        rcases Nat.lt_or_ge j i with h | h
        · exact hp j h
        · obtain rfl : j = i := by omega
          exact c
      · rw [cdn c, if_neg fun h => c (h i (by omega))]
  rw [hM]
  exact h1 n 0 (by omega) fun j hj => by omega
theorem dlt0 {x : Int} (h : 0 ≤ x) : decide (x < 0) = false := decide_eq_false (by omega)
theorem markLoopW {α : Type} (F : Nat → Int → Int → List α → Option (Int × List α)) (m1 : Int → α → α) (w1 : α → Nat) (a : List α) (d : α) {k : Int} (h0 : 0 ≤ k) (hn : a.length ≤ 1000000000000) (hc : k + (((a.map w1).sum : Nat) : Int) ≤ 1000000000000)
    (hs : ∀ (i m : Nat) (k : Int) (xs : List α), i < a.length → xs.length = a.length → 0 ≤ k → k + ((w1 (nthI xs (i : Int) d) : Nat) : Int) ≤ 1000000000000 → F (m + 1) k (i : Int) xs = F m (k + ((w1 (nthI xs (i : Int) d) : Nat) : Int)) ((i + 1 : Nat) : Int) (xs.set i (m1 k (nthI xs (i : Int) d))))
    (he : ∀ (m : Nat) (k : Int) (xs : List α), xs.length = a.length → F (m + 1) k (a.length : Int) xs = some (k, xs)) : F fu k 0 a = some (k + (((a.map w1).sum : Nat) : Int), markAll m1 w1 k a) := by
  obtain ⟨M, hM⟩ := fu_ge a.length hn
  have h1 : ∀ q i : Nat, ∀ (k : Int) (xs : List α), xs.length = a.length → i ≤ a.length → a.length - i = q → 0 ≤ k → k + ((((xs.drop i).map w1).sum : Nat) : Int) ≤ 1000000000000 → F (q + 1 + M) k (i : Int) xs = some (k + ((((xs.drop i).map w1).sum : Nat) : Int), xs.take i ++ markAll m1 w1 k (xs.drop i)) := by
    intro q
    induction q with
    | zero =>
      intro i k xs hx hi hd h0 hc
      obtain rfl : i = a.length := by omega
      rw [show 0 + 1 + M = M + 1 from by omega, he _ _ _ hx, List.take_of_length_le (by omega), List.drop_of_length_le (by omega)]
      simp [markAll]
    | succ q ih =>
      intro i k xs hx hi hd h0 hc
      have hi2 : i < xs.length := by omega
      rw [drop_at xs i d hi2, List.map_cons, List.sum_cons] at hc ⊢
      rw [show q + 1 + 1 + M = (q + 1 + M) + 1 from by omega, hs i _ k xs (by omega) hx h0 (by omega)]
      have e : (xs.set i (m1 k (nthI xs (i : Int) d))).drop (i + 1) = xs.drop (i + 1) := List.drop_set_of_lt (by omega)
      rw [ih (i + 1) _ _ (by simpa using hx) (by omega) (by omega) (by omega) (by rw [e]; omega), e, markAll]
      rw [List.take_add_one, List.getElem?_set_self hi2, List.take_set_of_le (Nat.le_refl i)]
      simp
      omega
  rw [hM]
  have := h1 a.length 0 k a rfl (by omega) (by omega) h0 hc
  simpa using this
theorem markAll_nthW {α : Type} (m1 : Int → α → α) (w1 : α → Nat) (d : α) : ∀ (a : List α) (k : Int) (i : Nat), i < a.length → nthI (markAll m1 w1 k a) (i : Int) d = m1 (k + ((((a.take i).map w1).sum : Nat) : Int)) (nthI a (i : Int) d)
  | [], _, i, h => by simp at h
  | x :: xs, k, 0, _ => by simp [markAll, nthI]
  | x :: xs, k, i + 1, h => by
    have := markAll_nthW m1 w1 d xs (k + (w1 x : Int)) i (by simpa using h)
    rw [nthI_nat, nthI_nat] at this ⊢
    rw [markAll, List.getD_cons_succ, List.getD_cons_succ, this, List.take_succ_cons, List.map_cons, List.sum_cons]
    congr 1
    omega
theorem sum_take_succ {α : Type} (w1 : α → Nat) (d : α) (a : List α) (i : Nat) (h : i < a.length) : ((a.take (i + 1)).map w1).sum = ((a.take i).map w1).sum + w1 (nthI a (i : Int) d) := by
  rw [List.take_add_one, List.map_append, List.sum_append, nthI_nat, List.getD_eq_getElem?_getD, List.getElem?_eq_getElem h]
  simp
theorem sum_take_le {α : Type} (w1 : α → Nat) (a : List α) (i : Nat) : ((a.take i).map w1).sum ≤ (a.map w1).sum := by
  have : (a.map w1).sum = ((a.take i).map w1).sum + ((a.drop i).map w1).sum := by rw [← List.sum_append, ← List.map_append, List.take_append_drop]
  omega
theorem heldLoopW {α : Type} (F : Nat → Int → Int → Option Int) (m1 : Int → α → α) (w1 : α → Nat) (a : List α) (d : α) (k : Int) (h0 : 0 ≤ k) (hn : a.length ≤ 1000000000000) (hc : k + (((a.map w1).sum : Nat) : Int) ≤ 1000000000000)
    (hs : ∀ (i m : Nat) (j : Int), i < a.length → 0 ≤ j → j + ((w1 (nthI a (i : Int) d) : Nat) : Int) ≤ 1000000000000 → nthI (markAll m1 w1 k a) (i : Int) d = m1 j (nthI a (i : Int) d) → F (m + 1) j (i : Int) = F m (j + ((w1 (nthI a (i : Int) d) : Nat) : Int)) ((i + 1 : Nat) : Int))
    (he : ∀ (m : Nat) (j : Int), F (m + 1) j (a.length : Int) = some j) : F fu k 0 = some (k + (((a.map w1).sum : Nat) : Int)) := by
  obtain ⟨M, hM⟩ := fu_ge a.length hn
  have h1 : ∀ q i : Nat, i ≤ a.length → a.length - i = q → F (q + 1 + M) (k + ((((a.take i).map w1).sum : Nat) : Int)) (i : Int) = some (k + (((a.map w1).sum : Nat) : Int)) := by
    intro q
    induction q with
    | zero =>
      intro i hi hd
      obtain rfl : i = a.length := by omega
      rw [show 0 + 1 + M = M + 1 from by omega, he, List.take_of_length_le (Nat.le_refl _)]
    | succ q ih =>
      intro i hi hd
      have hi2 : i < a.length := by omega
      have e := sum_take_succ w1 d a i hi2
      have hle := sum_take_le w1 a (i + 1)
      rw [show q + 1 + 1 + M = (q + 1 + M) + 1 from by omega, hs i _ _ hi2 (by omega) (by omega) (markAll_nthW m1 w1 d a k i hi2)]
      have := ih (i + 1) (by omega) (by omega)
      rw [e] at this
      rw [show k + ((((a.take i).map w1).sum : Nat) : Int) + ((w1 (nthI a (i : Int) d) : Nat) : Int) = k + ((((a.take i).map w1).sum + w1 (nthI a (i : Int) d) : Nat) : Int) from by omega]
      exact this
  rw [hM]
  have := h1 a.length 0 (by omega) (by omega)
  simpa using this
def bInt (x : Int) : Prop := (Lit.int .i64 x).wf = true
theorem szIntS_eq (left : Int) (a : List Int) (h0 : 0 ≤ left) (h1 : left ≤ 1000000000000) (hm : a.length ≤ maxLen ∧ ∀ x ∈ a, bInt x) : L.szIntS left a = some (if ((a.length : Nat) : Int) ≤ left then left - ((a.length : Nat) : Int) else -1) := by
  have hl : a.length ≤ 9223372036854775807 := hm.1
  unfold L.szIntS
  simp only []
  rw [w64 (by omega) (by omega)]
  by_cases h : ((a.length : Nat) : Int) ≤ left
  · rw [cdn (by omega), if_pos h]
  · rw [cdp (by omega), if_neg h]
def bBool (x : Bool) : Prop := True
abbrev TPane : Type := Int × Int × Int × Int × Int × Int × List Int × Bool
instance : DecidableEq TPane := (@instDecidableEqProd _ _ (inferInstance : DecidableEq Int) (@instDecidableEqProd _ _ (inferInstance : DecidableEq Int) (@instDecidableEqProd _ _ (inferInstance : DecidableEq Int) (@instDecidableEqProd _ _ (inferInstance : DecidableEq Int) (@instDecidableEqProd _ _ (inferInstance : DecidableEq Int) (@instDecidableEqProd _ _ (inferInstance : DecidableEq Int) (@instDecidableEqProd _ _ (inferInstance : DecidableEq (List Int)) (inferInstance : DecidableEq Bool))))))))
def cPane (x : TPane) : Nat := (x.2.2.2.2.2.2.1).length
def cPaneS (a : List TPane) : Nat := a.length + (a.map cPane).sum
theorem cPaneS_mem {a : List TPane} {x : TPane} (h : x ∈ a) : cPane x ≤ cPaneS a := by
  have := sum_mem (List.mem_map.2 ⟨x, h, rfl⟩ : cPane x ∈ a.map cPane)
  unfold cPaneS; omega
def bPane (x : TPane) : Prop := ((Lit.int .i64 x.1).wf = true ∧ (Lit.int .i64 x.2.1).wf = true ∧ (Lit.int .i64 x.2.2.1).wf = true ∧ (Lit.int .i64 x.2.2.2.1).wf = true ∧ (Lit.int .i64 x.2.2.2.2.1).wf = true ∧ (Lit.int .i64 x.2.2.2.2.2.1).wf = true ∧ (x.2.2.2.2.2.2.1.length ≤ maxLen ∧ ∀ y ∈ x.2.2.2.2.2.2.1, bInt y) ∧ True)
theorem szPane_eq (x : TPane) (left : Int) (h0 : 0 ≤ left) (h1 : left ≤ 1000000000000) (hb : bPane x) : L.szPane x.1 x.2.1 x.2.2.1 x.2.2.2.1 x.2.2.2.2.1 x.2.2.2.2.2.1 x.2.2.2.2.2.2.2 left x.2.2.2.2.2.2.1 = some (if (cPane x : Int) ≤ left then left - (cPane x : Int) else -1) := by
  unfold bPane at hb
  unfold L.szPane cPane
  rw [szIntS_eq _ x.2.2.2.2.2.2.1 (by omega) (by omega) hb.2.2.2.2.2.2.1, Option.bind_some]
  by_cases h0 : (((x.2.2.2.2.2.2.1).length : Nat) : Int) ≤ left
  · first
      | (rw [if_pos h0, cdn (by omega)]; done)
      | (rw [if_pos h0, cdn (by omega), if_pos (by omega)]; congr 1; omega)
  · first | (rw [if_neg h0, cdp (by omega)]; done) | rw [if_neg h0, cdp (by omega), if_neg (by omega)]
theorem szPaneS_eq (left : Int) (a : List TPane) (h0 : 0 ≤ left) (h1 : left ≤ 1000000000000) (hm : a.length ≤ maxLen ∧ ∀ x ∈ a, bPane x) : L.szPaneS left a = some (if ((cPaneS a : Nat) : Int) ≤ left then left - ((cPaneS a : Nat) : Int) else -1) := by
  have hl : a.length ≤ 9223372036854775807 := hm.1
  unfold L.szPaneS
  simp only []
  rw [w64 (by omega) (by omega)]
  by_cases h : ((a.length : Nat) : Int) ≤ left
  · rw [cdn (by omega)]
    have := szLoop (fun m l i => L.szPaneS_l0 m (fun y14 y15 => some y15) (fun y16 => some y16) l i a) a ((0 : Int), ((0 : Int), ((0 : Int), ((0 : Int), ((0 : Int), ((0 : Int), ([], false))))))) cPane (by omega) (fun i m l hi h0 h1 => ?_) (fun m l => ?_) (left - (a.length : Int)) (by omega) (by omega)
    · refine this.trans ?_
      unfold cPaneS
      congr 1
      split <;> split <;> omega
    · show L.szPaneS_l0 (m + 1) _ _ _ _ _ = _
      rw [L.szPaneS_l0, cdp (by omega), cdp (by omega), szPane_eq (nthI a (i : Int) ((0 : Int), ((0 : Int), ((0 : Int), ((0 : Int), ((0 : Int), ((0 : Int), ([], false)))))))) l h0 h1 (hm.2 _ (nthI_mem a i _ hi)), Option.bind_some]
      split
      · rw [cdn (by omega), w64 (by omega) (by omega)]; rfl
      · rw [cdp (by omega)]
    · show L.szPaneS_l0 (m + 1) _ _ _ _ _ = _
      rw [L.szPaneS_l0, cdn (by omega)]
  · rw [cdp (by omega), if_neg (by unfold cPaneS; omega)]
theorem toIntS_eq (a : List Int) (hc : a.length ≤ 1000000000000) : L.toIntS a = some a := by
  have hn := hc
  unfold L.toIntS
  simp only []
  rw [cdp (by omega)]
  refine toLoop (fun m i xs => L.toIntS_l0 m (fun y => some y) i a xs) a (0 : Int) hn (fun i m xs hi hx => ?_) (fun m xs => ?_) _ (by simp)
  · show L.toIntS_l0 (m + 1) _ _ _ _ = L.toIntS_l0 m _ _ _ _
    rw [L.toIntS_l0, cdp (by omega), cdp (by omega), cdp (by omega), w64 (by omega) (by omega)]
    rfl
  · show L.toIntS_l0 (m + 1) _ _ _ _ = _
    rw [L.toIntS_l0, cdn (by omega)]
theorem toPane_eq (x : TPane) (hc : cPane x ≤ 1000000000000) : L.toPane x.1 x.2.1 x.2.2.1 x.2.2.2.1 x.2.2.2.2.1 x.2.2.2.2.2.1 x.2.2.2.2.2.2.2 x.2.2.2.2.2.2.1 = some (x.1, x.2.1, x.2.2.1, x.2.2.2.1, x.2.2.2.2.1, x.2.2.2.2.2.1, x.2.2.2.2.2.2.2, x.2.2.2.2.2.2.1) := by
  unfold L.toPane
  unfold cPane at hc
  simp only [toIntS_eq x.2.2.2.2.2.2.1 (by omega), Option.bind_some]
theorem toPaneS_eq (a : List TPane) (hc : cPaneS a ≤ 1000000000000) : L.toPaneS a = some a := by
  have hn : a.length ≤ 1000000000000 := by unfold cPaneS at hc; omega
  unfold L.toPaneS
  simp only []
  rw [cdp (by omega)]
  refine toLoop (fun m i xs => L.toPaneS_l0 m (fun y => some y) i a xs) a ((0 : Int), ((0 : Int), ((0 : Int), ((0 : Int), ((0 : Int), ((0 : Int), ([], false))))))) hn (fun i m xs hi hx => ?_) (fun m xs => ?_) _ (by simp)
  · show L.toPaneS_l0 (m + 1) _ _ _ _ = L.toPaneS_l0 m _ _ _ _
    rw [L.toPaneS_l0, cdp (by omega), cdp (by omega), toPane_eq (nthI a (i : Int) ((0 : Int), ((0 : Int), ((0 : Int), ((0 : Int), ((0 : Int), ((0 : Int), ([], false)))))))) (Nat.le_trans (cPaneS_mem (nthI_mem a i _ hi)) hc), Option.bind_some, cdp (by omega), w64 (by omega) (by omega)]
    rfl
  · show L.toPaneS_l0 (m + 1) _ _ _ _ = _
    rw [L.toPaneS_l0, cdn (by omega)]
theorem eqIntS_eq (a b : List Int) (hc : a.length ≤ 1000000000000) : L.eqIntS a b = some (decide (a = b)) := by
  have hn := hc
  unfold L.eqIntS
  refine eqTop a b ?_
  intro hl
  refine eqLoop (fun m i => L.eqIntS_l0 m (fun y => some y) (some true) i a b) a b (0 : Int) hl hn (fun i m hi => ?_) (fun m => ?_)
  · show L.eqIntS_l0 (m + 1) _ _ _ _ _ = bif _ then L.eqIntS_l0 m _ _ _ _ _ else _
    rw [L.eqIntS_l0, cdp (by omega), cdp (by omega), cdp (by omega), cneI, w64 (by omega) (by omega)]
    rfl
  · show L.eqIntS_l0 (m + 1) _ _ _ _ _ = _
    rw [L.eqIntS_l0, cdn (by omega)]
theorem eqPane_eq (x y : TPane) (hc : cPane x ≤ 1000000000000) : L.eqPane x.1 x.2.1 x.2.2.1 x.2.2.2.1 x.2.2.2.2.1 x.2.2.2.2.2.1 x.2.2.2.2.2.2.2 y.1 y.2.1 y.2.2.1 y.2.2.2.1 y.2.2.2.2.1 y.2.2.2.2.2.1 y.2.2.2.2.2.2.2 x.2.2.2.2.2.2.1 y.2.2.2.2.2.2.1 = some (decide (x = y)) := by
  unfold cPane at hc
  unfold L.eqPane
  simp only [eqIntS_eq x.2.2.2.2.2.2.1 y.2.2.2.2.2.2.1 (by omega), cneI, cneB, cnotb, cbeB, cds, cdt, Option.bind_some]
  exact sdec ⟨fun h => (Prod.ext h.1 (Prod.ext h.2.1 (Prod.ext h.2.2.1 (Prod.ext h.2.2.2.1 (Prod.ext h.2.2.2.2.1 (Prod.ext h.2.2.2.2.2.1 (Prod.ext h.2.2.2.2.2.2.1 h.2.2.2.2.2.2.2))))))), by rintro rfl; exact ⟨rfl, rfl, rfl, rfl, rfl, rfl, rfl, rfl⟩⟩
theorem eqPaneS_eq (a b : List TPane) (hc : cPaneS a ≤ 1000000000000) : L.eqPaneS a b = some (decide (a = b)) := by
  have hn : a.length ≤ 1000000000000 := by unfold cPaneS at hc; omega
  unfold L.eqPaneS
  refine eqTop a b ?_
  intro hl
  refine eqLoop (fun m i => L.eqPaneS_l0 m (fun y => some y) (some true) i a b) a b ((0 : Int), ((0 : Int), ((0 : Int), ((0 : Int), ((0 : Int), ((0 : Int), ([], false))))))) hl hn (fun i m hi => ?_) (fun m => ?_)
  · show L.eqPaneS_l0 (m + 1) _ _ _ _ _ = bif _ then L.eqPaneS_l0 m _ _ _ _ _ else _
    rw [L.eqPaneS_l0, cdp (by omega), cdp (by omega), cdp (by omega), eqPane_eq (nthI a (i : Int) ((0 : Int), ((0 : Int), ((0 : Int), ((0 : Int), ((0 : Int), ((0 : Int), ([], false)))))))) (nthI b (i : Int) ((0 : Int), ((0 : Int), ((0 : Int), ((0 : Int), ((0 : Int), ((0 : Int), ([], false)))))))) (Nat.le_trans (cPaneS_mem (nthI_mem a i _ hi)) hc), Option.bind_some, cnotb, w64 (by omega) (by omega)]
    rfl
  · show L.eqPaneS_l0 (m + 1) _ _ _ _ _ = _
    rw [L.eqPaneS_l0, cdn (by omega)]
def m1Int (k : Int) (_ : Int) : Int := k
def w1Int (_ : Int) : Nat := 1
def mIntS (k : Int) (a : List Int) : List Int := markAll m1Int w1Int k a
def wIntS (a : List Int) : Nat := (a.map w1Int).sum
theorem wIntS_len (a : List Int) : wIntS a = 1 * a.length := by unfold wIntS; exact sum_const _ a _ (fun _ => rfl)
theorem markIntS_eq (k : Int) (a : List Int) (h0 : 0 ≤ k) (hc : k + 1 * (a.length : Int) ≤ 1000000000000) : L.markIntS k a = some (k + 1 * (a.length : Int), mIntS k a) := by
  unfold L.markIntS mIntS
  refine (markLoop (fun m k i xs => L.markIntS_l0 m (fun y12 y13 => some (y12, y13)) k i xs) m1Int w1Int a (0 : Int) 1 (fun _ => rfl) h0 (by omega) hc (fun i m k xs hi hx h0 h1 => ?_) (fun m k xs hx => ?_)).trans rfl
  · show L.markIntS_l0 (m + 1) _ _ _ _ = L.markIntS_l0 m _ _ _ _
    have hdec : decide ((0 : Int) ≤ (i : Int) ∧ (i : Int) < (xs.length : Int)) = true := by simp; omega
    rw [L.markIntS_l0, cdp (by omega)]
    simp (disch := omega) only [df1, df2, hdec, cond_true, w64, u8_mod, u64w, List.length_set, nthI_set, List.set_set, Int.toNat_natCast, cmod3, Int.add_assoc, Int.reduceAdd, if_false, reduceIte]
    rfl
  · show L.markIntS_l0 (m + 1) _ _ _ _ = _
    rw [L.markIntS_l0, cdn (by omega)]
def m1Pane (k : Int) (x : TPane) : TPane := (k, (k + 1, (k + 2, (k + 3, (k + 4, (k + 5, (mIntS (k + 6) x.2.2.2.2.2.2.1, (Int.tmod (k + (6 + 1 * ((x.2.2.2.2.2.2.1).length : Int))) 3 == 0))))))))
def w1Pane (x : TPane) : Nat := 7 + 1 * (x.2.2.2.2.2.2.1).length
def mPaneS (k : Int) (a : List TPane) : List TPane := markAll m1Pane w1Pane k a
def wPaneS (a : List TPane) : Nat := (a.map w1Pane).sum
theorem wPaneS_ge (a : List TPane) : a.length ≤ wPaneS a := by
  unfold wPaneS
  induction a with
  | nil => simp
  | cons x a ih =>
    have : 1 ≤ w1Pane x := by unfold w1Pane; omega
    simp only [List.map_cons, List.sum_cons, List.length_cons]
    omega
theorem markPaneS_eq (k : Int) (a : List TPane) (h0 : 0 ≤ k) (hn : a.length ≤ 1000000000000) (hc : k + ((wPaneS a : Nat) : Int) ≤ 1000000000000) : L.markPaneS k a = some (k + ((wPaneS a : Nat) : Int), mPaneS k a) := by
  unfold L.markPaneS mPaneS wPaneS
  refine (markLoopW (fun m k i xs => L.markPaneS_l0 m (fun y12 y13 => some (y12, y13)) k i xs) m1Pane w1Pane a ((0 : Int), ((0 : Int), ((0 : Int), ((0 : Int), ((0 : Int), ((0 : Int), ([], false))))))) h0 hn (by unfold wPaneS at hc; exact hc) (fun i m k xs hi hx h0 h1 => ?_) (fun m k xs hx => ?_)).trans rfl
  · show L.markPaneS_l0 (m + 1) _ _ _ _ = L.markPaneS_l0 m _ _ _ _
    have hdec : decide ((0 : Int) ≤ (i : Int) ∧ (i : Int) < (xs.length : Int)) = true := by simp; omega
    have e : k + ((w1Pane (nthI xs (i : Int) ((0 : Int), ((0 : Int), ((0 : Int), ((0 : Int), ((0 : Int), ((0 : Int), ([], false)))))))) : Nat) : Int) = k + (6 + (1 * (((nthI xs (i : Int) ((0 : Int), ((0 : Int), ((0 : Int), ((0 : Int), ((0 : Int), ((0 : Int), ([], false)))))))).2.2.2.2.2.2.1).length : Int) + 1)) := by unfold w1Pane; omega
    have e2 : IntKind.i64.wrap ((i : Int) + 1) = ((i + 1 : Nat) : Int) := by rw [w64 (by omega) (by omega)]; omega
    rw [e] at h1 ⊢
    unfold m1Pane
    rw [L.markPaneS_l0, cdp (by omega)]
    skip
    simp (disch := omega) only [df1, df2, hdec, cond_true, e2, w64, u8_mod, u64w, List.length_set, nthI_set, List.set_set, Int.toNat_natCast, cmod3, Int.add_assoc, Int.reduceAdd, if_false, reduceIte, Option.bind_some, Int.add_zero, cond_false, markIntS_eq]
    all_goals rfl
  · show L.markPaneS_l0 (m + 1) _ _ _ _ = _
    rw [L.markPaneS_l0, cdn (by omega)]
theorem heldIntS_eq (k : Int) (a : List Int) (h0 : 0 ≤ k) (hc : k + 1 * (a.length : Int) ≤ 1000000000000) : L.heldIntS k (mIntS k a) = some (k + 1 * (a.length : Int)) := by
  unfold L.heldIntS
  refine heldLoop (fun m q i => L.heldIntS_l0 m (fun y12 y13 => some y13) (fun y14 => some y14) q i (mIntS k a)) m1Int w1Int a (0 : Int) 1 (fun _ => rfl) k h0 (by omega) hc (fun i m j hi h0 h1 hx => ?_) (fun m j => ?_)
  all_goals (have hl : (mIntS k a).length = a.length := markAll_length _ _ _ _)
  · show L.heldIntS_l0 (m + 1) _ _ _ _ _ = L.heldIntS_l0 m _ _ _ _ _
    have hx : nthI (mIntS k a) (i : Int) (0 : Int) = _ := hx
    have hdec : decide ((0 : Int) ≤ (i : Int) ∧ (i : Int) < ((mIntS k a).length : Int)) = true := by rw [hl]; simp; omega
    rw [L.heldIntS_l0, cdp (by omega)]
    simp (disch := omega) only [df1, df2, hdec, hx, m1Int, cond_true, cond_false, w64, u8_mod, u64w, bne_self_eq_false, cmod3, Int.add_assoc, Int.reduceAdd, if_false, reduceIte, beq_self_eq_true, Bool.not_true]
    rfl
  · show L.heldIntS_l0 (m + 1) _ _ _ _ _ = _
    rw [L.heldIntS_l0, cdn (by rw [hl]; omega)]
theorem heldPaneS_eq (k : Int) (a : List TPane) (h0 : 0 ≤ k) (hn : a.length ≤ 1000000000000) (hc : k + ((wPaneS a : Nat) : Int) ≤ 1000000000000) : L.heldPaneS k (mPaneS k a) = some (k + ((wPaneS a : Nat) : Int)) := by
  unfold L.heldPaneS wPaneS
  refine heldLoopW (fun m q i => L.heldPaneS_l0 m (fun y12 y13 => some y13) (fun y14 => some y14) q i (mPaneS k a)) m1Pane w1Pane a ((0 : Int), ((0 : Int), ((0 : Int), ((0 : Int), ((0 : Int), ((0 : Int), ([], false))))))) k h0 hn (by unfold wPaneS at hc; exact hc) (fun i m j hi h0 h1 hx => ?_) (fun m j => ?_)
  all_goals (have hl : (mPaneS k a).length = a.length := markAll_length _ _ _ _)
  · show L.heldPaneS_l0 (m + 1) _ _ _ _ _ = L.heldPaneS_l0 m _ _ _ _ _
    have hx : nthI (mPaneS k a) (i : Int) ((0 : Int), ((0 : Int), ((0 : Int), ((0 : Int), ((0 : Int), ((0 : Int), ([], false))))))) = _ := hx
    have hdec : decide ((0 : Int) ≤ (i : Int) ∧ (i : Int) < ((mPaneS k a).length : Int)) = true := by rw [hl]; simp; omega
    have e : j + ((w1Pane (nthI a (i : Int) ((0 : Int), ((0 : Int), ((0 : Int), ((0 : Int), ((0 : Int), ((0 : Int), ([], false)))))))) : Nat) : Int) = j + (6 + (1 * (((nthI a (i : Int) ((0 : Int), ((0 : Int), ((0 : Int), ((0 : Int), ((0 : Int), ((0 : Int), ([], false)))))))).2.2.2.2.2.2.1).length : Int) + 1)) := by unfold w1Pane; omega
    have e2 : IntKind.i64.wrap ((i : Int) + 1) = ((i + 1 : Nat) : Int) := by rw [w64 (by omega) (by omega)]; omega
    rw [e] at h1 ⊢
    rw [L.heldPaneS_l0, cdp (by rw [hl]; omega)]
    simp (disch := omega) only [df1, df2, hdec, hx, e2, m1Pane, cond_true, cond_false, w64, u8_mod, u64w, bne_self_eq_false, cmod3, Int.add_assoc, Int.reduceAdd, if_false, reduceIte, beq_self_eq_true, Bool.not_true, dlt0, Option.bind_some, Int.add_zero, heldIntS_eq]
    all_goals rfl
  · show L.heldPaneS_l0 (m + 1) _ _ _ _ _ = _
    rw [L.heldPaneS_l0, cdn (by rw [hl]; omega)]
def paneOk (p : TPane) : Prop := (0 ≤ p.1 ∧ p.1 ≤ 3) ∧ (0 ≤ p.2.1 ∧ p.2.1 ≤ 15) ∧ (0 ≤ p.2.2.1 ∧ p.2.2.1 < p.2.2.2.1 ∧ p.2.2.2.1 ≤ 1100) ∧ (0 ≤ p.2.2.2.2.1 ∧ p.2.2.2.2.1 ≤ 15) ∧ (1 ≤ p.2.2.2.2.2.1 ∧ p.2.2.2.2.2.1 ≤ 1000000) ∧ p.2.2.2.2.2.2.1.length ≤ 4 ∧ (((p.2.2.2.2.2.2.1.length : Int) == 0) == p.2.2.2.2.2.2.2) = true
instance (p : TPane) : Decidable (paneOk p) := by unfold paneOk; exact inferInstance
section
end
theorem filterLoop {β γ : Type} (F : Nat → Int → List β → Option γ) (n : Nat) (p : Nat → Bool) (g : Nat → β) (E : List β → Option γ) (hn : n ≤ 1000000000000)
    (hs : ∀ (i m : Nat) (acc : List β), i < n → acc.length ≤ i → F (m + 1) (i : Int) acc = bif p i then F m ((i + 1 : Nat) : Int) (acc ++ [g i]) else F m ((i + 1 : Nat) : Int) acc)
    (he : ∀ (m : Nat) (acc : List β), F (m + 1) (n : Int) acc = E acc) : F fu 0 [] = E (((List.range n).filter p).map g) := by
  obtain ⟨M, hM⟩ := fu_ge n hn
  have h1 : ∀ k i : Nat, ∀ acc : List β, i + k = n → acc.length ≤ i → F (k + 1 + M) (i : Int) acc = E (acc ++ ((List.range' i k).filter p).map g) := by
    intro k
    induction k with
    | zero =>
      intro i acc hi ha
      obtain rfl : i = n := by omega
      rw [show 0 + 1 + M = M + 1 from by omega, he]
      simp
    | succ k ih =>
      intro i acc hi ha
      rw [show k + 1 + 1 + M = (k + 1 + M) + 1 from by omega, List.range'_succ, List.filter_cons, hs i _ acc (by omega) ha]
      cases hp : p i with
      | true =>
        rw [cond_true, ih (i + 1) _ (by omega) (by simp; omega)]
        simp
      | false =>
        rw [cond_false, ih (i + 1) _ (by omega) (by omega)]
        simp
  rw [hM, List.range_eq_range']
  exact h1 n 0 [] (by omega) (by simp)
theorem range_nth {α : Type} (a : List α) (d : α) : ((List.range a.length).filter fun _ => true).map (fun i : Nat => nthI a (i : Int) d) = a := by
  rw [List.filter_eq_self.2 (fun _ _ => rfl)]
  apply List.ext_getElem?
  intro i
  rw [List.getElem?_map]
  by_cases h : i < a.length
  · rw [List.getElem?_range h, List.getElem?_eq_getElem h, Option.map_some, nthI_nat, List.getD_eq_getElem?_getD, List.getElem?_eq_getElem h]
    rfl
  · rw [List.getElem?_eq_none (by simp; omega), List.getElem?_eq_none (by omega)]
    rfl
theorem copyLoop {α γ : Type} (F : Nat → Int → List α → Option γ) (a : List α) (d : α) (E : List α → Option γ) (hn : a.length ≤ 1000000000000)
    (hs : ∀ (i m : Nat) (acc : List α), i < a.length → acc.length ≤ i → F (m + 1) (i : Int) acc = F m ((i + 1 : Nat) : Int) (acc ++ [nthI a (i : Int) d]))
    (he : ∀ (m : Nat) (acc : List α), F (m + 1) (a.length : Int) acc = E acc) : F fu 0 [] = E a := by
  have := filterLoop F a.length (fun _ => true) (fun i => nthI a (i : Int) d) E hn (fun i m acc h1 h2 => hs i m acc h1 h2) he
  rw [this, range_nth]
theorem cloneInt_eq (a : List Int) (h : a.length ≤ 1048576) : G.slices.Clone_int a = some a := by
  unfold G.slices.Clone_int
  by_cases h0 : a.length = 0
  · obtain rfl := List.eq_nil_of_length_eq_zero h0
    rw [cdp h0, cdp (by simp only [List.length_nil]; omega)]
    exact same_self _
  · rw [cdn h0, List.nil_append, cdp (by simp only [List.length_nil]; omega)]
theorem l08Copy_eq (a1 a2 a3 a4 a5 a6 : Int) (a7 : Bool) (a8 : List Int) (h : a8.length ≤ 1048576) : S.l08Copy a1 a2 a3 a4 a5 a6 a7 a8 = some (a1, a2, a3, a4, a5, a6, a7, a8) := by
  unfold S.l08Copy
  rw [List.nil_append, cdp (by simp only [List.length_nil]; omega)]
theorem paneCopied_eq (a1 a2 a3 a4 a5 a6 : Int) (a7 : Bool) (a8 : List Int) (h : a8.length ≤ 1048576) : I.Pane_copied a1 a2 a3 a4 a5 a6 a7 a8 = some (a1, a2, a3, a4, a5, a6, a7, a8) := by
  unfold I.Pane_copied
  rw [cloneInt_eq a8 h, Option.bind_some]
theorem like_refl : ∀ (s : Sh) (y : s.hsh.den), s.like y y
  | .int _, _ => trivial
  | .bool, _ => trivial
  | .str, _ => trivial
  | .rs _ _, _ => trivial
  | .hr _ _, _ => trivial
  | .hv, _ => trivial
  | .sl _ _, _ => rfl
  | .pair a b, y => ⟨like_refl a y.1, like_refl b y.2⟩
theorem heads_zero : ∀ (s : Sh), s.wh = 0 → ∀ (y : s.hsh.den), s.heads y = []
  | .int _, _, _ => rfl
  | .bool, _, _ => rfl
  | .str, _, _ => rfl
  | .rs _ _, _, _ => rfl
  | .hr _ _, _, _ => rfl
  | .hv, _, _ => rfl
  | .sl _ _, h, _ => by cases h
  | .pair a b, h, y => by
    have h : a.wh + b.wh = 0 := h
    show a.heads y.1 ++ b.heads y.2 = []
    rw [heads_zero a (by omega), heads_zero b (by omega)]
    rfl
theorem heads_att : ∀ (s : Sh), s.wh = 1 → ∀ (h : HD) (x : s.den), s.heads (s.att h x) = [h]
  | .int _, h, _, _ => by cases h
  | .bool, h, _, _ => by cases h
  | .str, h, _, _ => by cases h
  | .rs _ _, h, _, _ => by cases h
  | .hr _ _, h, _, _ => by cases h
  | .hv, h, _, _ => by cases h
  | .sl _ _, _, _, _ => rfl
  | .pair a b, h, hd, x => by
    have h : a.wh + b.wh = 1 := h
    show a.heads (a.att hd x.1) ++ b.heads (b.att hd x.2) = [hd]
    rcases Nat.eq_zero_or_pos a.wh with ha | ha
    · rw [heads_zero a ha, heads_att b (by omega)]
      rfl
    · rw [heads_att a (by omega), heads_zero b (by omega)]
      rfl
theorem bare_att : ∀ (s : Sh) (h : HD) (x : s.den), s.bare (s.att h x) = x
  | .int _, _, _ => rfl
  | .bool, _, _ => rfl
  | .str, _, _ => rfl
  | .rs _ _, _, _ => rfl
  | .hr _ _, _, _ => rfl
  | .hv, _, _ => rfl
  | .sl _ _, _, _ => rfl
  | .pair a b, h, x => by
    show (a.bare (a.att h x.1), b.bare (b.att h x.2)) = x
    rw [bare_att a, bare_att b]
    rfl
theorem zip_heads (s : Sh) (hw : s.wh = 1) : ∀ (hs : List HD) (xs : List s.den), hs.length = xs.length → (List.zipWith s.att hs xs).flatMap s.heads = hs
  | [], [], _ => rfl
  | h :: hs, x :: xs, hl => by
    rw [List.zipWith_cons_cons, List.flatMap_cons, heads_att s hw, zip_heads s hw hs xs (by simpa using hl)]
    rfl
theorem zip_bare (s : Sh) : ∀ (hs : List HD) (xs : List s.den), hs.length = xs.length → (List.zipWith s.att hs xs).map s.bare = xs
  | [], [], _ => rfl
  | h :: hs, x :: xs, hl => by
    rw [List.zipWith_cons_cons, List.map_cons, bare_att, zip_bare s hs xs (by simpa using hl)]
theorem sub_flat {α β : Type} (f : α → List β) : ∀ {l1 l2 : List α}, List.Sublist l1 l2 → List.Sublist (l1.flatMap f) (l2.flatMap f) := by
  intro l1 l2 h
  induction h with
  | slnil => simp
  | cons x h ih => rw [List.flatMap_cons]; exact ih.trans (List.sublist_append_right _ _)
  | cons_cons x h ih => rw [List.flatMap_cons, List.flatMap_cons]; exact (List.Sublist.refl _).append ih
theorem thaw_part {s : Sh} (hw : s.wh = 1) {hs : List HD} {xs : List s.den} (hl : hs.length = xs.length) (hn : (hs.filterMap HD.blk).Nodup) {ys l : List s.hsh.den} (hp : ys.Perm l) (hsub : l.Sublist (List.zipWith s.att hs xs)) : thawOk s (List.zipWith s.att hs xs) ys := by
  refine ⟨fun y hy => ⟨y, hsub.subset (hp.mem_iff.1 hy), like_refl s y⟩, ?_⟩
  have h1 : (ys.flatMap s.heads).Perm (l.flatMap s.heads) := hp.flatMap_right _
  have h2 := sub_flat s.heads hsub
  rw [zip_heads s hw hs xs hl] at h2
  exact (h1.filterMap HD.blk).nodup_iff.2 (hn.sublist (h2.filterMap HD.blk))
theorem idxLoop {γ : Type} (F : Nat → Int → Option γ) (n : Nat) (p : Nat → Bool) (E1 : Int → Option γ) (E0 : Option γ) (hn : n ≤ 1000000000000)
    (hs : ∀ (i m : Nat), i < n → F (m + 1) (i : Int) = bif p i then E1 (i : Int) else F m ((i + 1 : Nat) : Int)) (he : ∀ m : Nat, F (m + 1) (n : Int) = E0) :
    (∃ i, i < n ∧ p i = true ∧ (∀ j, j < i → p j = false) ∧ F fu 0 = E1 (i : Int)) ∨ ((∀ j, j < n → p j = false) ∧ F fu 0 = E0) := by
  obtain ⟨M, hM⟩ := fu_ge n hn
  have h1 : ∀ k i : Nat, i + k = n → (∀ j, j < i → p j = false) → (∃ i', i' < n ∧ p i' = true ∧ (∀ j, j < i' → p j = false) ∧ F (k + 1 + M) (i : Int) = E1 (i' : Int)) ∨ ((∀ j, j < n → p j = false) ∧ F (k + 1 + M) (i : Int) = E0) := by
    intro k
    induction k with
    | zero =>
      intro i hi hb
      obtain rfl : i = n := by omega
      exact .inr ⟨hb, by rw [show 0 + 1 + M = M + 1 from by omega, he]⟩
    | succ k ih =>
      intro i hi hb
      rw [show k + 1 + 1 + M = (k + 1 + M) + 1 from by omega, hs i _ (by omega)]
      cases hp : p i with
      | true => exact .inl ⟨i, by omega, hp, hb, rfl⟩
      | false =>
        rw [cond_false]
        refine ih (i + 1) (by omega) fun j hj => ?_
        rcases Nat.lt_or_ge j i with h | h
        · exact hb j h
        · obtain rfl : j = i := by omega
          exact hp
  rw [hM]
  exact h1 n 0 (by omega) (fun j hj => by omega)
theorem set_take {α : Type} (s : List α) (i : Nat) (x : α) (h : i < s.length) : (s.set i x).take (i + 1) = s.take i ++ [x] := by
  rw [List.take_add_one, List.take_set, List.getElem?_set_self h]
  congr 1
  rw [List.set_eq_of_length_le (by rw [List.length_take]; omega)]
theorem delLoop {α γ : Type} (F : Nat → Int → Int → List α → Option γ) (z : List α) (keep : α → Bool) (d : α) (E : Int → List α → Option γ) (hn : z.length ≤ 1000000000000)
    (hs : ∀ (i j m : Nat) (s : List α), i < j → j < z.length → s.length = z.length → F (m + 1) (i : Int) (j : Int) s = bif keep (nthI s (j : Int) d) then F m ((i + 1 : Nat) : Int) ((j + 1 : Nat) : Int) (s.set i (nthI s (j : Int) d)) else F m (i : Int) ((j + 1 : Nat) : Int) s)
    (he : ∀ (i m : Nat) (s : List α), i ≤ z.length → s.length = z.length → F (m + 1) (i : Int) (z.length : Int) s = E (i : Int) s)
    (i0 : Nat) (h0 : i0 < z.length) (hk : ∀ j, j < i0 → keep (nthI z (j : Int) d) = true) (hd : keep (nthI z (i0 : Int) d) = false) :
    ∃ (i : Nat) (s : List α), i ≤ z.length ∧ s.length = z.length ∧ s.take i = z.filter keep ∧ F fu (i0 : Int) ((i0 + 1 : Nat) : Int) z = E (i : Int) s := by
  obtain ⟨M, hM⟩ := fu_ge (z.length - (i0 + 1)) (by omega)
  have nth : ∀ (s : List α) (j : Nat), j < s.length → s[j]? = some (nthI s (j : Int) d) := by
    intro s j hj
    rw [nthI_nat, List.getD_eq_getElem?_getD, List.getElem?_eq_getElem hj]
    rfl
  have h1 : ∀ k i j : Nat, ∀ s : List α, j + k = z.length → i < j → s.length = z.length → s.take i = (z.take j).filter keep → s.drop j = z.drop j →
      ∃ (i' : Nat) (s' : List α), i' ≤ z.length ∧ s'.length = z.length ∧ s'.take i' = z.filter keep ∧ F (k + 1 + M) (i : Int) (j : Int) s = E (i' : Int) s' := by
    intro k
    induction k with
    | zero =>
      intro i j s hj hij hl ht hd
      obtain rfl : j = z.length := by omega
      rw [List.take_length] at ht
      exact ⟨i, s, by omega, hl, ht, by rw [show 0 + 1 + M = M + 1 from by omega, he i _ s (by omega) hl]⟩
    | succ k ih =>
      intro i j s hj hij hl ht hd
      have hx : nthI s (j : Int) d = nthI z (j : Int) d := by
        have h2 := nth s j (by omega)
        have h3 := nth z j (by omega)
        have h4 : s[j]? = z[j]? := by
          have := congrArg (fun l => l[0]?) hd
          simpa using this
        rw [h2, h3] at h4
        injection h4
      have hz : (z.take (j + 1)).filter keep = (z.take j).filter keep ++ (if keep (nthI z (j : Int) d) = true then [nthI z (j : Int) d] else []) := by
        rw [List.take_add_one, nth z j (by omega), List.filter_append]
        congr 1
        show List.filter keep [_] = _
        rw [List.filter_cons]
        rfl
      have hdr : z.drop (j + 1) = s.drop (j + 1) := by
        have := congrArg (List.drop 1) hd
        rw [List.drop_drop, List.drop_drop] at this
        exact this.symm
      rw [show k + 1 + 1 + M = (k + 1 + M) + 1 from by omega, hs i j _ s hij (by omega) hl, hx]
      cases hp : keep (nthI z (j : Int) d) with
      | true =>
        rw [cond_true]
        refine ih (i + 1) (j + 1) _ (by omega) (by omega) (by rw [List.length_set]; exact hl) ?_ ?_
        · rw [set_take s i _ (by omega), ht, hz, hp, if_pos rfl]
        · rw [List.drop_set_of_lt (by omega)]
          exact hdr.symm
      | false =>
        rw [cond_false]
        refine ih i (j + 1) s (by omega) (by omega) hl ?_ hdr.symm
        rw [ht, hz, hp, if_neg (by simp), List.append_nil]
  have hall : (z.take i0).filter keep = z.take i0 := by
    rw [List.filter_eq_self]
    intro x hx
    obtain ⟨j, hj, rfl⟩ := List.getElem_of_mem hx
    rw [List.length_take] at hj
    have h2 := nth z j (by omega)
    rw [List.getElem?_eq_getElem (by omega)] at h2
    injection h2 with h2
    rw [List.getElem_take, h2]
    exact hk j (by omega)
  have h2 := h1 (z.length - (i0 + 1)) i0 (i0 + 1) z (by omega) (by omega) rfl (by
    rw [List.take_add_one, nth z i0 h0, List.filter_append, hall]
    show _ = _ ++ List.filter keep [_]
    rw [List.filter_cons, if_neg (by rw [hd]; simp)]
    simp) rfl
  rw [hM]
  exact h2
structure Wk {α : Type} (lt : α → α → Bool) : Prop where
  asy : ∀ a b, lt a b = true → lt b a = false
  tr : ∀ a b c, lt a b = false → lt b c = false → lt a c = false
abbrev Srt {α : Type} (lt : α → α → Bool) (xs : List α) : Prop := xs.Pairwise fun a b => lt b a = false
def alk {α : Type} (lt : α → α → Bool) (x y : α) : Bool := !lt x y && !lt y x
def Sam {α : Type} (lt : α → α → Bool) (xs ys : List α) : Prop := ∀ x, xs.filter (alk lt x) = ys.filter (alk lt x)
section
variable {α : Type} {lt : α → α → Bool}
theorem Wk.irr (h : Wk lt) (a : α) : lt a a = false := by
  cases e : lt a a with
  | false => rfl
  | true => exact absurd (h.asy a a e) (by rw [e]; simp)
theorem alk_refl (h : Wk lt) (a : α) : alk lt a a = true := by simp [alk, h.irr a]
theorem Sam.refl (xs : List α) : Sam lt xs xs := fun _ => rfl
theorem Sam.symm {xs ys : List α} (h : Sam lt xs ys) : Sam lt ys xs := fun x => (h x).symm
theorem Sam.trans {xs ys zs : List α} (h : Sam lt xs ys) (k : Sam lt ys zs) : Sam lt xs zs := fun x => (h x).trans (k x)
theorem Sam.app {xs ys xs' ys' : List α} (h : Sam lt xs xs') (k : Sam lt ys ys') : Sam lt (xs ++ ys) (xs' ++ ys') := fun x => by
  rw [List.filter_append, List.filter_append, h x, k x]
theorem Sam.swap (w : Wk lt) {us vs : List α} (h : ∀ u ∈ us, ∀ v ∈ vs, lt v u = true) : Sam lt (us ++ vs) (vs ++ us) := fun x => by
  rw [List.filter_append, List.filter_append]
  by_cases hu : us.filter (alk lt x) = []
  · rw [hu]; simp
  · have hv : vs.filter (alk lt x) = [] := by
      rw [List.filter_eq_nil_iff]
      intro v hv hxv
      obtain ⟨u, hu⟩ := List.exists_mem_of_ne_nil _ hu
      rw [List.mem_filter] at hu
      have h1 := h u hu.1 v hv
      have h2 := hu.2
      simp only [alk, Bool.and_eq_true, Bool.not_eq_true'] at h2 hxv
      rw [w.tr v x u hxv.2 h2.1] at h1
      cases h1
    rw [hv]; simp
theorem Sam.mem (w : Wk lt) {xs ys : List α} (h : Sam lt xs ys) {x : α} (hx : x ∈ xs) : x ∈ ys := by
  have : x ∈ xs.filter (alk lt x) := List.mem_filter.2 ⟨hx, alk_refl w x⟩
  rw [h x] at this
  exact (List.mem_filter.1 this).1
theorem Sam.uniq (w : Wk lt) : ∀ {xs ys : List α}, Srt lt xs → Srt lt ys → Sam lt xs ys → xs = ys
  | [], [], _, _, _ => rfl
  | [], y :: ys, _, _, h => by cases h.symm.mem w (List.mem_cons_self ..)
  | x :: xs, [], _, _, h => by cases h.mem w (List.mem_cons_self ..)
  | x :: xs, y :: ys, hx, hy, h => by
    have h1 := h.mem w (List.mem_cons_self ..)
    have h2 := h.symm.mem w (List.mem_cons_self ..)
    have hx' := List.pairwise_cons.1 hx
    have hy' := List.pairwise_cons.1 hy
    have e1 : lt x y = false := by
      rcases List.mem_cons.1 h1 with e | e
      · rw [e]; exact w.irr y
      · exact hy'.1 x e
    have e2 : lt y x = false := by
      rcases List.mem_cons.1 h2 with e | e
      · rw [e]; exact w.irr x
      · exact hx'.1 y e
    have ha : alk lt x y = true := by simp [alk, e1, e2]
    have hxy : x = y := by
      have := h x
      rw [List.filter_cons, List.filter_cons, ha, alk_refl w x] at this
      simp only [if_true] at this
      exact (List.cons.inj this).1
    subst hxy
    congr 1
    refine Sam.uniq w hx'.2 hy'.2 fun z => ?_
    have := h z
    rw [List.filter_cons, List.filter_cons] at this
    split at this
    · exact (List.cons.inj this).2
    · exact this
theorem Sam.perm (w : Wk lt) {xs ys : List α} (h : Sam lt xs ys) : xs.Perm ys := by
  classical
  rw [List.perm_iff_count]
  intro x
  have hc : ∀ l : List α, (l.filter (alk lt x)).count x = l.count x := fun l => List.count_filter (alk_refl w x)
  rw [← hc xs, ← hc ys, h x]
def ins (lt : α → α → Bool) (s : List α) (v : α) : List α := (s.reverse.dropWhile fun t => lt v t).reverse ++ v :: (s.reverse.takeWhile fun t => lt v t).reverse
def isort (lt : α → α → Bool) (xs : List α) : List α := xs.foldl (ins lt) []
theorem ins_split (s : List α) (v : α) : ∃ s1 s2, s = s1 ++ s2 ∧ ins lt s v = s1 ++ v :: s2 ∧ (∀ t ∈ s2, lt v t = true) ∧ ∀ t s1', s1 = s1' ++ [t] → lt v t = false := by
  refine ⟨(s.reverse.dropWhile fun t => lt v t).reverse, (s.reverse.takeWhile fun t => lt v t).reverse, ?_, rfl, ?_, ?_⟩
  · rw [← List.reverse_append, List.takeWhile_append_dropWhile, List.reverse_reverse]
  · intro t ht
    rw [List.mem_reverse] at ht
    exact (List.all_eq_true.1 (List.all_takeWhile (p := fun t => lt v t) (l := s.reverse))) t ht
  · intro t s1' he
    have he2 : (s.reverse.dropWhile fun t => lt v t) = t :: s1'.reverse := by
      rw [← List.reverse_reverse (s.reverse.dropWhile fun t => lt v t), he]; simp
    have := List.head?_dropWhile_not (fun t => lt v t) s.reverse
    rw [he2] at this
    simpa using this
theorem ins_sam (w : Wk lt) (s : List α) (v : α) : Sam lt (s ++ [v]) (ins lt s v) := by
  obtain ⟨s1, s2, he, hi, h2, _⟩ := ins_split (lt := lt) s v
  rw [hi, he, List.append_assoc]
  refine (Sam.refl s1).app ?_
  exact Sam.swap w (us := s2) (vs := [v]) fun u hu x hx => by rw [List.mem_singleton.1 hx]; exact h2 u hu
theorem ins_srt (w : Wk lt) (s : List α) (v : α) (h : Srt lt s) : Srt lt (ins lt s v) := by
  obtain ⟨s1, s2, he, hi, h2, h1⟩ := ins_split (lt := lt) s v
  rw [he] at h
  have hp := List.pairwise_append.1 h
  have h1' : ∀ t ∈ s1, lt v t = false := by
    intro t ht
    rcases List.eq_nil_or_concat s1 with e | ⟨s1', z, e⟩
    · rw [e] at ht; cases ht
    · rw [List.concat_eq_append] at e
      have hz := h1 z s1' e
      rw [e] at ht
      rcases List.mem_append.1 ht with hm | hm
      · rw [e] at hp
        have := (List.pairwise_append.1 hp.1).2.2 t hm z (List.mem_singleton.2 rfl)
        exact w.tr v z t hz this
      · rw [List.mem_singleton.1 hm]; exact hz
  rw [hi]
  refine List.pairwise_append.2 ⟨hp.1, List.pairwise_cons.2 ⟨fun t ht => w.asy v t (h2 t ht), hp.2.1⟩, fun a ha b hb => ?_⟩
  rcases List.mem_cons.1 hb with e | e
  · rw [e]; exact h1' a ha
  · exact hp.2.2 a ha b e
theorem isort_aux (w : Wk lt) : ∀ (xs s : List α), Srt lt s → Srt lt (xs.foldl (ins lt) s) ∧ Sam lt (s ++ xs) (xs.foldl (ins lt) s)
  | [], s, h => ⟨h, by rw [List.append_nil]; exact Sam.refl s⟩
  | x :: xs, s, h => by
    have := isort_aux w xs (ins lt s x) (ins_srt w s x h)
    refine ⟨this.1, ?_⟩
    rw [List.foldl_cons, show s ++ x :: xs = (s ++ [x]) ++ xs from by simp]
    exact ((ins_sam w s x).app (Sam.refl xs)).trans this.2
theorem isort_srt (w : Wk lt) (xs : List α) : Srt lt (isort lt xs) := (isort_aux w xs [] List.Pairwise.nil).1
theorem isort_sam (w : Wk lt) (xs : List α) : Sam lt xs (isort lt xs) := (isort_aux w xs [] List.Pairwise.nil).2
theorem isort_uniq (w : Wk lt) {xs ys : List α} (h : Srt lt ys) (hs : Sam lt xs ys) : ys = isort lt xs := Sam.uniq w h (isort_srt w xs) (hs.symm.trans (isort_sam w xs))
theorem isort_perm (w : Wk lt) (xs : List α) : xs.Perm (isort lt xs) := (isort_sam w xs).perm w
theorem isort_len (w : Wk lt) (xs : List α) : (isort lt xs).length = xs.length := (isort_perm w xs).length_eq.symm
theorem isort_srt_eq (w : Wk lt) {xs : List α} (h : Srt lt xs) : isort lt xs = xs := (isort_uniq w h (Sam.refl xs)).symm
end
def swp {α : Type} (d : α) (xs : List α) (i j : Nat) : List α := (xs.set i (xs.getD j d)).set j (xs.getD i d)
section
variable {α : Type} {lt : α → α → Bool} (d : α)
theorem get_at (p : List α) (x : α) (q : List α) : (p ++ x :: q).getD p.length d = x := by simp [List.getD_eq_getElem?_getD]
theorem get_at' (p : List α) (x : α) (q : List α) {i : Nat} (h : i = p.length) : (p ++ x :: q).getD i d = x := by rw [h]; exact get_at d p x q
theorem set_at (p : List α) (x y : α) (q : List α) : (p ++ x :: q).set p.length y = p ++ y :: q := by
  rw [List.set_append_right _ _ (Nat.le_refl _), Nat.sub_self]; rfl
theorem set_at' (p : List α) (x y : α) (q : List α) {i : Nat} (h : i = p.length) : (p ++ x :: q).set i y = p ++ y :: q := by rw [h]; exact set_at p x y q
theorem swp_at (p m q : List α) (x y : α) {i j : Nat} (hi : i = p.length) (hj : j = p.length + 1 + m.length) : swp d (p ++ x :: (m ++ y :: q)) i j = p ++ y :: (m ++ x :: q) := by
  unfold swp
  have e1 : (p ++ x :: (m ++ y :: q)).getD j d = y := by
    rw [show p ++ x :: (m ++ y :: q) = (p ++ x :: m) ++ y :: q from by simp]
    exact get_at' d _ y q (by simp; omega)
  rw [e1, get_at' d p x _ hi, set_at' p x y _ hi, show p ++ y :: (m ++ y :: q) = (p ++ y :: m) ++ y :: q from by simp, set_at' (p ++ y :: m) y x q (by simp; omega)]
  simp
theorem swp_at2 (p m q : List α) (x y : α) {i j : Nat} (hi : i = p.length) (hj : j = p.length + 1 + m.length) : swp d (p ++ x :: (m ++ y :: q)) j i = p ++ y :: (m ++ x :: q) := by
  unfold swp
  have e1 : (p ++ x :: (m ++ y :: q)).getD j d = y := by
    rw [show p ++ x :: (m ++ y :: q) = (p ++ x :: m) ++ y :: q from by simp]
    exact get_at' d _ y q (by simp; omega)
  rw [e1, get_at' d p x _ hi, show p ++ x :: (m ++ y :: q) = (p ++ x :: m) ++ y :: q from by simp, set_at' (p ++ x :: m) y x q (by simp; omega), show (p ++ x :: m) ++ x :: q = p ++ x :: (m ++ x :: q) from by simp, set_at' p x y _ hi]
theorem swp_len (xs : List α) (i j : Nat) : (swp d xs i j).length = xs.length := by simp [swp]
theorem insLoop {γ : Type} (F : Nat → Nat → List α → Option γ) (E : List α → Option γ) (p : List α) (v : α) (n : Nat)
    (hs : ∀ (j m : Nat) (xs : List α), p.length < j → j < xs.length → xs.length = n → F (m + 1) j xs = bif lt (xs.getD j d) (xs.getD (j - 1) d) then F m (j - 1) (swp d xs j (j - 1)) else E xs)
    (he : ∀ (m : Nat) (xs : List α), xs.length = n → F (m + 1) p.length xs = E xs) : ∀ (k m : Nat) (s q : List α), s.length = k → (p ++ (s ++ v :: q)).length = n → F (k + 1 + m) (p.length + k) (p ++ (s ++ v :: q)) = E (p ++ (ins lt s v ++ q)) := by
  intro k
  induction k with
  | zero =>
    intro m s q hk hn
    obtain rfl : s = [] := List.length_eq_zero_iff.1 hk
    rw [show 0 + 1 + m = m + 1 from by omega, show p.length + 0 = p.length from rfl, he _ _ hn]
    simp [ins]
  | succ k ih =>
    intro m s q hk hn
    rcases List.eq_nil_or_concat s with e | ⟨s', t, e⟩
    · rw [e] at hk; cases hk
    rw [List.concat_eq_append] at e
    subst e
    have hk' : s'.length = k := by simpa using hk
    have e0 : p ++ ((s' ++ [t]) ++ v :: q) = (p ++ s') ++ t :: ([] ++ v :: q) := by simp
    have e1 : (p ++ ((s' ++ [t]) ++ v :: q)).getD (p.length + (k + 1)) d = v := by
      rw [show p ++ ((s' ++ [t]) ++ v :: q) = (p ++ s' ++ [t]) ++ v :: q from by simp]
      exact get_at' d _ _ _ (by simp; omega)
    have e2 : (p ++ ((s' ++ [t]) ++ v :: q)).getD (p.length + (k + 1) - 1) d = t := by
      rw [e0]
      exact get_at' d _ _ _ (by simp; omega)
    rw [show k + 1 + 1 + m = (k + 1 + m) + 1 from by omega, hs _ _ _ (by omega) (by simp; omega) hn, e1, e2]
    cases hv : lt v t with
    | true =>
      have e3 : swp d (p ++ ((s' ++ [t]) ++ v :: q)) (p.length + (k + 1)) (p.length + (k + 1) - 1) = p ++ (s' ++ v :: (t :: q)) := by
        rw [e0, swp_at2 d (p ++ s') [] q t v (by simp; omega) (by simp; omega)]
        simp
      rw [cond_true, e3, show p.length + (k + 1) - 1 = p.length + k from by omega, ih m s' (t :: q) hk' (by rw [← hn]; simp <;> omega)]
      simp [ins, hv]
    | false =>
      rw [cond_false]
      simp [ins, hv]
theorem isortLoop {γ : Type} (F : Nat → Nat → List α → Option γ) (E : List α → Option γ) (p : List α) (b n : Nat)
    (hs : ∀ (m : Nat) (s q : List α) (v : α), s ≠ [] → p.length + s.length < b → (p ++ (s ++ v :: q)).length = n → F (m + 1) (p.length + s.length) (p ++ (s ++ v :: q)) = F m (p.length + s.length + 1) (p ++ (ins lt s v ++ q)))
    (he : ∀ (i m : Nat) (xs : List α), b ≤ i → xs.length = n → F (m + 1) i xs = E xs) : ∀ (r : List α) (m : Nat) (s q : List α), s ≠ [] → b = p.length + s.length + r.length → (p ++ (s ++ (r ++ q))).length = n → F (r.length + 1 + m) (p.length + s.length) (p ++ (s ++ (r ++ q))) = E (p ++ (r.foldl (ins lt) s ++ q)) := by
  intro r
  induction r with
  | nil =>
    intro m s q h0 hb hn
    rw [show ([] : List α).length + 1 + m = m + 1 from by simp; omega, he _ _ _ (by simp at hb; omega) hn]
    rfl
  | cons v r ih =>
    intro m s q h0 hb hn
    have hl : (ins lt s v).length = s.length + 1 := by
      obtain ⟨s1, s2, e, hi, _, _⟩ := ins_split (lt := lt) s v
      rw [hi, e]; simp; omega
    rw [List.length_cons, show r.length + 1 + 1 + m = (r.length + 1 + m) + 1 from by omega, show s ++ (v :: r ++ q) = s ++ v :: (r ++ q) from by simp, hs _ _ _ _ h0 (by simp at hb; omega) (by rw [← hn]; simp)]
    have := ih m (ins lt s v) q (by intro h; rw [h] at hl; cases hl) (by rw [hl]; simp at hb; omega) (by rw [← hn]; simp <;> omega)
    rw [hl, ← Nat.add_assoc] at this
    rw [this]
    rfl
theorem bsLoop {γ : Type} (F : Nat → Nat → Nat → Option γ) (E : Nat → Option γ) (P : Nat → Bool) (lo hi : Nat)
    (hmono : ∀ x y, lo ≤ x → x ≤ y → y < hi → P x = false → P y = false)
    (hs : ∀ (i j m : Nat), lo ≤ i → i < j → j ≤ hi → F (m + 1) i j = bif P ((i + j) / 2) then F m ((i + j) / 2 + 1) j else F m i ((i + j) / 2))
    (he : ∀ (i m : Nat), F (m + 1) i i = E i) : ∀ (k i j m : Nat), j - i = k → lo ≤ i → i ≤ j → j ≤ hi → (∀ x, lo ≤ x → x < i → P x = true) → (∀ x, j ≤ x → x < hi → P x = false) → ∃ c, i ≤ c ∧ c ≤ j ∧ (∀ x, lo ≤ x → x < c → P x = true) ∧ (∀ x, c ≤ x → x < hi → P x = false) ∧ F (k + 1 + m) i j = E c := by
  intro k
  induction k using Nat.strongRecOn with
  | ind k ih =>
    intro i j m hk h1 h2 h3 hA hB
    rcases Nat.lt_or_ge i j with h | h
    · rw [show k + 1 + m = (k + m) + 1 from by omega, hs i j _ h1 h h3]
      have ha : i ≤ (i + j) / 2 := by omega
      have hb : (i + j) / 2 < j := by omega
      cases hp : P ((i + j) / 2) with
      | true =>
        rw [cond_true]
        obtain ⟨c, c1, c2, c3, c4, c5⟩ := ih (j - ((i + j) / 2 + 1)) (by omega) ((i + j) / 2 + 1) j (k + m - (j - ((i + j) / 2 + 1)) - 1) rfl (by omega) (by omega) h3 (fun x hx1 hx2 => by
          cases hq : P x with
          | true => rfl
          | false => rw [hmono x ((i + j) / 2) hx1 (by omega) (by omega) hq] at hp; cases hp) hB
        refine ⟨c, by omega, c2, c3, c4, ?_⟩
        rw [← c5]; congr 1; omega
      | false =>
        rw [cond_false]
        obtain ⟨c, c1, c2, c3, c4, c5⟩ := ih ((i + j) / 2 - i) (by omega) i ((i + j) / 2) (k + m - ((i + j) / 2 - i) - 1) rfl (by omega) (by omega) (by omega) hA (fun x hx1 hx2 => hmono ((i + j) / 2) x (by omega) hx1 hx2 hp)
        refine ⟨c, by omega, by omega, c3, c4, ?_⟩
        rw [← c5]; congr 1; omega
    · obtain rfl : i = j := by omega
      exact ⟨i, Nat.le_refl _, Nat.le_refl _, hA, hB, by rw [show k + 1 + m = (k + m) + 1 from by omega, he]⟩
theorem rightLoop {γ : Type} (F : Nat → Nat → List α → Option γ) (E : List α → Option γ) (p : List α) (x : α) (c n : Nat)
    (hs : ∀ (k m : Nat) (xs : List α), p.length ≤ k → k + 1 < c → xs.length = n → F (m + 1) k xs = F m (k + 1) (swp d xs k (k + 1)))
    (he : ∀ (k m : Nat) (xs : List α), c ≤ k + 1 → xs.length = n → F (m + 1) k xs = E xs) : ∀ (v : List α) (m : Nat) (u q : List α), c = p.length + u.length + 1 + v.length → (p ++ (u ++ x :: (v ++ q))).length = n → F (v.length + 1 + m) (p.length + u.length) (p ++ (u ++ x :: (v ++ q))) = E (p ++ (u ++ (v ++ x :: q))) := by
  intro v
  induction v with
  | nil =>
    intro m u q hc hn
    rw [show ([] : List α).length + 1 + m = m + 1 from by simp; omega, he _ _ _ (by simp at hc; omega) hn]
    rfl
  | cons y v ih =>
    intro m u q hc hn
    rw [List.length_cons] at hc
    rw [List.length_cons, show v.length + 1 + 1 + m = (v.length + 1 + m) + 1 from by omega, hs _ _ _ (by omega) (by omega) hn]
    have e3 : swp d (p ++ (u ++ x :: (y :: v ++ q))) (p.length + u.length) (p.length + u.length + 1) = p ++ ((u ++ [y]) ++ x :: (v ++ q)) := by
      rw [show p ++ (u ++ x :: (y :: v ++ q)) = (p ++ u) ++ x :: ([] ++ y :: (v ++ q)) from by simp, swp_at d (p ++ u) [] (v ++ q) x y (by simp) (by simp)]
      simp
    have := ih m (u ++ [y]) q (by simp; omega) (by rw [← hn]; simp <;> omega)
    rw [show p.length + (u ++ [y]).length = p.length + u.length + 1 from by simp; omega] at this
    rw [e3, this]
    simp
theorem leftLoop {γ : Type} (F : Nat → Nat → List α → Option γ) (E : List α → Option γ) (p : List α) (x : α) (n : Nat)
    (hs : ∀ (k m : Nat) (xs : List α), p.length < k → k < n → xs.length = n → F (m + 1) k xs = F m (k - 1) (swp d xs k (k - 1)))
    (he : ∀ (m : Nat) (xs : List α), xs.length = n → F (m + 1) p.length xs = E xs) : ∀ (k m : Nat) (v q : List α), v.length = k → (p ++ (v ++ x :: q)).length = n → F (k + 1 + m) (p.length + k) (p ++ (v ++ x :: q)) = E (p ++ x :: (v ++ q)) := by
  intro k
  induction k with
  | zero =>
    intro m v q hk hn
    obtain rfl : v = [] := List.length_eq_zero_iff.1 hk
    rw [show 0 + 1 + m = m + 1 from by omega, show p.length + 0 = p.length from rfl, he _ _ hn]
    rfl
  | succ k ih =>
    intro m v q hk hn
    rcases List.eq_nil_or_concat v with e | ⟨v', t, e⟩
    · rw [e] at hk; cases hk
    rw [List.concat_eq_append] at e
    subst e
    have hk' : v'.length = k := by simpa using hk
    have e0 : p ++ ((v' ++ [t]) ++ x :: q) = (p ++ v') ++ t :: ([] ++ x :: q) := by simp
    have e3 : swp d (p ++ ((v' ++ [t]) ++ x :: q)) (p.length + (k + 1)) (p.length + (k + 1) - 1) = p ++ (v' ++ x :: (t :: q)) := by
      rw [e0, swp_at2 d (p ++ v') [] q t x (by simp; omega) (by simp; omega)]
      simp
    rw [show k + 1 + 1 + m = (k + 1 + m) + 1 from by omega, hs _ _ _ (by omega) (by rw [← hn]; simp <;> omega) hn, e3, show p.length + (k + 1) - 1 = p.length + k from by omega, ih m v' (t :: q) hk' (by rw [← hn]; simp <;> omega)]
    simp
theorem rangeLoop {γ : Type} (F : Nat → Nat → List α → Option γ) (E : List α → Option γ) (p : List α) (b c n : Nat)
    (hs : ∀ (i m : Nat) (xs : List α), i < c → xs.length = n → F (m + 1) i xs = F m (i + 1) (swp d xs (p.length + i) (b + i)))
    (he : ∀ (m : Nat) (xs : List α), xs.length = n → F (m + 1) c xs = E xs) : ∀ (U V U0 V0 M q : List α) (m : Nat), U.length = V.length → U0.length = V0.length → c = U0.length + U.length → b = p.length + c + M.length → (p ++ (V0 ++ (U ++ (M ++ (U0 ++ (V ++ q)))))).length = n → F (U.length + 1 + m) U0.length (p ++ (V0 ++ (U ++ (M ++ (U0 ++ (V ++ q)))))) = E (p ++ (V0 ++ (V ++ (M ++ (U0 ++ (U ++ q)))))) := by
  intro U
  induction U with
  | nil =>
    intro V U0 V0 M q m h1 h2 hc hb hn
    obtain rfl : V = [] := List.length_eq_zero_iff.1 (by simpa using h1.symm)
    rw [show ([] : List α).length + 1 + m = m + 1 from by simp; omega, show U0.length = c from by simp at hc; omega, he _ _ hn]
  | cons x U ih =>
    intro V U0 V0 M q m h1 h2 hc hb hn
    match V, h1 with
    | y :: V, h1 =>
      rw [List.length_cons] at hc
      rw [List.length_cons, show U.length + 1 + 1 + m = (U.length + 1 + m) + 1 from by omega, hs _ _ _ (by omega) hn]
      have e3 : swp d (p ++ (V0 ++ (x :: U ++ (M ++ (U0 ++ (y :: V ++ q)))))) (p.length + U0.length) (b + U0.length) = p ++ ((V0 ++ [y]) ++ (U ++ (M ++ ((U0 ++ [x]) ++ (V ++ q))))) := by
        rw [show p ++ (V0 ++ (x :: U ++ (M ++ (U0 ++ (y :: V ++ q))))) = (p ++ V0) ++ x :: ((U ++ (M ++ U0)) ++ y :: (V ++ q)) from by simp, swp_at d (p ++ V0) (U ++ (M ++ U0)) (V ++ q) x y (by simp; omega) (by simp; omega)]
        simp
      have := ih V (U0 ++ [x]) (V0 ++ [y]) M q m (by simpa using h1) (by simp; omega) (by simp; omega) hb (by rw [← hn]; simp <;> omega)
      rw [show (U0 ++ [x]).length = U0.length + 1 from by simp] at this
      rw [e3, this]
      simp
theorem rotLoop {γ : Type} (F : Nat → Nat → Nat → List α → Option γ) (E : List α → Option γ) (mid n : Nat)
    (hgt : ∀ (i j m : Nat) (p U M V q : List α), 0 < j → j < i → p.length + i = mid → U.length = j → V.length = j → M.length = i - j → (p ++ (U ++ (M ++ (V ++ q)))).length = n → F (m + 1) i j (p ++ (U ++ (M ++ (V ++ q)))) = F m (i - j) j (p ++ (V ++ (M ++ (U ++ q)))))
    (hlt : ∀ (i j m : Nat) (p U M V q : List α), 0 < i → i < j → p.length + i = mid → U.length = i → V.length = i → M.length = j - i → (p ++ (U ++ (M ++ (V ++ q)))).length = n → F (m + 1) i j (p ++ (U ++ (M ++ (V ++ q)))) = F m i (j - i) (p ++ (V ++ (M ++ (U ++ q)))))
    (he : ∀ (i m : Nat) (p U V q : List α), 0 < i → p.length + i = mid → U.length = i → V.length = i → (p ++ (U ++ (V ++ q))).length = n → F (m + 1) i i (p ++ (U ++ (V ++ q))) = E (p ++ (V ++ (U ++ q)))) :
    ∀ (k m : Nat) (p u v q : List α), u.length + v.length = k → 0 < u.length → 0 < v.length → p.length + u.length = mid → (p ++ (u ++ (v ++ q))).length = n → F (k + 1 + m) u.length v.length (p ++ (u ++ (v ++ q))) = E (p ++ (v ++ (u ++ q))) := by
  intro k
  induction k using Nat.strongRecOn with
  | ind k ih =>
    intro m p u v q hk hu hv hm hn
    rcases Nat.lt_trichotomy u.length v.length with h | h | h
    · obtain ⟨v1, v2, e, hl⟩ : ∃ v1 v2, v = v1 ++ v2 ∧ v2.length = u.length := ⟨v.take (v.length - u.length), v.drop (v.length - u.length), (List.take_append_drop _ _).symm, by simp; omega⟩
      have hvl : v.length = v1.length + v2.length := by rw [e]; simp
      have h1 := hlt u.length v.length (k + m) p u v1 v2 q hu h hm rfl hl (by omega) (by rw [← hn, e]; simp)
      rw [show k + 1 + m = (k + m) + 1 from by omega, show p ++ (u ++ (v ++ q)) = p ++ (u ++ (v1 ++ (v2 ++ q))) from by rw [e]; simp, h1]
      have h2 := ih (v2.length + v1.length) (by omega) (k + m - (v2.length + v1.length) - 1) p v2 v1 (u ++ q) rfl (by omega) (by omega) (by omega) (by rw [← hn, e]; simp; omega)
      rw [show v.length - u.length = v1.length from by omega, ← hl]
      rw [show v2.length + v1.length + 1 + (k + m - (v2.length + v1.length) - 1) = k + m from by omega] at h2
      rw [h2, e]
      simp
    · have h1 := he u.length (k + m) p u v q hu hm rfl h.symm hn
      rw [show k + 1 + m = (k + m) + 1 from by omega, ← h, h1]
    · obtain ⟨u1, u2, e, hl⟩ : ∃ u1 u2, u = u1 ++ u2 ∧ u1.length = v.length := ⟨u.take v.length, u.drop v.length, (List.take_append_drop _ _).symm, by simp; omega⟩
      have hul : u.length = u1.length + u2.length := by rw [e]; simp
      have h1 := hgt u.length v.length (k + m) p u1 u2 v q hv h hm hl rfl (by omega) (by rw [← hn, e]; simp)
      rw [show k + 1 + m = (k + m) + 1 from by omega, show p ++ (u ++ (v ++ q)) = p ++ (u1 ++ (u2 ++ (v ++ q))) from by rw [e]; simp, h1]
      have h2 := ih (u2.length + u1.length) (by omega) (k + m - (u2.length + u1.length) - 1) (p ++ v) u2 u1 q rfl (by omega) (by omega) (by simp; omega) (by rw [← hn, e]; simp; omega)
      rw [show u.length - v.length = u2.length from by omega, ← hl]
      rw [show u2.length + u1.length + 1 + (k + m - (u2.length + u1.length) - 1) = k + m from by omega] at h2
      rw [show p ++ (v ++ (u2 ++ (u1 ++ q))) = (p ++ v) ++ (u2 ++ (u1 ++ q)) from by simp, h2, e]
      simp
end
abbrev HPane := Int × Int × Int × Int × Int × Int × (HD × List Int) × Bool
abbrev hP0 : HPane := ((0 : Int), ((0 : Int), ((0 : Int), ((0 : Int), ((0 : Int), ((0 : Int), ((((none, 0, 0) : HD), []), false)))))))
abbrev shP : Sh := (.pair (.int .i64) (.pair (.int .i64) (.pair (.int .i64) (.pair (.int .i64) (.pair (.int .i64) (.pair (.int .i64) (.pair (.sl 3 (.int .i64)) .bool)))))))
abbrev shPh : Sh := (.pair (.int .i64) (.pair (.int .i64) (.pair (.int .i64) (.pair (.int .i64) (.pair (.int .i64) (.pair (.int .i64) (.pair (.hr 3 (.int .i64)) .bool)))))))
def lt4 (a b c d a' b' c' d' : Int) : Bool := decide (a < a' ∨ (a = a' ∧ (b < b' ∨ (b = b' ∧ (c < c' ∨ (c = c' ∧ d < d'))))))
def ltH (x y : HPane) : Bool := lt4 x.1 x.2.1 x.2.2.1 x.2.2.2.1 y.1 y.2.1 y.2.2.1 y.2.2.2.1
theorem wkH : Wk ltH where
  asy a b h := by
    simp only [ltH, lt4, decide_eq_true_eq, decide_eq_false_iff_not] at h ⊢
    omega
  tr a b c h k := by
    simp only [ltH, lt4, decide_eq_false_iff_not] at h k ⊢
    omega
theorem klike_refl : ∀ (s : Sh) (y : s.den), s.klike y y
  | .int _, _ => trivial
  | .bool, _ => trivial
  | .str, _ => trivial
  | .rs _ _, _ => trivial
  | .hr _ _, _ => rfl
  | .hv, _ => trivial
  | .sl _ _, _ => trivial
  | .pair a b, y => ⟨klike_refl a y.1, klike_refl b y.2⟩
theorem keep_perm {ρ : Type} {zs ys : List HPane} (h : zs.Perm ys) (k : Option ρ) : keep shPh zs ys k = k := keep_eq (s := shPh) fun y hy => ⟨y, h.mem_iff.2 hy, klike_refl shPh y⟩
theorem cmpI_eq (a b : Int) : G.cmp.Compare_int a b = some (cmpF a b) := by
  unfold G.cmp.Compare_int G.cmp.isNaN_int cmpF
  simp only [Option.bind_some, bne_self_eq_false, cond_false]
  by_cases h : a < b
  · rw [cdp h, if_pos h]
  · rw [cdn h, if_neg h]
    by_cases h2 : b < a
    · rw [cdp h2, if_pos h2]
    · rw [cdn h2, if_neg h2]
def or4 (a b c d : Int) : Int := if a ≠ 0 then a else if b ≠ 0 then b else if c ≠ 0 then c else d
theorem or4_eq (a b c d : Int) : G.cmp.Or_int [a, b, c, d] = some (or4 a b c d) := by
  unfold G.cmp.Or_int
  obtain ⟨M, hM⟩ := fu_ge 4 (by omega)
  have hl : (([a, b, c, d] : List Int).length : Int) = 4 := rfl
  have g0 : nthI [a, b, c, d] 0 (0 : Int) = a := rfl
  have g1 : nthI [a, b, c, d] 1 (0 : Int) = b := rfl
  have g2 : nthI [a, b, c, d] 2 (0 : Int) = c := rfl
  have g3 : nthI [a, b, c, d] 3 (0 : Int) = d := rfl
  have w0 : IntKind.wrap .i64 ((0 : Int) + 1) = 1 := by decide
  have w1 : IntKind.wrap .i64 ((1 : Int) + 1) = 2 := by decide
  have w2 : IntKind.wrap .i64 ((2 : Int) + 1) = 3 := by decide
  have w3 : IntKind.wrap .i64 ((3 : Int) + 1) = 4 := by decide
  have b1 : decide ((0 : Int) < 4) = true := rfl
  have b2 : decide ((0 : Int) ≤ 0 ∧ (0 : Int) < 4) = true := rfl
  have b3 : decide ((1 : Int) < 4) = true := rfl
  have b4 : decide ((0 : Int) ≤ 1 ∧ (1 : Int) < 4) = true := rfl
  have b5 : decide ((2 : Int) < 4) = true := rfl
  have b6 : decide ((0 : Int) ≤ 2 ∧ (2 : Int) < 4) = true := rfl
  have b7 : decide ((3 : Int) < 4) = true := rfl
  have b8 : decide ((0 : Int) ≤ 3 ∧ (3 : Int) < 4) = true := rfl
  have b9 : decide ((4 : Int) < 4) = false := rfl
  have r : ∀ m, 4 + 1 + m = m + 1 + 1 + 1 + 1 + 1 := by omega
  unfold or4
  rw [hM, r, hl]
  by_cases ha : a = 0
  · subst ha
    by_cases hb : b = 0
    · subst hb
      by_cases hc : c = 0
      · subst hc
        by_cases hd : d = 0
        · subst hd
          simp only [G.cmp.Or_int_l0, hl, g0, g1, g2, g3, w0, w1, w2, w3, b1, b2, b3, b4, b5, b6, b7, b8, b9, cond_true, cond_false, bne_self_eq_false, ne_eq, not_true, if_false]
        · simp only [G.cmp.Or_int_l0, hl, g0, g1, g2, g3, w0, w1, w2, w3, b1, b2, b3, b4, b5, b6, b7, b8, b9, cond_true, cond_false, bne_self_eq_false, ne_eq, not_true, if_false, cnp hd]
      · simp only [G.cmp.Or_int_l0, hl, g0, g1, g2, g3, w0, w1, w2, w3, b1, b2, b3, b4, b5, b6, b7, b8, b9, cond_true, cond_false, bne_self_eq_false, ne_eq, not_true, if_false, cnp hc, hc, not_false_iff, if_true]
    · simp only [G.cmp.Or_int_l0, hl, g0, g1, g2, g3, w0, w1, w2, w3, b1, b2, b3, b4, b5, b6, b7, b8, b9, cond_true, cond_false, bne_self_eq_false, ne_eq, not_true, if_false, cnp hb, hb, not_false_iff, if_true]
  · simp only [G.cmp.Or_int_l0, hl, g0, b1, b2, cond_true, ne_eq, cnp ha, ha, not_false_iff, if_true]
def cmpH (x y : HPane) : Int := or4 (cmpF x.1 y.1) (cmpF x.2.1 y.2.1) (cmpF x.2.2.1 y.2.2.1) (cmpF x.2.2.2.1 y.2.2.2.1)
theorem cmpH_lt (x y : HPane) : decide (cmpH x y < 0) = ltH x y := by
  unfold cmpH ltH lt4 or4 cmpF
  congr 1
  apply propext
  repeat' split
  all_goals omega
theorem cmpP_eq (x y : HPane) : I.comparePanes x.1 x.2.1 x.2.2.1 x.2.2.2.1 x.2.2.2.2.1 x.2.2.2.2.2.1 x.2.2.2.2.2.2.2 y.1 y.2.1 y.2.2.1 y.2.2.2.1 y.2.2.2.2.1 y.2.2.2.2.2.1 y.2.2.2.2.2.2.2 x.2.2.2.2.2.2.1.2 y.2.2.2.2.2.2.1.2 = some (cmpH x y) := by
  unfold I.comparePanes
  rw [cmpI_eq, Option.bind_some, cmpI_eq, Option.bind_some, cmpI_eq, Option.bind_some, cmpI_eq, Option.bind_some, or4_eq, Option.bind_some]
  rfl
theorem nthH (xs : List HPane) (i : Nat) : nthI xs (i : Int) hP0 = xs.getD i hP0 := rfl
theorem w64n {n : Nat} {x : Int} (h : x = (n : Int)) (hn : n < 9223372036854775808) : IntKind.wrap .i64 x = (n : Int) := by rw [w64 (by omega) (by omega), h]
theorem halfN (i j : Nat) (h : i + j < 9223372036854775808) : IntKind.wrap .i64 (Int.fdiv (IntKind.wrap .u64 (IntKind.wrap .i64 ((i : Int) + (j : Int)))) (2 ^ min (Int.toNat 1) (IntKind.bits .u64))) = (((i + j) / 2 : Nat) : Int) := by
  rw [w64 (n := (i : Int) + (j : Int)) (by omega) (by omega), u64w (by omega) (by omega)]
  have e : (2 : Int) ^ min (Int.toNat 1) (IntKind.bits .u64) = 2 := by decide
  rw [e, Int.fdiv_eq_ediv_of_nonneg _ (by omega), w64 (by omega) (by omega)]
  omega
theorem dbn {i : Nat} {xs : List HPane} (h : i < xs.length) : decide ((0 : Int) ≤ (i : Int) ∧ (i : Int) < (xs.length : Int)) = true := decide_eq_true (by omega)
theorem ins1_step (e : Int → Int → Int → List HPane → Option (List HPane)) (a : Nat) (b i : Int) (j m : Nat) (xs : List HPane) (h1 : a < j) (h2 : j < xs.length) (hn : xs.length ≤ 1048576) :
    G.slices.insertionSortCmpFunc_Pane_l1 (m + 1) e (a : Int) b i (j : Int) xs = bif ltH (xs.getD j hP0) (xs.getD (j - 1) hP0) then G.slices.insertionSortCmpFunc_Pane_l1 m e (a : Int) b i ((j - 1 : Nat) : Int) (swp hP0 xs j (j - 1)) else e (a : Int) b i xs := by
  have hw : IntKind.wrap .i64 ((j : Int) - 1) = ((j - 1 : Nat) : Int) := w64n (by omega) (by omega)
  have hd1 := dbn h2
  have hd2 : decide ((0 : Int) ≤ ((j - 1 : Nat) : Int) ∧ ((j - 1 : Nat) : Int) < (xs.length : Int)) = true := decide_eq_true (by omega)
  have hd3 : ∀ y : HPane, decide ((0 : Int) ≤ ((j - 1 : Nat) : Int) ∧ ((j - 1 : Nat) : Int) < ((xs.set j y).length : Int)) = true := fun y => by rw [List.length_set]; exact hd2
  rw [G.slices.insertionSortCmpFunc_Pane_l1, cdp (by omega)]
  simp only [hw, hd1, hd2, hd3, cond_true, dup_eq, cmpP_eq, Option.bind_some, cmpH_lt, Int.toNat_natCast]
  rfl
theorem ins_eq (p r q : List HPane) (hn : (p ++ (r ++ q)).length ≤ 1048576) : G.slices.insertionSortCmpFunc_Pane (p.length : Int) ((p.length + r.length : Nat) : Int) (p ++ (r ++ q)) = some (p ++ (isort ltH r ++ q)) := by
  unfold G.slices.insertionSortCmpFunc_Pane
  rw [w64n (n := p.length + 1) (by omega) (by simp at hn; omega)]
  match r with
  | [] =>
    obtain ⟨M, hM⟩ := fu_ge 0 (by omega)
    rw [hM, show 0 + 1 + M = M + 1 from by omega, G.slices.insertionSortCmpFunc_Pane_l0, cdn (by simp only [List.length_nil]; omega)]
    rfl
  | x :: r =>
    have hl : (p ++ ([x] ++ (r ++ q))).length = (p ++ (x :: r ++ q)).length := by simp
    obtain ⟨M, hM⟩ := fu_ge r.length (by simp at hn; omega)
    have := isortLoop (lt := ltH) (fun m i xs => G.slices.insertionSortCmpFunc_Pane_l0 m (fun y29 => (some y29)) (p.length : Int) ((p.length + (x :: r).length : Nat) : Int) (i : Int) xs) some p (p.length + (x :: r).length) (p ++ (x :: r ++ q)).length (fun m s q' v h0 h1 h2 => ?_) (fun i m xs h1 h2 => ?_) r M [x] q (by simp) (by simp; omega) hl
    · rw [hM]
      exact this
    · show G.slices.insertionSortCmpFunc_Pane_l0 (m + 1) _ _ _ _ _ = _
      rw [G.slices.insertionSortCmpFunc_Pane_l0, cdp (by omega)]
      obtain ⟨M2, hM2⟩ := fu_ge s.length (by simp at hn h2; omega)
      have hs := insLoop (lt := ltH) hP0 (fun m2 j xs => G.slices.insertionSortCmpFunc_Pane_l1 m2 (fun y24 y25 y26 y27 => (G.slices.insertionSortCmpFunc_Pane_l0 m (fun y29 => (some y29)) y24 y25 (IntKind.wrap .i64 (y26 + 1)) y27)) (p.length : Int) ((p.length + (x :: r).length : Nat) : Int) ((p.length + s.length : Nat) : Int) (j : Int) xs) (fun xs => G.slices.insertionSortCmpFunc_Pane_l0 m (fun y29 => (some y29)) (p.length : Int) ((p.length + (x :: r).length : Nat) : Int) ((p.length + s.length + 1 : Nat) : Int) xs) p v (p ++ (x :: r ++ q)).length (fun j m' xs h3 h4 h5 => ?_) (fun m' xs h5 => ?_) s.length M2 s q' rfl h2
      · rw [hM2]
        exact hs
      · show G.slices.insertionSortCmpFunc_Pane_l1 (m' + 1) _ _ _ _ _ _ = _
        rw [ins1_step _ _ _ _ _ _ _ h3 h4 (by omega), w64n (n := p.length + s.length + 1) (by omega) (by simp at hn h2; omega)]
      · show G.slices.insertionSortCmpFunc_Pane_l1 (m' + 1) _ _ _ _ _ _ = _
        rw [G.slices.insertionSortCmpFunc_Pane_l1, cdn (by omega), w64n (n := p.length + s.length + 1) (by omega) (by simp at hn h2; omega)]
    · show G.slices.insertionSortCmpFunc_Pane_l0 (m + 1) _ _ _ _ _ = _
      rw [G.slices.insertionSortCmpFunc_Pane_l0, cdn (by omega)]
theorem range_eq (p U M V q : List HPane) (hl : U.length = V.length) (hn : (p ++ (U ++ (M ++ (V ++ q)))).length ≤ 1048576) : G.slices.swapRangeCmpFunc_Pane (p.length : Int) ((p.length + U.length + M.length : Nat) : Int) (U.length : Int) (p ++ (U ++ (M ++ (V ++ q)))) = some (p ++ (V ++ (M ++ (U ++ q)))) := by
  unfold G.slices.swapRangeCmpFunc_Pane
  obtain ⟨W, hW⟩ := fu_ge U.length (by simp at hn; omega)
  have := rangeLoop hP0 (fun m i xs => G.slices.swapRangeCmpFunc_Pane_l0 m (fun y18 => (some y18)) (p.length : Int) ((p.length + U.length + M.length : Nat) : Int) (U.length : Int) (i : Int) xs) some p (p.length + U.length + M.length) U.length (p ++ (U ++ (M ++ (V ++ q)))).length (fun i m xs h1 h2 => ?_) (fun m xs h2 => ?_) U V [] [] M q W hl rfl (by simp) rfl rfl
  · rw [hW]
    exact this
  · show G.slices.swapRangeCmpFunc_Pane_l0 (m + 1) _ _ _ _ _ _ = G.slices.swapRangeCmpFunc_Pane_l0 m _ _ _ _ _ _
    simp only [List.length_append] at h2 hn
    have hw1 : IntKind.wrap .i64 ((p.length : Int) + (i : Int)) = ((p.length + i : Nat) : Int) := w64n (by omega) (by omega)
    have hw2 : IntKind.wrap .i64 (((p.length + U.length + M.length : Nat) : Int) + (i : Int)) = ((p.length + U.length + M.length + i : Nat) : Int) := w64n (by omega) (by omega)
    have hw3 : IntKind.wrap .i64 ((i : Int) + 1) = ((i + 1 : Nat) : Int) := w64n (by omega) (by omega)
    have hd1 : decide ((0 : Int) ≤ ((p.length + i : Nat) : Int) ∧ ((p.length + i : Nat) : Int) < (xs.length : Int)) = true := decide_eq_true (by omega)
    have hd2 : decide ((0 : Int) ≤ ((p.length + U.length + M.length + i : Nat) : Int) ∧ ((p.length + U.length + M.length + i : Nat) : Int) < (xs.length : Int)) = true := decide_eq_true (by omega)
    have hd3 : ∀ y : HPane, decide ((0 : Int) ≤ ((p.length + U.length + M.length + i : Nat) : Int) ∧ ((p.length + U.length + M.length + i : Nat) : Int) < ((xs.set (p.length + i) y).length : Int)) = true := fun y => by rw [List.length_set]; exact hd2
    rw [G.slices.swapRangeCmpFunc_Pane_l0, cdp (by omega)]
    simp only [hw1, hw2, hw3, hd1, hd2, hd3, cond_true, dup_eq, Int.toNat_natCast]
    rfl
  · show G.slices.swapRangeCmpFunc_Pane_l0 (m + 1) _ _ _ _ _ _ = _
    rw [G.slices.swapRangeCmpFunc_Pane_l0, cdn (by omega)]
theorem perm_ex (p U M V q : List HPane) : (p ++ (U ++ (M ++ (V ++ q)))).Perm (p ++ (V ++ (M ++ (U ++ q)))) := by
  refine List.Perm.append_left p ?_
  have h1 : (U ++ (M ++ (V ++ q))).Perm ((V ++ (M ++ U)) ++ q) := by
    rw [show U ++ (M ++ (V ++ q)) = (U ++ M ++ V) ++ q from by simp]
    refine List.Perm.append_right q ?_
    refine (List.perm_append_comm (l₁ := U ++ M) (l₂ := V)).trans ?_
    exact List.Perm.append_left V List.perm_append_comm
  rw [show V ++ (M ++ (U ++ q)) = (V ++ (M ++ U)) ++ q from by simp]
  exact h1
theorem rot_eq (p u v q : List HPane) (hu : 0 < u.length) (hv : 0 < v.length) (hn : (p ++ (u ++ (v ++ q))).length ≤ 1048576) : G.slices.rotateCmpFunc_Pane (p.length : Int) ((p.length + u.length : Nat) : Int) ((p.length + u.length + v.length : Nat) : Int) (p ++ (u ++ (v ++ q))) = some (p ++ (v ++ (u ++ q))) := by
  unfold G.slices.rotateCmpFunc_Pane
  have hn' := hn
  simp only [List.length_append] at hn'
  rw [w64n (n := u.length) (by omega) (by omega), w64n (n := v.length) (by omega) (by omega)]
  obtain ⟨W, hW⟩ := fu_ge (u.length + v.length) (by omega)
  have := rotLoop (fun m i j xs => G.slices.rotateCmpFunc_Pane_l0 m (fun y20 y21 y22 => (Option.bind (G.slices.swapRangeCmpFunc_Pane (IntKind.wrap .i64 (y20 - y21)) y20 y21 y22) fun r24 => (keep shPh y22 r24 (some r24)))) ((p.length + u.length : Nat) : Int) (i : Int) (j : Int) xs) some (p.length + u.length) (p ++ (u ++ (v ++ q))).length (fun i j m p' U M V q' h1 h2 h3 h4 h5 h6 h7 => ?_) (fun i j m p' U M V q' h1 h2 h3 h4 h5 h6 h7 => ?_) (fun i m p' U V q' h1 h3 h4 h5 h7 => ?_) (u.length + v.length) W p u v q rfl hu hv rfl rfl
  · rw [hW]
    exact this
  · show G.slices.rotateCmpFunc_Pane_l0 (m + 1) _ _ _ _ _ = G.slices.rotateCmpFunc_Pane_l0 m _ _ _ _ _
    rw [G.slices.rotateCmpFunc_Pane_l0, cnp (by omega), cdp (by omega), w64n (n := p'.length) (by omega) (by omega), w64n (n := i - j) (by omega) (by omega)]
    have := range_eq p' U M V q' (by omega) (by omega)
    rw [show ((p.length + u.length : Nat) : Int) = ((p'.length + U.length + M.length : Nat) : Int) from by omega, show ((j : Nat) : Int) = (U.length : Int) from by omega, this, Option.bind_some]
    exact keep_perm (perm_ex _ _ _ _ _) _
  · show G.slices.rotateCmpFunc_Pane_l0 (m + 1) _ _ _ _ _ = G.slices.rotateCmpFunc_Pane_l0 m _ _ _ _ _
    have h7' := h7
    simp only [List.length_append] at h7'
    rw [G.slices.rotateCmpFunc_Pane_l0, cnp (by omega), cdn (by omega), w64n (n := p'.length) (by omega) (by omega), w64n (x := ((p.length + u.length : Nat) : Int) + (j : Int)) (n := p.length + u.length + j) (by omega) (by omega), w64n (n := p'.length + U.length + M.length) (by omega) (by omega), w64n (n := j - i) (by omega) (by omega)]
    have := range_eq p' U M V q' (by omega) (by omega)
    rw [show ((i : Nat) : Int) = (U.length : Int) from by omega, this, Option.bind_some]
    exact keep_perm (perm_ex _ _ _ _ _) _
  · show G.slices.rotateCmpFunc_Pane_l0 (m + 1) _ _ _ _ _ = _
    rw [G.slices.rotateCmpFunc_Pane_l0, cnn rfl, w64n (n := p'.length) (by omega) (by omega)]
    have := range_eq p' U [] V q' (by omega) (by rw [← h7] at hn; simpa using hn)
    rw [show ((p.length + u.length : Nat) : Int) = ((p'.length + U.length + ([] : List HPane).length : Nat) : Int) from by simp; omega, show ((i : Nat) : Int) = (U.length : Int) from by omega, show p' ++ (U ++ (V ++ q')) = p' ++ (U ++ ([] ++ (V ++ q'))) from rfl, this, Option.bind_some]
    exact keep_perm (perm_ex _ _ _ _ _) _
section
variable {α : Type} {lt : α → α → Bool} (d : α)
theorem srt_get {xs : List α} (h : Srt lt xs) {i j : Nat} (hij : i < j) (hj : j < xs.length) : lt (xs.getD j d) (xs.getD i d) = false := by
  have := List.pairwise_iff_getElem.1 h i j (by omega) hj hij
  rw [List.getD_eq_getElem?_getD, List.getD_eq_getElem?_getD, List.getElem?_eq_getElem hj, List.getElem?_eq_getElem (show i < xs.length by omega)]
  exact this
theorem srt_le (w : Wk lt) {xs : List α} (h : Srt lt xs) {i j : Nat} (hij : i ≤ j) (hj : j < xs.length) : lt (xs.getD j d) (xs.getD i d) = false := by
  rcases Nat.lt_or_ge i j with h1 | h1
  · exact srt_get d h h1 hj
  · obtain rfl : i = j := by omega
    exact w.irr _
theorem get_mid (p u r : List α) {i k : Nat} (h : i = p.length + k) (hk : k < u.length) : (p ++ (u ++ r)).getD i d = u.getD k d := by
  rw [List.getD_eq_getElem?_getD, List.getD_eq_getElem?_getD, List.getElem?_append_right (by omega), List.getElem?_append_left (by omega), h, Nat.add_sub_cancel_left]
theorem isort_split (w : Wk lt) {u1 u2 v1 v2 : List α} (hu : Srt lt (u1 ++ u2)) (hv : Srt lt (v1 ++ v2)) (h1 : ∀ x ∈ u2, ∀ y ∈ v1, lt y x = true) (h2 : ∀ x ∈ u1, ∀ y ∈ v2, lt y x = false) :
    isort lt ((u1 ++ u2) ++ (v1 ++ v2)) = isort lt (u1 ++ v1) ++ isort lt (u2 ++ v2) := by
  have hu' := List.pairwise_append.1 hu
  have hv' := List.pairwise_append.1 hv
  refine (isort_uniq w ?_ ?_).symm
  · refine List.pairwise_append.2 ⟨isort_srt w _, isort_srt w _, fun a ha b hb => ?_⟩
    have ha := (isort_perm w (u1 ++ v1)).mem_iff.2 ha
    have hb := (isort_perm w (u2 ++ v2)).mem_iff.2 hb
    rcases List.mem_append.1 ha with ha | ha <;> rcases List.mem_append.1 hb with hb | hb
    · exact hu'.2.2 a ha b hb
    · exact h2 a ha b hb
    · exact w.asy _ _ (h1 b hb a ha)
    · exact hv'.2.2 a ha b hb
  · have e1 : Sam lt ((u1 ++ u2) ++ (v1 ++ v2)) ((u1 ++ v1) ++ (u2 ++ v2)) := by
      rw [show (u1 ++ u2) ++ (v1 ++ v2) = u1 ++ ((u2 ++ v1) ++ v2) from by simp, show (u1 ++ v1) ++ (u2 ++ v2) = u1 ++ ((v1 ++ u2) ++ v2) from by simp]
      exact (Sam.refl u1).app ((Sam.swap w h1).app (Sam.refl v2))
    exact e1.trans ((isort_sam w _).app (isort_sam w _))
theorem isort_nil_left (w : Wk lt) {v : List α} (h : Srt lt v) : isort lt ([] ++ v) = v := isort_srt_eq w h
theorem isort_nil_right (w : Wk lt) {v : List α} (h : Srt lt v) : isort lt (v ++ []) = v := by rw [List.append_nil]; exact isort_srt_eq w h
theorem isort_cons (w : Wk lt) {x : α} {v1 v2 : List α} (hv : Srt lt (v1 ++ v2)) (h1 : ∀ y ∈ v1, lt y x = true) (h2 : ∀ y ∈ v2, lt y x = false) : isort lt ([x] ++ (v1 ++ v2)) = v1 ++ (x :: v2) := by
  have := isort_split w (u1 := []) (u2 := [x]) (v1 := v1) (v2 := v2) (by simp) hv (fun z hz y hy => by rw [List.mem_singleton.1 hz]; exact h1 y hy) (fun z hz => by cases hz)
  rw [show ([] : List α) ++ [x] = [x] from rfl] at this
  have hv' := List.pairwise_append.1 hv
  rw [this, isort_nil_left w hv'.1, show [x] ++ v2 = x :: v2 from rfl, isort_srt_eq w (List.pairwise_cons.2 ⟨h2, hv'.2.1⟩)]
theorem isort_snoc (w : Wk lt) {x : α} {u1 u2 : List α} (hu : Srt lt (u1 ++ u2)) (h1 : ∀ y ∈ u1, lt x y = false) (h2 : ∀ y ∈ u2, lt x y = true) : isort lt ((u1 ++ u2) ++ [x]) = u1 ++ (x :: u2) := by
  have := isort_split w (u1 := u1) (u2 := u2) (v1 := [x]) (v2 := []) hu (by simp) (fun y hy z hz => by rw [List.mem_singleton.1 hz]; exact h2 y hy) (fun y hy z hz => by cases hz)
  rw [show [x] ++ ([] : List α) = [x] from rfl] at this
  have hu' := List.pairwise_append.1 hu
  rw [this, isort_nil_right w hu'.2.1, isort_srt_eq w (List.pairwise_append.2 ⟨hu'.1, by simp, fun a ha b hb => by rw [List.mem_singleton.1 hb]; exact h1 a ha⟩)]
  simp
theorem take_all {u : List α} {P : α → Prop} {c : Nat} (h : ∀ k, k < c → k < u.length → P (u.getD k d)) : ∀ x ∈ u.take c, P x := by
  intro x hx
  obtain ⟨k, hk, rfl⟩ := List.getElem_of_mem hx
  rw [List.length_take] at hk
  have := h k (by omega) (by omega)
  rw [List.getD_eq_getElem?_getD, List.getElem?_eq_getElem (show k < u.length by omega)] at this
  rw [List.getElem_take]
  exact this
theorem drop_all {u : List α} {P : α → Prop} {c : Nat} (h : ∀ k, c ≤ k → k < u.length → P (u.getD k d)) : ∀ x ∈ u.drop c, P x := by
  intro x hx
  obtain ⟨k, hk, rfl⟩ := List.getElem_of_mem hx
  rw [List.length_drop] at hk
  have := h (c + k) (by omega) (by omega)
  rw [List.getD_eq_getElem?_getD, List.getElem?_eq_getElem (show c + k < u.length by omega)] at this
  rw [List.getElem_drop]
  exact this
end
noncomputable def symR (f : Int → Int → Int → List HPane → Option (List HPane)) (mid en b : Int) (xs : List HPane) : Option (List HPane) :=
  bif decide (mid < en) then (bif decide (en < b) then (Option.bind (f mid en b xs) fun r => keep shPh xs r (some r)) else some xs) else some xs
noncomputable def symL (f : Int → Int → Int → List HPane → Option (List HPane)) (a st mid en b : Int) (xs : List HPane) : Option (List HPane) :=
  bif decide (a < st) then (bif decide (st < mid) then (Option.bind (f a st mid xs) fun r => keep shPh xs r (symR f mid en b r)) else symR f mid en b xs) else symR f mid en b xs
noncomputable def symT (f : Int → Int → Int → List HPane → Option (List HPane)) (a m b mid n st : Int) (xs : List HPane) : Option (List HPane) :=
  (fun en : Int => bif decide (st < m) then (bif decide (m < en) then (Option.bind (G.slices.rotateCmpFunc_Pane st m en xs) fun r => keep shPh xs r (symL f a st mid en b r)) else symL f a st mid en b xs) else symL f a st mid en b xs) (IntKind.wrap .i64 (n - st))
theorem perm_two (p u v w q : List HPane) (h : (u ++ v).Perm w) : (p ++ (u ++ (v ++ q))).Perm (p ++ (w ++ q)) := by
  refine List.Perm.append_left p ?_
  rw [← List.append_assoc]
  exact List.Perm.append_right q h
def MergeOk (f : Int → Int → Int → List HPane → Option (List HPane)) (N : Nat) : Prop :=
  ∀ (p u v q : List HPane), u.length + v.length ≤ N → 0 < u.length → 0 < v.length → Srt ltH u → Srt ltH v → (p ++ (u ++ (v ++ q))).length ≤ 1048576 → f (p.length : Int) ((p.length + u.length : Nat) : Int) ((p.length + u.length + v.length : Nat) : Int) (p ++ (u ++ (v ++ q))) = some (p ++ (isort ltH (u ++ v) ++ q))
theorem symT_eq {f : Int → Int → Int → List HPane → Option (List HPane)} {N : Nat} (hf : MergeOk f N) (p u1 u2 v1 v2 q : List HPane) (h1 : ∀ x ∈ u2, ∀ y ∈ v1, ltH y x = true) (h2 : ∀ x ∈ u1, ∀ y ∈ v2, ltH y x = false) (hu : Srt ltH (u1 ++ u2)) (hv : Srt ltH (v1 ++ v2)) (hl : u1.length + v1.length ≤ N) (hr : u2.length + v2.length ≤ N)
    (hn : (p ++ ((u1 ++ u2) ++ ((v1 ++ v2) ++ q))).length ≤ 1048576) {n : Int} (hnn : n = ((p.length + u1.length + v1.length + (p.length + u1.length + u2.length) : Nat) : Int)) :
    symT f (p.length : Int) ((p.length + u1.length + u2.length : Nat) : Int) ((p.length + u1.length + u2.length + v1.length + v2.length : Nat) : Int) ((p.length + u1.length + v1.length : Nat) : Int) n ((p.length + u1.length : Nat) : Int) (p ++ ((u1 ++ u2) ++ ((v1 ++ v2) ++ q))) = some (p ++ (isort ltH ((u1 ++ u2) ++ (v1 ++ v2)) ++ q)) := by
  have hu' := List.pairwise_append.1 hu
  have hv' := List.pairwise_append.1 hv
  have hn' := hn
  simp only [List.length_append] at hn'
  have hil : (isort ltH (u1 ++ v1)).length = u1.length + v1.length := by rw [isort_len wkH, List.length_append]
  have R : ∀ w : List HPane, w.length = u1.length + v1.length → symR f ((p.length + u1.length + v1.length : Nat) : Int) ((p.length + u1.length + u2.length + v1.length : Nat) : Int) ((p.length + u1.length + u2.length + v1.length + v2.length : Nat) : Int) (p ++ (w ++ (u2 ++ (v2 ++ q)))) = some (p ++ (w ++ (isort ltH (u2 ++ v2) ++ q))) := by
    intro w hw
    unfold symR
    rcases Nat.eq_zero_or_pos u2.length with e | e
    · obtain rfl : u2 = [] := List.length_eq_zero_iff.1 e
      rw [cdn (by simp only [List.length_nil]; omega), isort_nil_left wkH hv'.2.1]
      rfl
    rcases Nat.eq_zero_or_pos v2.length with e2 | e2
    · obtain rfl : v2 = [] := List.length_eq_zero_iff.1 e2
      rw [cdp (by omega), cdn (by simp only [List.length_nil]; omega), isort_nil_right wkH hu'.2.1]
      rfl
    rw [cdp (by omega), cdp (by omega)]
    have := hf (p ++ w) u2 v2 q hr e e2 hu'.2.1 hv'.2.1 (by simp only [List.length_append]; omega)
    rw [show (((p ++ w).length : Nat) : Int) = ((p.length + u1.length + v1.length : Nat) : Int) from by simp only [List.length_append]; omega, show (((p ++ w).length + u2.length : Nat) : Int) = ((p.length + u1.length + u2.length + v1.length : Nat) : Int) from by simp only [List.length_append]; omega, show (((p ++ w).length + u2.length + v2.length : Nat) : Int) = ((p.length + u1.length + u2.length + v1.length + v2.length : Nat) : Int) from by simp only [List.length_append]; omega, List.append_assoc, List.append_assoc] at this
    rw [this, Option.bind_some, keep_perm]
    rw [← List.append_assoc, ← List.append_assoc p w]
    exact perm_two _ _ _ _ _ (isort_perm wkH _)
  have L : symL f (p.length : Int) ((p.length + u1.length : Nat) : Int) ((p.length + u1.length + v1.length : Nat) : Int) ((p.length + u1.length + u2.length + v1.length : Nat) : Int) ((p.length + u1.length + u2.length + v1.length + v2.length : Nat) : Int) (p ++ (u1 ++ (v1 ++ (u2 ++ (v2 ++ q))))) = some (p ++ (isort ltH (u1 ++ v1) ++ (isort ltH (u2 ++ v2) ++ q))) := by
    unfold symL
    rcases Nat.eq_zero_or_pos u1.length with e | e
    · obtain rfl : u1 = [] := List.length_eq_zero_iff.1 e
      have := R v1 (by simp)
      rw [cdn (by simp only [List.length_nil]; omega), isort_nil_left wkH hv'.1]
      exact this
    rcases Nat.eq_zero_or_pos v1.length with e2 | e2
    · obtain rfl : v1 = [] := List.length_eq_zero_iff.1 e2
      have := R u1 (by simp)
      rw [cdp (by omega), cdn (by simp only [List.length_nil]; omega), isort_nil_right wkH hu'.1]
      exact this
    rw [cdp (by omega), cdp (by omega)]
    have := hf p u1 v1 (u2 ++ (v2 ++ q)) hl e e2 hu'.1 hv'.1 (by simp only [List.length_append]; omega)
    rw [this, Option.bind_some, keep_perm (perm_two _ _ _ _ _ (isort_perm wkH _))]
    exact R _ hil
  have hen : IntKind.wrap .i64 (n - ((p.length + u1.length : Nat) : Int)) = ((p.length + u1.length + u2.length + v1.length : Nat) : Int) := w64n (by omega) (by omega)
  unfold symT
  simp only [hen]
  rw [isort_split wkH hu hv h1 h2]
  have e0 : p ++ ((u1 ++ u2) ++ ((v1 ++ v2) ++ q)) = (p ++ u1) ++ (u2 ++ (v1 ++ (v2 ++ q))) := by simp
  rcases Nat.eq_zero_or_pos u2.length with e | e
  · obtain rfl : u2 = [] := List.length_eq_zero_iff.1 e
    rw [cdn (by simp only [List.length_nil]; omega), e0]
    simp only [List.append_assoc, List.nil_append] at L ⊢
    exact L
  rcases Nat.eq_zero_or_pos v1.length with e2 | e2
  · obtain rfl : v1 = [] := List.length_eq_zero_iff.1 e2
    rw [cdp (by omega), cdn (by simp only [List.length_nil]; omega), e0]
    simp only [List.append_assoc, List.nil_append] at L ⊢
    exact L
  rw [cdp (by omega), cdp (by omega)]
  have := rot_eq (p ++ u1) u2 v1 (v2 ++ q) e e2 (by simp only [List.length_append]; omega)
  rw [show (((p ++ u1).length : Nat) : Int) = ((p.length + u1.length : Nat) : Int) from by simp only [List.length_append], show (((p ++ u1).length + u2.length : Nat) : Int) = ((p.length + u1.length + u2.length : Nat) : Int) from by simp only [List.length_append], show (((p ++ u1).length + u2.length + v1.length : Nat) : Int) = ((p.length + u1.length + u2.length + v1.length : Nat) : Int) from by simp only [List.length_append]] at this
  rw [e0, this, Option.bind_some, keep_perm (by
    have := perm_ex (p ++ u1) u2 [] v1 (v2 ++ q)
    simpa using this), List.append_assoc]
  simp only [List.append_assoc] at L ⊢
  exact L
theorem sym_one (p : List HPane) (x : HPane) (v q : List HPane) (m : Nat) (hv : Srt ltH v) (hv0 : 0 < v.length) (hn : (p ++ ([x] ++ (v ++ q))).length ≤ 1048576) :
    G.slices.symMergeCmpFunc_Pane (m + 1) (p.length : Int) ((p.length + 1 : Nat) : Int) ((p.length + 1 + v.length : Nat) : Int) (p ++ ([x] ++ (v ++ q))) = some (p ++ (isort ltH ([x] ++ v) ++ q)) := by
  have hn' := hn
  simp only [List.length_append, List.length_cons, List.length_nil] at hn'
  obtain ⟨xs, hxs⟩ : ∃ xs, xs = p ++ ([x] ++ (v ++ q)) := ⟨_, rfl⟩
  have hlx : xs.length = p.length + 1 + v.length + q.length := by rw [hxs]; simp only [List.length_append, List.length_cons, List.length_nil]; omega
  have hga : xs.getD p.length hP0 = x := by rw [hxs]; exact get_at' hP0 p x _ rfl
  have hgv : ∀ k i : Nat, i = p.length + 1 + k → k < v.length → xs.getD i hP0 = v.getD k hP0 := fun k i hi hk => by
    rw [hxs, show p ++ ([x] ++ (v ++ q)) = (p ++ [x]) ++ (v ++ q) from by simp]
    exact get_mid hP0 (p ++ [x]) v q (by simp only [List.length_append, List.length_cons, List.length_nil]; omega) hk
  rw [← hxs, G.slices.symMergeCmpFunc_Pane, w64n (n := 1) (by omega) (by omega), show (((1 : Nat) : Int) == 1) = true from rfl, cond_true]
  obtain ⟨W, hW⟩ := fu_ge v.length (by omega)
  obtain ⟨c, c1, c2, c3, c4, c5⟩ := bsLoop (fun m i j => G.slices.symMergeCmpFunc_Pane_l0 m (fun y18 y19 y20 => (G.slices.symMergeCmpFunc_Pane_l1 fu (fun y31 => (some y31)) y19 y18 y20)) (p.length : Int) (i : Int) (j : Int) xs)
    (fun c => G.slices.symMergeCmpFunc_Pane_l1 fu (fun y31 => (some y31)) (c : Int) (p.length : Int) xs) (fun h => ltH (xs.getD h hP0) x) (p.length + 1) (p.length + 1 + v.length)
    (fun i j h1 h2 h3 h4 => by
      rw [hgv (i - (p.length + 1)) i (by omega) (by omega)] at h4
      rw [hgv (j - (p.length + 1)) j (by omega) (by omega)]
      exact wkH.tr _ _ _ (srt_le hP0 wkH hv (by omega) (by omega)) h4)
    (fun i j m h1 h2 h3 => by
      show G.slices.symMergeCmpFunc_Pane_l0 (m + 1) _ _ _ _ _ = bif _ then G.slices.symMergeCmpFunc_Pane_l0 m _ _ _ _ _ else G.slices.symMergeCmpFunc_Pane_l0 m _ _ _ _ _
      have hh := halfN i j (by omega)
      have hw : IntKind.wrap .i64 ((((i + j) / 2 : Nat) : Int) + 1) = (((i + j) / 2 + 1 : Nat) : Int) := w64n (by omega) (by omega)
      have hd1 : decide ((0 : Int) ≤ (((i + j) / 2 : Nat) : Int) ∧ (((i + j) / 2 : Nat) : Int) < (xs.length : Int)) = true := decide_eq_true (by omega)
      have hd2 : decide ((0 : Int) ≤ (p.length : Int) ∧ (p.length : Int) < (xs.length : Int)) = true := decide_eq_true (by omega)
      have hd3 : decide ((0 : Int) ≤ 1) = true := rfl
      rw [G.slices.symMergeCmpFunc_Pane_l0, cdp (by omega)]
      simp only [hh, hw, hd1, hd2, hd3, cond_true, dup_eq, cmpP_eq, Option.bind_some, cmpH_lt, nthH, hga])
    (fun i m => by
      show G.slices.symMergeCmpFunc_Pane_l0 (m + 1) _ _ _ _ _ = _
      rw [G.slices.symMergeCmpFunc_Pane_l0, cdn (by omega)])
    v.length (p.length + 1) (p.length + 1 + v.length) W (by omega) (Nat.le_refl _) (by omega) (Nat.le_refl _) (fun x h1 h2 => by omega) (fun x h1 h2 => by omega)
  rw [← hW] at c5
  refine c5.trans ?_
  obtain ⟨k, hk⟩ : ∃ k, c = p.length + 1 + k := ⟨c - (p.length + 1), by omega⟩
  have h1 : ∀ y ∈ v.take k, ltH y x = true := take_all hP0 fun i hi hl => by rw [← hgv i (p.length + 1 + i) rfl hl]; exact c3 _ (by omega) (by omega)
  have h2 : ∀ y ∈ v.drop k, ltH y x = false := drop_all hP0 fun i hi hl => by rw [← hgv i (p.length + 1 + i) rfl hl]; exact c4 _ (by omega) (by omega)
  have hvv : v.take k ++ v.drop k = v := List.take_append_drop k v
  have := isort_cons wkH (x := x) (v1 := v.take k) (v2 := v.drop k) (by rw [hvv]; exact hv) h1 h2
  rw [hvv] at this
  rw [this]
  obtain ⟨W2, hW2⟩ := fu_ge (v.take k).length (by simp; omega)
  have hm := rightLoop hP0 (fun m k xs => G.slices.symMergeCmpFunc_Pane_l1 m (fun y31 => (some y31)) (c : Int) (k : Int) xs) some p x c xs.length
    (fun k m ys h1 h2 h3 => by
      show G.slices.symMergeCmpFunc_Pane_l1 (m + 1) _ _ _ _ = G.slices.symMergeCmpFunc_Pane_l1 m _ _ _ _
      have hw0 : IntKind.wrap .i64 ((c : Int) - 1) = ((c - 1 : Nat) : Int) := w64n (by omega) (by omega)
      have hw : IntKind.wrap .i64 ((k : Int) + 1) = ((k + 1 : Nat) : Int) := w64n (by omega) (by omega)
      have hd1 : decide ((0 : Int) ≤ (k : Int) ∧ (k : Int) < (ys.length : Int)) = true := decide_eq_true (by omega)
      have hd2 : decide ((0 : Int) ≤ ((k + 1 : Nat) : Int) ∧ ((k + 1 : Nat) : Int) < (ys.length : Int)) = true := decide_eq_true (by omega)
      have hd3 : ∀ y : HPane, decide ((0 : Int) ≤ ((k + 1 : Nat) : Int) ∧ ((k + 1 : Nat) : Int) < ((ys.set k y).length : Int)) = true := fun y => by rw [List.length_set]; exact hd2
      rw [G.slices.symMergeCmpFunc_Pane_l1, hw0, cdp (by omega)]
      simp only [hw, hd1, hd2, hd3, cond_true, dup_eq, Int.toNat_natCast]
      rfl)
    (fun k m ys h1 h2 => by
      show G.slices.symMergeCmpFunc_Pane_l1 (m + 1) _ _ _ _ = _
      have hw0 : IntKind.wrap .i64 ((c : Int) - 1) = ((c - 1 : Nat) : Int) := w64n (by omega) (by omega)
      rw [G.slices.symMergeCmpFunc_Pane_l1, hw0, cdn (by omega)])
    (v.take k) W2 [] (v.drop k ++ q) (by simp only [List.length_take, List.length_nil]; omega) (by rw [hlx]; simp only [List.length_append, List.length_cons, List.length_nil, List.length_take, List.length_drop]; omega)
  rw [← hW2] at hm
  have e1 : xs = p ++ ([] ++ x :: (v.take k ++ (v.drop k ++ q))) := by rw [← List.append_assoc (v.take k), hvv, hxs]; rfl
  rw [e1]
  refine hm.trans ?_
  simp
theorem sym_last (p u : List HPane) (x : HPane) (q : List HPane) (m : Nat) (hu : Srt ltH u) (hu1 : 1 < u.length) (hn : (p ++ (u ++ ([x] ++ q))).length ≤ 1048576) :
    G.slices.symMergeCmpFunc_Pane (m + 1) (p.length : Int) ((p.length + u.length : Nat) : Int) ((p.length + u.length + 1 : Nat) : Int) (p ++ (u ++ ([x] ++ q))) = some (p ++ (isort ltH (u ++ [x]) ++ q)) := by
  have hn' := hn
  simp only [List.length_append, List.length_cons, List.length_nil] at hn'
  obtain ⟨xs, hxs⟩ : ∃ xs, xs = p ++ (u ++ ([x] ++ q)) := ⟨_, rfl⟩
  have hlx : xs.length = p.length + u.length + 1 + q.length := by rw [hxs]; simp only [List.length_append, List.length_cons, List.length_nil]; omega
  have hga : xs.getD (p.length + u.length) hP0 = x := by
    rw [hxs, show p ++ (u ++ ([x] ++ q)) = (p ++ u) ++ x :: q from by simp]
    exact get_at' hP0 (p ++ u) x _ (by simp)
  have hgu : ∀ k i : Nat, i = p.length + k → k < u.length → xs.getD i hP0 = u.getD k hP0 := fun k i hi hk => by
    rw [hxs]
    exact get_mid hP0 p u _ hi hk
  rw [← hxs, G.slices.symMergeCmpFunc_Pane, w64n (n := u.length) (by omega) (by omega), cen (by omega), w64n (n := 1) (by omega) (by omega), show (((1 : Nat) : Int) == 1) = true from rfl, cond_true]
  obtain ⟨W, hW⟩ := fu_ge u.length (by omega)
  obtain ⟨c, c1, c2, c3, c4, c5⟩ := bsLoop (fun m i j => G.slices.symMergeCmpFunc_Pane_l2 m (fun y45 y46 y47 => (G.slices.symMergeCmpFunc_Pane_l3 fu (fun y57 => (some y57)) y46 y45 y47)) ((p.length + u.length : Nat) : Int) (i : Int) (j : Int) xs)
    (fun c => G.slices.symMergeCmpFunc_Pane_l3 fu (fun y57 => (some y57)) (c : Int) ((p.length + u.length : Nat) : Int) xs) (fun h => !ltH x (xs.getD h hP0)) p.length (p.length + u.length)
    (fun i j h1 h2 h3 h4 => by
      rw [Bool.not_eq_false'] at h4 ⊢
      rw [hgu (i - p.length) i (by omega) (by omega)] at h4
      rw [hgu (j - p.length) j (by omega) (by omega)]
      cases e : ltH x (u.getD (j - p.length) hP0) with
      | true => rfl
      | false => rw [wkH.tr _ _ _ e (srt_le hP0 wkH hu (i := i - p.length) (j := j - p.length) (by omega) (by omega))] at h4; exact h4)
    (fun i j m h1 h2 h3 => by
      show G.slices.symMergeCmpFunc_Pane_l2 (m + 1) _ _ _ _ _ = bif _ then G.slices.symMergeCmpFunc_Pane_l2 m _ _ _ _ _ else G.slices.symMergeCmpFunc_Pane_l2 m _ _ _ _ _
      have hh := halfN i j (by omega)
      have hw : IntKind.wrap .i64 ((((i + j) / 2 : Nat) : Int) + 1) = (((i + j) / 2 + 1 : Nat) : Int) := w64n (by omega) (by omega)
      have hd1 : decide ((0 : Int) ≤ (((i + j) / 2 : Nat) : Int) ∧ (((i + j) / 2 : Nat) : Int) < (xs.length : Int)) = true := decide_eq_true (by omega)
      have hd2 : decide ((0 : Int) ≤ ((p.length + u.length : Nat) : Int) ∧ ((p.length + u.length : Nat) : Int) < (xs.length : Int)) = true := decide_eq_true (by omega)
      have hd3 : decide ((0 : Int) ≤ 1) = true := rfl
      rw [G.slices.symMergeCmpFunc_Pane_l2, cdp (by omega)]
      simp only [hh, hw, hd1, hd2, hd3, cond_true, dup_eq, cmpP_eq, Option.bind_some, cmpH_lt, nthH, hga])
    (fun i m => by
      show G.slices.symMergeCmpFunc_Pane_l2 (m + 1) _ _ _ _ _ = _
      rw [G.slices.symMergeCmpFunc_Pane_l2, cdn (by omega)])
    u.length p.length (p.length + u.length) W (by omega) (Nat.le_refl _) (by omega) (Nat.le_refl _) (fun x h1 h2 => by omega) (fun x h1 h2 => by omega)
  rw [← hW] at c5
  refine c5.trans ?_
  obtain ⟨k, hk⟩ : ∃ k, c = p.length + k := ⟨c - p.length, by omega⟩
  have h1 : ∀ y ∈ u.take k, ltH x y = false := take_all hP0 fun i hi hl => by
    have := c3 (p.length + i) (by omega) (by omega)
    rw [hgu i (p.length + i) rfl hl, Bool.not_eq_true'] at this
    exact this
  have h2 : ∀ y ∈ u.drop k, ltH x y = true := drop_all hP0 fun i hi hl => by
    have := c4 (p.length + i) (by omega) (by omega)
    rw [hgu i (p.length + i) rfl hl, Bool.not_eq_false'] at this
    exact this
  have huu : u.take k ++ u.drop k = u := List.take_append_drop k u
  have := isort_snoc wkH (x := x) (u1 := u.take k) (u2 := u.drop k) (by rw [huu]; exact hu) h1 h2
  rw [huu] at this
  rw [this]
  have hkl : (u.take k).length = k := by rw [List.length_take]; omega
  have hkd : (u.drop k).length = u.length - k := List.length_drop
  obtain ⟨W2, hW2⟩ := fu_ge (u.drop k).length (by simp; omega)
  have hm := leftLoop hP0 (fun m k xs => G.slices.symMergeCmpFunc_Pane_l3 m (fun y57 => (some y57)) (c : Int) (k : Int) xs) some (p ++ u.take k) x xs.length
    (fun k' m ys h1 h2 h3 => by
      show G.slices.symMergeCmpFunc_Pane_l3 (m + 1) _ _ _ _ = G.slices.symMergeCmpFunc_Pane_l3 m _ _ _ _
      have h1 : c < k' := by rw [hk]; simpa [hkl] using h1
      have hw : IntKind.wrap .i64 ((k' : Int) - 1) = ((k' - 1 : Nat) : Int) := w64n (by omega) (by omega)
      have hd1 : decide ((0 : Int) ≤ (k' : Int) ∧ (k' : Int) < (ys.length : Int)) = true := decide_eq_true (by omega)
      have hd2 : decide ((0 : Int) ≤ ((k' - 1 : Nat) : Int) ∧ ((k' - 1 : Nat) : Int) < (ys.length : Int)) = true := decide_eq_true (by omega)
      have hd3 : ∀ y : HPane, decide ((0 : Int) ≤ ((k' - 1 : Nat) : Int) ∧ ((k' - 1 : Nat) : Int) < ((ys.set k' y).length : Int)) = true := fun y => by rw [List.length_set]; exact hd2
      rw [G.slices.symMergeCmpFunc_Pane_l3, cdp (by omega)]
      simp only [hw, hd1, hd2, hd3, cond_true, dup_eq, Int.toNat_natCast]
      rfl)
    (fun m ys h2 => by
      show G.slices.symMergeCmpFunc_Pane_l3 (m + 1) _ _ _ _ = _
      rw [G.slices.symMergeCmpFunc_Pane_l3, cdn (by simp only [List.length_append]; omega)])
    (u.drop k).length W2 (u.drop k) q rfl (by rw [hlx]; simp only [List.length_append, List.length_cons]; omega)
  rw [← hW2] at hm
  have e1 : xs = (p ++ u.take k) ++ (u.drop k ++ x :: q) := by rw [List.append_assoc, ← List.append_assoc (u.take k), huu, hxs]; rfl
  rw [e1, show ((p.length + u.length : Nat) : Int) = (((p ++ u.take k).length + (u.drop k).length : Nat) : Int) from by simp only [List.length_append]; omega]
  refine hm.trans ?_
  simp
theorem sym_ok : ∀ m, MergeOk (G.slices.symMergeCmpFunc_Pane m) m := by
  intro m
  induction m with
  | zero => intro p u v q hN hu0 hv0; omega
  | succ m ih =>
    intro p u v q hN hu0 hv0 hu hv hn
    by_cases hu1 : u.length = 1
    · match u, hu1 with
      | [x], _ => exact sym_one p x v q m hv hv0 hn
    by_cases hv1 : v.length = 1
    · match v, hv1 with
      | [x], _ => exact sym_last p u x q m hu (by omega) hn
    have hn' := hn
    simp only [List.length_append] at hn'
    obtain ⟨xs, hxs⟩ : ∃ xs, xs = p ++ (u ++ (v ++ q)) := ⟨_, rfl⟩
    have hlx : xs.length = p.length + u.length + v.length + q.length := by rw [hxs]; simp only [List.length_append]; omega
    have hgu : ∀ k i : Nat, i = p.length + k → k < u.length → xs.getD i hP0 = u.getD k hP0 := fun k i hi hk => by
      rw [hxs]
      exact get_mid hP0 p u _ hi hk
    have hgv : ∀ k i : Nat, i = p.length + u.length + k → k < v.length → xs.getD i hP0 = v.getD k hP0 := fun k i hi hk => by
      rw [hxs, show p ++ (u ++ (v ++ q)) = (p ++ u) ++ (v ++ q) from by simp]
      exact get_mid hP0 (p ++ u) v q (by simp only [List.length_append]; omega) hk
    obtain ⟨mid, hmid⟩ : ∃ mid, mid = (p.length + (p.length + u.length + v.length)) / 2 := ⟨_, rfl⟩
    -- the search, whatever its bounds
    have S : ∀ lo hi : Nat, lo ≤ hi → p.length ≤ lo → hi ≤ p.length + u.length → hi ≤ mid → mid + (p.length + u.length) ≤ lo + (p.length + u.length + v.length) →
        (lo = p.length ∨ lo + (p.length + u.length + v.length) = mid + (p.length + u.length)) → (hi = mid ∨ hi = p.length + u.length) →
        (G.slices.symMergeCmpFunc_Pane_l4 fu (fun y84 y85 y86 y87 y88 y89 y90 => symT (G.slices.symMergeCmpFunc_Pane m) y84 y85 y86 y87 y88 y89 y90) (p.length : Int) ((p.length + u.length : Nat) : Int) ((p.length + u.length + v.length : Nat) : Int) (mid : Int) ((mid + (p.length + u.length) : Nat) : Int) (lo : Int) (hi : Int) ((mid + (p.length + u.length) - 1 : Nat) : Int) xs) = some (p ++ (isort ltH (u ++ v) ++ q)) := by
      intro lo hi h1 h2 h3 h4 h5 h6 h7
      obtain ⟨W, hW⟩ := fu_ge (hi - lo) (by omega)
      obtain ⟨c, c1, c2, c3, c4, c5⟩ := bsLoop (fun m' i j => G.slices.symMergeCmpFunc_Pane_l4 m' (fun y84 y85 y86 y87 y88 y89 y90 => symT (G.slices.symMergeCmpFunc_Pane m) y84 y85 y86 y87 y88 y89 y90) (p.length : Int) ((p.length + u.length : Nat) : Int) ((p.length + u.length + v.length : Nat) : Int) (mid : Int) ((mid + (p.length + u.length) : Nat) : Int) (i : Int) (j : Int) ((mid + (p.length + u.length) - 1 : Nat) : Int) xs)
        (fun c => symT (G.slices.symMergeCmpFunc_Pane m) (p.length : Int) ((p.length + u.length : Nat) : Int) ((p.length + u.length + v.length : Nat) : Int) (mid : Int) ((mid + (p.length + u.length) : Nat) : Int) (c : Int) xs) (fun c => !ltH (xs.getD (mid + (p.length + u.length) - 1 - c) hP0) (xs.getD c hP0)) lo hi
        (fun i j g1 g2 g3 g4 => by
          rw [Bool.not_eq_false'] at g4 ⊢
          rw [hgu (i - p.length) i (by omega) (by omega), hgv (mid + (p.length + u.length) - 1 - i - (p.length + u.length)) _ (by omega) (by omega)] at g4
          rw [hgu (j - p.length) j (by omega) (by omega), hgv (mid + (p.length + u.length) - 1 - j - (p.length + u.length)) _ (by omega) (by omega)]
          cases e : ltH (v.getD (mid + (p.length + u.length) - 1 - j - (p.length + u.length)) hP0) (u.getD (j - p.length) hP0) with
          | true => rfl
          | false =>
            have e1 := srt_le hP0 wkH hu (i := i - p.length) (j := j - p.length) (by omega) (by omega)
            have e2 := srt_le hP0 wkH hv (i := mid + (p.length + u.length) - 1 - j - (p.length + u.length)) (j := mid + (p.length + u.length) - 1 - i - (p.length + u.length)) (by omega) (by omega)
            rw [wkH.tr _ _ _ e2 (wkH.tr _ _ _ e e1)] at g4
            exact g4)
        (fun i j m' g1 g2 g3 => by
          show G.slices.symMergeCmpFunc_Pane_l4 (m' + 1) _ _ _ _ _ _ _ _ _ _ = bif _ then G.slices.symMergeCmpFunc_Pane_l4 m' _ _ _ _ _ _ _ _ _ _ else G.slices.symMergeCmpFunc_Pane_l4 m' _ _ _ _ _ _ _ _ _ _
          have hh := halfN i j (by omega)
          have hw : IntKind.wrap .i64 ((((i + j) / 2 : Nat) : Int) + 1) = (((i + j) / 2 + 1 : Nat) : Int) := w64n (by omega) (by omega)
          have hw2 : IntKind.wrap .i64 (((mid + (p.length + u.length) - 1 : Nat) : Int) - (((i + j) / 2 : Nat) : Int)) = ((mid + (p.length + u.length) - 1 - (i + j) / 2 : Nat) : Int) := w64n (by omega) (by omega)
          have hd1 : decide ((0 : Int) ≤ (((i + j) / 2 : Nat) : Int) ∧ (((i + j) / 2 : Nat) : Int) < (xs.length : Int)) = true := decide_eq_true (by omega)
          have hd2 : decide ((0 : Int) ≤ ((mid + (p.length + u.length) - 1 - (i + j) / 2 : Nat) : Int) ∧ ((mid + (p.length + u.length) - 1 - (i + j) / 2 : Nat) : Int) < (xs.length : Int)) = true := decide_eq_true (by omega)
          have hd3 : decide ((0 : Int) ≤ 1) = true := rfl
          rw [G.slices.symMergeCmpFunc_Pane_l4, cdp (by omega)]
          simp only [hh, hw, hw2, hd1, hd2, hd3, cond_true, dup_eq, cmpP_eq, Option.bind_some, cmpH_lt, nthH])
        (fun i m' => by
          show G.slices.symMergeCmpFunc_Pane_l4 (m' + 1) _ _ _ _ _ _ _ _ _ _ = _
          rw [G.slices.symMergeCmpFunc_Pane_l4, cdn (by omega)])
        (hi - lo) lo hi W rfl (Nat.le_refl _) h1 (Nat.le_refl _) (fun x g1 g2 => by omega) (fun x g1 g2 => by omega)
      rw [← hW] at c5
      refine c5.trans ?_
      obtain ⟨k, hk⟩ : ∃ k, c = p.length + k := ⟨c - p.length, by omega⟩
      obtain ⟨l, hl⟩ : ∃ l, mid = p.length + k + l := ⟨mid - c, by omega⟩
      have huu : u.take k ++ u.drop k = u := List.take_append_drop k u
      have hvv : v.take l ++ v.drop l = v := List.take_append_drop l v
      have hkl : (u.take k).length = k := by rw [List.length_take]; omega
      have hkd : (u.drop k).length = u.length - k := List.length_drop
      have hll : (v.take l).length = l := by rw [List.length_take]; omega
      have hld : (v.drop l).length = v.length - l := List.length_drop
      have A1 : ∀ x ∈ u.drop k, ∀ y ∈ v.take l, ltH y x = true := by
        refine drop_all hP0 fun i hi hil => take_all hP0 fun j hj hjl => ?_
        have := c4 c (Nat.le_refl _) (by omega)
        rw [Bool.not_eq_false', hgu k c hk (by omega), hgv (l - 1) _ (by omega) (by omega)] at this
        cases e : ltH (v.getD j hP0) (u.getD i hP0) with
        | true => rfl
        | false =>
          have e1 := srt_le hP0 wkH hu (i := k) (j := i) (by omega) (by omega)
          have e2 := srt_le hP0 wkH hv (i := j) (j := l - 1) (by omega) (by omega)
          rw [wkH.tr _ _ _ e2 (wkH.tr _ _ _ e e1)] at this
          exact this
      have A2 : ∀ x ∈ u.take k, ∀ y ∈ v.drop l, ltH y x = false := by
        refine take_all hP0 fun i hi hil => drop_all hP0 fun j hj hjl => ?_
        have := c3 (c - 1) (by omega) (by omega)
        rw [Bool.not_eq_true', hgu (k - 1) (c - 1) (by omega) (by omega), hgv l _ (by omega) (by omega)] at this
        have e1 := srt_le hP0 wkH hu (i := i) (j := k - 1) (by omega) (by omega)
        have e2 := srt_le hP0 wkH hv (i := l) (j := j) (by omega) (by omega)
        exact wkH.tr _ _ _ e2 (wkH.tr _ _ _ this e1)
      have T := symT_eq ih p (u.take k) (u.drop k) (v.take l) (v.drop l) q A1 A2 (by rw [huu]; exact hu) (by rw [hvv]; exact hv) (by omega) (by omega) (by rw [huu, hvv]; exact hn) (n := ((mid + (p.length + u.length) : Nat) : Int)) (by omega)
      rw [huu, hvv, ← hxs] at T
      rw [show ((p.length + u.length : Nat) : Int) = ((p.length + (u.take k).length + (u.drop k).length : Nat) : Int) from by omega, show ((p.length + u.length + v.length : Nat) : Int) = ((p.length + (u.take k).length + (u.drop k).length + (v.take l).length + (v.drop l).length : Nat) : Int) from by omega, show ((c : Nat) : Int) = ((p.length + (u.take k).length : Nat) : Int) from by omega, show ((mid : Nat) : Int) = ((p.length + (u.take k).length + (v.take l).length : Nat) : Int) from by omega]
      exact T
    have hh := halfN p.length (p.length + u.length + v.length) (by omega)
    rw [← hxs, G.slices.symMergeCmpFunc_Pane, w64n (n := u.length) (by omega) (by omega), cen (by omega), w64n (n := v.length) (by omega) (by omega), cen (by omega), cdp (by omega), hh, ← hmid]
    have hw : IntKind.wrap .i64 ((mid : Int) + ((p.length + u.length : Nat) : Int)) = ((mid + (p.length + u.length) : Nat) : Int) := w64n (by omega) (by omega)
    simp only [hw]
    rw [w64n (x := ((mid + (p.length + u.length) : Nat) : Int) - 1) (n := mid + (p.length + u.length) - 1) (by omega) (by omega)]
    by_cases hc : mid < p.length + u.length
    · rw [cdp (by omega), w64n (x := ((mid + (p.length + u.length) : Nat) : Int) - ((p.length + u.length + v.length : Nat) : Int)) (n := mid + (p.length + u.length) - (p.length + u.length + v.length)) (by omega) (by omega)]
      exact S _ _ (by omega) (by omega) (by omega) (by omega) (by omega) (by omega) (by omega)
    · rw [cdn (by omega)]
      exact S _ _ (by omega) (by omega) (by omega) (by omega) (by omega) (by omega) (by omega)
def Blks {α : Type} (lt : α → α → Bool) (k : Nat) (bs : List (List α)) : Prop := ∀ b ∈ bs, b.length = k ∧ Srt lt b
section
variable {α : Type} {lt : α → α → Bool}
theorem blk1Loop {γ : Type} (w : Wk lt) (F : Nat → Nat → List α → Option γ) (E : Nat → List α → Option γ) (n k : Nat) (hk : 0 < k)
    (hs : ∀ (m : Nat) (p r q : List α), r.length = k → p.length + k ≤ n → (p ++ (r ++ q)).length = n → F (m + 1) p.length (p ++ (r ++ q)) = F m (p.length + k) (p ++ (isort lt r ++ q)))
    (he : ∀ (a m : Nat) (xs : List α), a ≤ n → xs.length = n → n < a + k → F (m + 1) a xs = E a xs) : ∀ (l m : Nat) (r : List α) (bs : List (List α)), r.length = l → Blks lt k bs → (bs.flatten ++ r).length = n →
      ∃ bs' t, Blks lt k bs' ∧ t.length < k ∧ Sam lt (bs.flatten ++ r) (bs'.flatten ++ t) ∧ (bs'.flatten ++ t).length = n ∧ F (l + 1 + m) bs.flatten.length (bs.flatten ++ r) = E bs'.flatten.length (bs'.flatten ++ t) := by
  intro l
  induction l using Nat.strongRecOn with
  | ind l ih =>
    intro m r bs hr hb hn
    have hn' := hn
    rw [List.length_append] at hn'
    rcases Nat.lt_or_ge r.length k with h | h
    · exact ⟨bs, r, hb, h, Sam.refl _, hn, by rw [show l + 1 + m = (l + m) + 1 from by omega, he _ _ _ (by omega) hn (by omega)]⟩
    · obtain ⟨r1, r2, e, hl⟩ : ∃ r1 r2, r = r1 ++ r2 ∧ r1.length = k := ⟨r.take k, r.drop k, (List.take_append_drop _ _).symm, by simp; omega⟩
      have hrl : r.length = r1.length + r2.length := by rw [e, List.length_append]
      have hil : (isort lt r1).length = k := by rw [isort_len w, hl]
      have hb' : Blks lt k (bs ++ [isort lt r1]) := by
        intro b hbm
        rcases List.mem_append.1 hbm with h1 | h1
        · exact hb b h1
        · rw [List.mem_singleton.1 h1]; exact ⟨hil, isort_srt w r1⟩
      have hfl : (bs ++ [isort lt r1]).flatten = bs.flatten ++ isort lt r1 := by simp
      obtain ⟨bs', t, h1, h2, h3, h4, h5⟩ := ih r2.length (by omega) (l + m - r2.length - 1) r2 (bs ++ [isort lt r1]) rfl hb' (by rw [hfl]; simp only [List.length_append]; omega)
      refine ⟨bs', t, h1, h2, ?_, h4, ?_⟩
      · refine Sam.trans ?_ h3
        rw [hfl, e, ← List.append_assoc]
        exact ((Sam.refl _).app (isort_sam w r1)).app (Sam.refl r2)
      · rw [show l + 1 + m = (l + m) + 1 from by omega, e, hs _ bs.flatten r1 r2 hl (by omega) (by rw [← e]; exact hn), ← h5, hfl, List.length_append, hil, List.append_assoc]
        congr 1
        omega
theorem blk2Loop {γ : Type} (w : Wk lt) (F : Nat → Nat → List α → Option γ) (E : Nat → List α → Option γ) (n k : Nat) (hk : 0 < k) (t : List α) (ht : t.length < k)
    (hs : ∀ (m : Nat) (p u v q : List α), u.length = k → v.length = k → Srt lt u → Srt lt v → p.length + (k + k) ≤ n → (p ++ (u ++ (v ++ q))).length = n → F (m + 1) p.length (p ++ (u ++ (v ++ q))) = F m (p.length + (k + k)) (p ++ (isort lt (u ++ v) ++ q)))
    (he : ∀ (a m : Nat) (xs : List α), a ≤ n → xs.length = n → n < a + (k + k) → F (m + 1) a xs = E a xs) : ∀ (l m : Nat) (bs ds : List (List α)), bs.length = l → Blks lt k bs → Blks lt (k + k) ds → (ds.flatten ++ (bs.flatten ++ t)).length = n →
      ∃ ds' bs', Blks lt (k + k) ds' ∧ Blks lt k bs' ∧ bs'.length ≤ 1 ∧ Sam lt (ds.flatten ++ (bs.flatten ++ t)) (ds'.flatten ++ (bs'.flatten ++ t)) ∧ (ds'.flatten ++ (bs'.flatten ++ t)).length = n ∧ F (l + 1 + m) ds.flatten.length (ds.flatten ++ (bs.flatten ++ t)) = E ds'.flatten.length (ds'.flatten ++ (bs'.flatten ++ t)) := by
  intro l
  induction l using Nat.strongRecOn with
  | ind l ih =>
    intro m bs ds hr hb hd hn
    have hn' := hn
    simp only [List.length_append] at hn'
    match bs, hr, hb with
    | [], hr, hb => exact ⟨ds, [], hd, hb, by simp, Sam.refl _, hn, by simp only [List.flatten_nil, List.length_nil] at hn'; rw [show l + 1 + m = (l + m) + 1 from by omega, he _ _ _ (by omega) hn (by omega)]⟩
    | [b], hr, hb =>
      have := (hb b (by simp)).1
      exact ⟨ds, [b], hd, hb, by simp, Sam.refl _, hn, by simp only [List.flatten_cons, List.flatten_nil, List.append_nil] at hn'; rw [show l + 1 + m = (l + m) + 1 from by omega, he _ _ _ (by omega) hn (by omega)]⟩
    | u :: v :: bs, hr, hb =>
      have hu := hb u (by simp)
      have hv := hb v (by simp)
      have hil : (isort lt (u ++ v)).length = k + k := by rw [isort_len w, List.length_append, hu.1, hv.1]
      have hd' : Blks lt (k + k) (ds ++ [isort lt (u ++ v)]) := by
        intro b hbm
        rcases List.mem_append.1 hbm with h1 | h1
        · exact hd b h1
        · rw [List.mem_singleton.1 h1]; exact ⟨hil, isort_srt w _⟩
      have hfl : (ds ++ [isort lt (u ++ v)]).flatten = ds.flatten ++ isort lt (u ++ v) := by simp
      have e : ds.flatten ++ ((u :: v :: bs).flatten ++ t) = ds.flatten ++ (u ++ (v ++ (bs.flatten ++ t))) := by simp
      have hl2 : bs.length + 2 = l := by simpa using hr
      rw [e] at hn ⊢
      have hn2 := hn
      simp only [List.length_append] at hn2
      obtain ⟨ds', bs', h1, h2, h3, h4, h5, h6⟩ := ih bs.length (by omega) (l + m - bs.length - 1) bs (ds ++ [isort lt (u ++ v)]) rfl (fun b hbm => hb b (List.mem_cons_of_mem _ (List.mem_cons_of_mem _ hbm))) hd' (by rw [hfl]; simp only [List.length_append]; omega)
      refine ⟨ds', bs', h1, h2, h3, ?_, h5, ?_⟩
      · refine Sam.trans ?_ h4
        rw [hfl, show ds.flatten ++ (u ++ (v ++ (bs.flatten ++ t))) = (ds.flatten ++ (u ++ v)) ++ (bs.flatten ++ t) from by simp]
        exact ((Sam.refl _).app (isort_sam w _)).app (Sam.refl _)
      · rw [show l + 1 + m = (l + m) + 1 from by omega, hs _ ds.flatten u v (bs.flatten ++ t) hu.1 hv.1 hu.2 hv.2 (by omega) hn, ← h6, hfl, List.length_append, hil, List.append_assoc]
        congr 1
        omega
end
theorem fu_big : 2097152 ≤ fu := by
  obtain ⟨M, hM⟩ := fu_ge 2097152 (by omega)
  omega
theorem stab_eq (xs : List HPane) (hn : xs.length ≤ 1048576) : G.slices.SortStableFunc_Pane xs = some (isort ltH xs) := by
  have hmerge : MergeOk (G.slices.symMergeCmpFunc_Pane fu) fu := sym_ok fu
  have hfu := fu_big
  -- the merging rounds
  have R : ∀ (l m k : Nat) (bs : List (List HPane)) (t : List HPane), xs.length - k = l → 0 < k → k ≤ 2097152 → Blks ltH k bs → t.length < k → Srt ltH t → Sam ltH xs (bs.flatten ++ t) → (bs.flatten ++ t).length = xs.length →
      G.slices.stableCmpFunc_Pane_l1 (l + 1 + m) (fun y40 => (some y40)) (xs.length : Int) (k : Int) (bs.flatten ++ t) = some (isort ltH xs) := by
    intro l
    induction l using Nat.strongRecOn with
    | ind l ih =>
      intro m k bs t hl hk hk2 hb ht hts hsam hlen
      rw [show l + 1 + m = (l + m) + 1 from by omega, G.slices.stableCmpFunc_Pane_l1]
      by_cases hkn : k < xs.length
      · rw [cdp (by omega), w64n (n := k + k) (by omega) (by omega)]
        obtain ⟨W, hW⟩ := fu_ge bs.length (by
          have : bs.length ≤ bs.flatten.length := by
            clear ih hsam hlen
            induction bs with
            | nil => simp
            | cons b bs ihb =>
              have h1 := (hb b (by simp)).1
              have h2 := ihb (fun c hc => hb c (List.mem_cons_of_mem _ hc))
              simp only [List.length_cons, List.flatten_cons, List.length_append]
              omega
          rw [List.length_append] at hlen
          omega)
        obtain ⟨ds', bs', h1, h2, h3, h4, h5, h6⟩ := blk2Loop wkH (fun m' a ys => G.slices.stableCmpFunc_Pane_l2 m' (fun y31 y32 y33 y34 =>
            (let v35 : Int := (IntKind.wrap .i64 (y33 + y32))
            (bif (decide (v35 < y31)) then
            (Option.bind (G.slices.symMergeCmpFunc_Pane fu y33 v35 y31 y34) fun r37 =>
            (keep shPh y34 r37
            (G.slices.stableCmpFunc_Pane_l1 (l + m) (fun y40 => (some y40)) y31 (IntKind.wrap .i64 (y32 * 2)) r37)))
            else
            (G.slices.stableCmpFunc_Pane_l1 (l + m) (fun y40 => (some y40)) y31 (IntKind.wrap .i64 (y32 * 2)) y34)))) (xs.length : Int) (k : Int) (a : Int) ((a + (k + k) : Nat) : Int) ys)
          (fun a ys => bif decide (((a + k : Nat) : Int) < (xs.length : Int)) then (Option.bind (G.slices.symMergeCmpFunc_Pane fu (a : Int) ((a + k : Nat) : Int) (xs.length : Int) ys) fun r37 => (keep shPh ys r37 (G.slices.stableCmpFunc_Pane_l1 (l + m) (fun y40 => (some y40)) (xs.length : Int) ((k + k : Nat) : Int) r37))) else G.slices.stableCmpFunc_Pane_l1 (l + m) (fun y40 => (some y40)) (xs.length : Int) ((k + k : Nat) : Int) ys) xs.length k hk t ht
          (fun m' p u v q g1 g2 g3 g4 g5 g6 => by
            show G.slices.stableCmpFunc_Pane_l2 (m' + 1) _ _ _ _ _ _ = G.slices.stableCmpFunc_Pane_l2 m' _ _ _ _ _ _
            rw [G.slices.stableCmpFunc_Pane_l2, cdp (by omega), w64n (x := (p.length : Int) + (k : Int)) (n := p.length + k) (by omega) (by omega), w64n (x := 2 * (k : Int)) (n := k + k) (by omega) (by omega), w64n (x := ((p.length + (k + k) : Nat) : Int) + ((k + k : Nat) : Int)) (n := p.length + (k + k) + (k + k)) (by omega) (by omega)]
            have := hmerge p u v q (by omega) (by omega) (by omega) g3 g4 (by omega)
            rw [show ((p.length + k : Nat) : Int) = ((p.length + u.length : Nat) : Int) from by omega, show ((p.length + (k + k) : Nat) : Int) = ((p.length + u.length + v.length : Nat) : Int) from by omega, this, Option.bind_some]
            exact keep_perm (perm_two _ _ _ _ _ (isort_perm wkH _)) _)
          (fun a m' ys g0 g2 g1 => by
            show G.slices.stableCmpFunc_Pane_l2 (m' + 1) _ _ _ _ _ _ = _
            rw [G.slices.stableCmpFunc_Pane_l2, cdn (by omega), w64 (n := (k : Int) * 2) (by omega) (by omega), show (k : Int) * 2 = ((k + k : Nat) : Int) from by omega, w64n (n := a + k) (by omega) (by omega)])
          bs.length W bs [] rfl hb (fun b hb => by cases hb) (by simpa using hlen)
        rw [← hW] at h6
        simp only [List.flatten_nil, List.length_nil, Nat.zero_add, List.nil_append] at h6
        refine Eq.trans ?_ (h6.trans ?_)
        · rfl
        rw [List.flatten_nil, List.nil_append] at h4
        have hsam' := hsam.trans h4
        have fin : ∀ t' : List HPane, t'.length < k + k → Srt ltH t' → Sam ltH (bs'.flatten ++ t) t' → G.slices.stableCmpFunc_Pane_l1 (l + m) (fun y40 => (some y40)) (xs.length : Int) ((k + k : Nat) : Int) (ds'.flatten ++ t') = some (isort ltH xs) := by
          intro t' q1 q2 q3
          have hp := (q3.perm wkH).length_eq
          have := ih (xs.length - (k + k)) (by omega) (l + m - (xs.length - (k + k)) - 1) (k + k) ds' t' rfl (by omega) (by omega) h1 q1 q2 (hsam'.trans ((Sam.refl _).app q3)) (by rw [List.length_append] at h5 ⊢; omega)
          rw [show xs.length - (k + k) + 1 + (l + m - (xs.length - (k + k)) - 1) = l + m from by omega] at this
          exact this
        have h5' := h5
        simp only [List.length_append] at h5'
        match bs', h2, h3, fin, h5' with
        | [], _, _, fin, h5' =>
          rw [cdn (by simp only [List.flatten_nil, List.length_nil] at h5'; omega)]
          exact fin t (by omega) hts (by simpa using Sam.refl t)
        | [b], h2, _, fin, h5' =>
          have hbl := h2 b (by simp)
          have hfb : ([b] : List (List HPane)).flatten = b := by simp
          rw [hfb] at fin h5' ⊢
          rcases Nat.eq_zero_or_pos t.length with ht0 | ht0
          · obtain rfl : t = [] := List.length_eq_zero_iff.1 ht0
            rw [cdn (by simp only [List.length_nil] at h5'; omega)]
            exact fin (b ++ []) (by simp; omega) (by simpa using hbl.2) (Sam.refl _)
          · rw [cdp (by omega)]
            have := hmerge ds'.flatten b t [] (by omega) (by omega) ht0 hbl.2 hts (by simp only [List.length_append, List.length_nil]; omega)
            rw [List.append_nil, List.append_nil, show ((ds'.flatten.length + b.length : Nat) : Int) = ((ds'.flatten.length + k : Nat) : Int) from by omega, show ((ds'.flatten.length + b.length + t.length : Nat) : Int) = (xs.length : Int) from by omega] at this
            rw [this, Option.bind_some]
            refine (keep_perm ?_ _).trans (fin _ (by rw [isort_len wkH, List.length_append]; omega) (isort_srt wkH _) (isort_sam wkH _))
            exact List.Perm.append_left _ (isort_perm wkH _)
      · rw [cdn (by omega)]
        congr 1
        refine isort_uniq wkH ?_ hsam
        match bs, hb with
        | [], _ => simpa using hts
        | [b], hb =>
          have hbl := hb b (by simp)
          simp only [List.flatten_cons, List.flatten_nil, List.append_nil, List.length_append] at hlen
          obtain rfl : t = [] := List.length_eq_zero_iff.1 (by omega)
          simpa using hbl.2
        | b :: c :: bs, hb =>
          have h1 := (hb b (by simp)).1
          have h2 := (hb c (by simp)).1
          simp only [List.flatten_cons, List.length_append] at hlen
          omega
  have hS : G.slices.stableCmpFunc_Pane (xs.length : Int) xs = some (isort ltH xs) := by
    unfold G.slices.stableCmpFunc_Pane
    obtain ⟨W, hW⟩ := fu_ge xs.length (by omega)
    obtain ⟨bs', t, h1, h2, h3, h4, h5⟩ := blk1Loop wkH (fun m a ys => G.slices.stableCmpFunc_Pane_l0 m (fun y11 y12 y13 y14 =>
        (Option.bind (G.slices.insertionSortCmpFunc_Pane y13 y11 y14) fun r15 =>
        (keep shPh y14 r15
        (G.slices.stableCmpFunc_Pane_l1 fu (fun y40 =>
        (some y40)) y11 y12 r15)))) (xs.length : Int) 20 (a : Int) ((a + 20 : Nat) : Int) ys)
      (fun a ys => (Option.bind (G.slices.insertionSortCmpFunc_Pane (a : Int) (xs.length : Int) ys) fun r15 => (keep shPh ys r15 (G.slices.stableCmpFunc_Pane_l1 fu (fun y40 => (some y40)) (xs.length : Int) 20 r15)))) xs.length 20 (by omega)
      (fun m p r q g1 g2 g3 => by
        show G.slices.stableCmpFunc_Pane_l0 (m + 1) _ _ _ _ _ _ = G.slices.stableCmpFunc_Pane_l0 m _ _ _ _ _ _
        rw [G.slices.stableCmpFunc_Pane_l0, cdp (by omega), w64n (x := ((p.length + 20 : Nat) : Int) + 20) (n := p.length + 20 + 20) (by omega) (by omega)]
        have := ins_eq p r q (by omega)
        rw [show ((p.length + 20 : Nat) : Int) = ((p.length + r.length : Nat) : Int) from by omega, this, Option.bind_some]
        refine keep_perm (List.Perm.append_left p (List.Perm.append_right q (isort_perm wkH r))) _)
      (fun a m ys g0 g2 g1 => by
        show G.slices.stableCmpFunc_Pane_l0 (m + 1) _ _ _ _ _ _ = _
        rw [G.slices.stableCmpFunc_Pane_l0, cdn (by omega)])
      xs.length W xs [] rfl (fun b hb => by cases hb) (by simp)
    rw [← hW] at h5
    refine Eq.trans (b := G.slices.stableCmpFunc_Pane_l0 fu _ (xs.length : Int) 20 ((([] : List (List HPane)).flatten.length : Nat) : Int) ((([] : List (List HPane)).flatten.length + 20 : Nat) : Int) (([] : List (List HPane)).flatten ++ xs)) rfl (h5.trans ?_)
    rw [List.flatten_nil, List.nil_append] at h3
    have := ins_eq bs'.flatten t [] (by rw [List.append_nil, h4]; exact hn)
    rw [List.append_nil, List.append_nil, show ((bs'.flatten.length + t.length : Nat) : Int) = (xs.length : Int) from by rw [List.length_append] at h4; omega] at this
    rw [this, Option.bind_some]
    refine (keep_perm (List.Perm.append_left _ (isort_perm wkH t)) _).trans ?_
    obtain ⟨W2, hW2⟩ := fu_ge (xs.length - 20) (by omega)
    rw [hW2]
    exact R _ W2 20 bs' (isort ltH t) rfl (by omega) (by omega) h1 (by rw [isort_len wkH]; exact h2) (isort_srt wkH t) (h3.trans ((Sam.refl _).app (isort_sam wkH t))) (by rw [List.length_append, isort_len wkH, ← List.length_append]; exact h4)
  unfold G.slices.SortStableFunc_Pane
  rw [hS, Option.bind_some]
  exact keep_perm (isort_perm wkH xs) _
abbrev panD : TPane := ((0 : Int), ((0 : Int), ((0 : Int), ((0 : Int), ((0 : Int), ((0 : Int), ([], false)))))))
def ltT (x y : TPane) : Bool := lt4 x.1 x.2.1 x.2.2.1 x.2.2.2.1 y.1 y.2.1 y.2.2.1 y.2.2.2.1
theorem wkT : Wk ltT where
  asy a b h := by
    simp only [ltT, lt4, decide_eq_true_eq, decide_eq_false_iff_not] at h ⊢
    omega
  tr a b c h k := by
    simp only [ltT, lt4, decide_eq_false_iff_not] at h k ⊢
    omega
theorem ins_map {α β : Type} {lt : α → α → Bool} {lt' : β → β → Bool} (f : α → β) (h : ∀ x y, lt x y = lt' (f x) (f y)) (s : List α) (v : α) : (ins lt s v).map f = ins lt' (s.map f) (f v) := by
  have h1 : ∀ l : List α, (l.dropWhile fun t => lt v t).map f = (l.map f).dropWhile fun t => lt' (f v) t := by
    intro l
    induction l with
    | nil => rfl
    | cons x l ih => rw [List.dropWhile_cons, List.map_cons, List.dropWhile_cons, h]; split <;> simp_all
  have h2 : ∀ l : List α, (l.takeWhile fun t => lt v t).map f = (l.map f).takeWhile fun t => lt' (f v) t := by
    intro l
    induction l with
    | nil => rfl
    | cons x l ih => rw [List.takeWhile_cons, List.map_cons, List.takeWhile_cons, h]; split <;> simp_all
  simp only [ins, List.map_append, List.map_cons, List.map_reverse, h1, h2]
theorem isort_map {α β : Type} {lt : α → α → Bool} {lt' : β → β → Bool} (f : α → β) (h : ∀ x y, lt x y = lt' (f x) (f y)) (xs : List α) : (isort lt xs).map f = isort lt' (xs.map f) := by
  have : ∀ (xs s : List α), (xs.foldl (ins lt) s).map f = (xs.map f).foldl (ins lt') (s.map f) := by
    intro xs
    induction xs with
    | nil => intro s; rfl
    | cons x xs ih => intro s; rw [List.foldl_cons, List.map_cons, List.foldl_cons, ih, ins_map f h]
  exact this xs []
theorem paneLess_eq (a1 a2 a3 a4 a5 a6 : Int) (a7 : Bool) (a8 a9 a10 a11 a12 a13 : Int) (a14 : Bool) (a15 a16 : List Int) : S.PaneLess a1 a2 a3 a4 a5 a6 a7 a8 a9 a10 a11 a12 a13 a14 a15 a16 = some (lt4 a1 a2 a3 a4 a8 a9 a10 a11) := by
  unfold S.PaneLess lt4
  by_cases h1 : a1 = a8
  · rw [cnn h1]
    by_cases h2 : a2 = a9
    · rw [cnn h2]
      by_cases h3 : a3 = a10
      · rw [cnn h3]
        exact sdec (by omega)
      · rw [cnp h3]
        exact sdec (by omega)
    · rw [cnp h2]
      exact sdec (by omega)
  · rw [cnp h1]
    exact sdec (by omega)
theorem placeLoop {α γ : Type} {lt : α → α → Bool} (d : α) (F : Nat → Nat → Option γ) (E : Nat → Option γ) (s : List α) (v : α)
    (hs : ∀ (j m : Nat), 0 < j → j ≤ s.length → F (m + 1) j = bif lt v (s.getD (j - 1) d) then F m (j - 1) else E j) (he : ∀ m : Nat, F (m + 1) 0 = E 0) (m : Nat) :
    ∃ k, k ≤ s.length ∧ ins lt s v = s.take k ++ v :: s.drop k ∧ F (s.length + 1 + m) s.length = E k := by
  have h1 : ∀ (s0 t : List α) (m : Nat), s = s0 ++ t → (∀ x ∈ t, lt v x = true) → ∃ k, k ≤ s.length ∧ ins lt s v = s.take k ++ v :: s.drop k ∧ F (s0.length + 1 + m) s0.length = E k := by
    intro s0
    generalize hk : s0.length = k
    induction k generalizing s0 with
    | zero =>
      intro t m e ht
      obtain rfl : s0 = [] := List.length_eq_zero_iff.1 hk
      refine ⟨0, by omega, ?_, by rw [show 0 + 1 + m = m + 1 from by omega, he]⟩
      have e' : s = t := e
      subst e'
      have h2 : ∀ l : List α, (∀ x ∈ l, lt v x = true) → (l.dropWhile fun t => lt v t) = [] ∧ (l.takeWhile fun t => lt v t) = l := by
        intro l hl
        induction l with
        | nil => exact ⟨rfl, rfl⟩
        | cons y l ih =>
          have hy := hl y (by simp)
          have := ih fun x hx => hl x (List.mem_cons_of_mem _ hx)
          rw [List.dropWhile_cons, List.takeWhile_cons, hy]
          exact ⟨this.1, by rw [if_pos rfl, this.2]⟩
      obtain ⟨g1, g2⟩ := h2 s.reverse (fun x hx => ht x (List.mem_reverse.1 hx))
      simp [ins, g1, g2]
    | succ k ih =>
      intro t m e ht
      rcases List.eq_nil_or_concat s0 with e0 | ⟨s1, y, e0⟩
      · rw [e0] at hk; cases hk
      rw [List.concat_eq_append] at e0
      subst e0
      have hk' : s1.length = k := by simpa using hk
      have hsl : s.length = k + 1 + t.length := by rw [e]; simp; omega
      have hg : s.getD (k + 1 - 1) d = y := by
        rw [e, show s1 ++ [y] ++ t = s1 ++ y :: t from by simp]
        exact get_at' d s1 y t (by omega)
      rw [show k + 1 + 1 + m = (k + 1 + m) + 1 from by omega, hs _ _ (by omega) (by omega), hg]
      cases hv : lt v y with
      | true =>
        rw [cond_true]
        exact ih s1 hk' (y :: t) m (by rw [e]; simp) (fun x hx => by
          rcases List.mem_cons.1 hx with h | h
          · rw [h]; exact hv
          · exact ht x h)
      | false =>
        rw [cond_false]
        refine ⟨k + 1, by omega, ?_, rfl⟩
        have h2 : ∀ l r : List α, (∀ x ∈ l, lt v x = true) → ((l ++ y :: r).dropWhile fun t => lt v t) = y :: r ∧ ((l ++ y :: r).takeWhile fun t => lt v t) = l := by
          intro l r hl
          induction l with
          | nil => simp [hv]
          | cons z l ih =>
            have hz := hl z (by simp)
            have := ih fun x hx => hl x (List.mem_cons_of_mem _ hx)
            rw [List.cons_append, List.dropWhile_cons, List.takeWhile_cons, hz]
            exact ⟨this.1, by rw [if_pos rfl, this.2]⟩
        obtain ⟨g1, g2⟩ := h2 t.reverse s1.reverse (fun x hx => ht x (List.mem_reverse.1 hx))
        have er : s.reverse = t.reverse ++ y :: s1.reverse := by rw [e]; simp
        have et : s.take (k + 1) = s1 ++ [y] := by rw [e]; exact List.take_left' (by simp; omega)
        have ed : s.drop (k + 1) = t := by rw [e]; exact List.drop_left' (by simp; omega)
        rw [et, ed]
        simp only [ins, er, g1, g2]
        simp
  have := h1 s [] m (by simp) (fun x hx => by cases hx)
  exact this
theorem sPanesSort_eq (a : List TPane) (hn : a.length ≤ 1048576) (hv : ∀ x ∈ a, x.2.2.2.2.2.2.1.length ≤ 1048576) : S.PanesSort a = some (isort ltT a) := by
  unfold S.PanesSort
  obtain ⟨W, hW⟩ := fu_ge a.length (by omega)
  have R : ∀ (l m i : Nat) (s : List TPane), l = a.length - i → i ≤ a.length → s.length = i → S.PanesSort_l0 (l + 1 + m) (fun y25 => (some y25)) (i : Int) a s = some ((a.drop i).foldl (ins ltT) s) := by
    intro l
    induction l with
    | zero =>
      intro m i s hl hi hs
      obtain rfl : i = a.length := by omega
      rw [show 0 + 1 + m = m + 1 from by omega, S.PanesSort_l0, cdn (by omega), List.drop_of_length_le (by omega)]
      rfl
    | succ l ih =>
      intro m i s hl hi hs
      obtain ⟨x, hx⟩ : ∃ x, x = nthI a (i : Int) panD := ⟨_, rfl⟩
      have hil : (ins ltT s x).length = i + 1 := by
        obtain ⟨s1, s2, e, hi2, _, _⟩ := ins_split (lt := ltT) s x
        rw [hi2, ← hs, e]; simp; omega
      rw [show l + 1 + 1 + m = (l + 1 + m) + 1 from by omega, S.PanesSort_l0, cdp (by omega), drop_at a i panD (by omega), ← hx, List.foldl_cons, ← ih m (i + 1) (ins ltT s x) (by omega) (by omega) hil]
      obtain ⟨W2, hW2⟩ := fu_ge s.length (by omega)
      have hd1 : decide ((0 : Int) ≤ (i : Int) ∧ (i : Int) < (a.length : Int)) = true := decide_eq_true (by omega)
      have hxl := hv x (by rw [hx]; exact nthI_mem a i panD (by omega))
      have P := placeLoop (lt := ltT) panD (fun m' j => S.PanesSort_l1 m' (fun y16 y17 y18 y19 =>
        (bif decide ((0 : Int) ≤ y16 ∧ y16 < (y18.length : Int)) then
        (bif decide ((0 : Int) ≤ y17 ∧ y17 ≤ (y19.length : Int) ∧ (y19.length : Int) ≤ (y19.length : Int)) then
        (Option.bind (S.l08Copy ((nthI y18 y16 panD).1) ((nthI y18 y16 panD).2.1) ((nthI y18 y16 panD).2.2.1) ((nthI y18 y16 panD).2.2.2.1) ((nthI y18 y16 panD).2.2.2.2.1) ((nthI y18 y16 panD).2.2.2.2.2.1) ((nthI y18 y16 panD).2.2.2.2.2.2.2) ((nthI y18 y16 panD).2.2.2.2.2.2.1)) fun r20 =>
        (let v21 : List TPane := [(r20.1, (r20.2.1, (r20.2.2.1, (r20.2.2.2.1, (r20.2.2.2.2.1, (r20.2.2.2.2.2.1, (r20.2.2.2.2.2.2.2, r20.2.2.2.2.2.2.1)))))))]
        (bif decide ((v21.length + ((y19.take (Int.toNat (y19.length : Int))).drop (Int.toNat y17)).length) * 80 ≤ 140737488355328) then
        (let v22 : List TPane := (v21 ++ ((y19.take (Int.toNat (y19.length : Int))).drop (Int.toNat y17)))
        (bif decide ((0 : Int) ≤ 0 ∧ 0 ≤ y17 ∧ y17 ≤ ((y19.take (Int.toNat y17)).length : Int)) then
        (bif decide ((([] : List TPane).length + (((y19.take (Int.toNat y17)).take (Int.toNat y17)).drop (Int.toNat 0)).length) * 80 ≤ 140737488355328) then
        (let v23 : List TPane := (([] : List TPane) ++ (((y19.take (Int.toNat y17)).take (Int.toNat y17)).drop (Int.toNat 0)))
        (bif decide ((v23.length + v22.length) * 80 ≤ 140737488355328) then
        (S.PanesSort_l0 (l + 1 + m) (fun y25 => (some y25)) (IntKind.wrap .i64 (y16 + 1)) y18 (v23 ++ v22))
        else
        none))
        else
        none)
        else
        none))
        else
        none)))
        else
        none)
        else
        none)) (i : Int) (j : Int) a s) (fun k => S.PanesSort_l0 (l + 1 + m) (fun y25 => (some y25)) ((i + 1 : Nat) : Int) a (s.take k ++ x :: s.drop k)) s x (fun j m' h1 h2 => ?_) (fun m' => ?_) W2
      · obtain ⟨k, k1, k2, k3⟩ := P
        rw [← hW2] at k3
        rw [k2]
        exact k3
      · show S.PanesSort_l1 (m' + 1) _ _ _ _ _ = bif _ then S.PanesSort_l1 m' _ _ _ _ _ else _
        have hw : IntKind.wrap .i64 ((j : Int) - 1) = ((j - 1 : Nat) : Int) := w64n (by omega) (by omega)
        have hw2 : IntKind.wrap .i64 ((i : Int) + 1) = ((i + 1 : Nat) : Int) := w64n (by omega) (by omega)
        have hd2 : decide ((0 : Int) ≤ ((j - 1 : Nat) : Int) ∧ ((j - 1 : Nat) : Int) < (s.length : Int)) = true := decide_eq_true (by omega)
        have hd3 : decide ((0 : Int) ≤ (j : Int) ∧ (j : Int) ≤ (s.length : Int) ∧ (s.length : Int) ≤ (s.length : Int)) = true := decide_eq_true (by omega)
        have htl : (s.take j).length = j := by rw [List.length_take]; omega
        have hd4 : decide ((0 : Int) ≤ 0 ∧ 0 ≤ (j : Int) ∧ (j : Int) ≤ (((s.take j).length : Nat) : Int)) = true := decide_eq_true (by omega)
        have hta : s.take s.length = s := List.take_of_length_le (Nat.le_refl _)
        have htt : (s.take j).take j = s.take j := by rw [List.take_take, Nat.min_self]
        have hlt : ltT x (s.getD (j - 1) panD) = lt4 (nthI a (i : Int) panD).1 (nthI a (i : Int) panD).2.1 (nthI a (i : Int) panD).2.2.1 (nthI a (i : Int) panD).2.2.2.1 (nthI s ((j - 1 : Nat) : Int) panD).1 (nthI s ((j - 1 : Nat) : Int) panD).2.1 (nthI s ((j - 1 : Nat) : Int) panD).2.2.1 (nthI s ((j - 1 : Nat) : Int) panD).2.2.2.1 := by rw [hx]; rfl
        rw [S.PanesSort_l1, cdp (by omega), hlt]
        simp only [hw, hw2, hd1, hd2, hd3, cond_true, paneLess_eq, Option.bind_some, Int.toNat_natCast, hta, ← hx, l08Copy_eq _ _ _ _ _ _ _ _ hxl, hd4, htt, Int.toNat_zero, List.drop_zero, List.nil_append]
        rw [cdp (by simp only [List.length_cons, List.length_nil, List.length_drop]; omega), cdp (by simp only [List.length_nil, htl]; omega), cdp (by simp only [List.length_append, List.length_cons, List.length_nil, List.length_drop, htl]; omega)]
        rfl
      · show S.PanesSort_l1 (m' + 1) _ _ _ _ _ = _
        have hw2 : IntKind.wrap .i64 ((i : Int) + 1) = ((i + 1 : Nat) : Int) := w64n (by omega) (by omega)
        have hd3 : decide ((0 : Int) ≤ ((0 : Nat) : Int) ∧ ((0 : Nat) : Int) ≤ (s.length : Int) ∧ (s.length : Int) ≤ (s.length : Int)) = true := decide_eq_true (by omega)
        have hta : s.take s.length = s := List.take_of_length_le (Nat.le_refl _)
        have hd4 : decide ((0 : Int) ≤ 0 ∧ 0 ≤ ((0 : Nat) : Int) ∧ ((0 : Nat) : Int) ≤ (((s.take 0).length : Nat) : Int)) = true := decide_eq_true (by simp)
        rw [S.PanesSort_l1, cdn (by omega)]
        simp only [hw2, hd1, hd3, cond_true, Option.bind_some, Int.toNat_natCast, hta, ← hx, l08Copy_eq _ _ _ _ _ _ _ _ hxl, hd4, Int.toNat_zero, List.drop_zero, List.nil_append]
        rw [cdp (by simp only [List.length_cons, List.length_nil]; omega), cdp (by simp), cdp (by simp only [List.length_append, List.length_cons, List.length_nil, List.take_zero]; omega)]
        simp only [List.take_zero, List.take_nil, List.nil_append]
        rfl
  rw [hW]
  exact R a.length W 0 [] rfl (by omega) rfl
theorem iPanesSort_eq (a : List TPane) (hn : a.length ≤ 1048576) (hv : ∀ x ∈ a, x.2.2.2.2.2.2.1.length ≤ 1048576) : I.PanesSort a = some (isort ltT a) := by
  unfold I.PanesSort
  have C : ∀ E : List TPane → Option (List TPane), I.PanesSort_l0 fu E (a.length : Int) 0 [] a = E a := by
    intro E
    refine copyLoop (fun m i acc => I.PanesSort_l0 m E (a.length : Int) i acc a) a panD E (by omega) (fun i m acc hi hacc => ?_) (fun m acc => ?_)
    · show I.PanesSort_l0 (m + 1) _ _ _ _ _ = I.PanesSort_l0 m _ _ _ _ _
      have hdec : decide ((0 : Int) ≤ (i : Int) ∧ (i : Int) < (a.length : Int)) = true := decide_eq_true (by omega)
      have hx := hv _ (nthI_mem a i panD hi)
      rw [I.PanesSort_l0, cdp (by omega)]
      simp only [hdec, cond_true, paneCopied_eq _ _ _ _ _ _ _ _ hx, Option.bind_some]
      rw [cdp (by simp only [List.length_cons, List.length_nil]; omega), w64 (by omega) (by omega)]
      rfl
    · show I.PanesSort_l0 (m + 1) _ _ _ _ _ = _
      rw [I.PanesSort_l0, cdn (by omega)]
  rw [C]
  refine anyH_eq (s := shP) fun hs hl hnd => ?_
  have hzl : (List.zipWith (Sh.att shP) hs a).length ≤ 1048576 := Nat.le_trans (Nat.le_of_eq List.length_zipWith) (Nat.le_trans (Nat.min_le_right _ _) hn)
  have h1 : List.map (Sh.bare shP) (List.zipWith (Sh.att shP) hs a) = a := zip_bare shP hs a hl
  have hb : List.map (Sh.bare shP) (isort ltH (List.zipWith (Sh.att shP) hs a)) = isort ltT a := (isort_map (lt := ltH) (lt' := ltT) (Sh.bare shP) (fun x y => rfl) _).trans (congrArg (isort ltT) h1)
  exact (congrArg (fun o : Option (List HPane) => Option.bind o fun r9 => thaw shP (List.zipWith (Sh.att shP) hs a) r9 (some (List.map (Sh.bare shP) r9 : List TPane))) (stab_eq _ hzl)).trans ((thaw_eq (thaw_part (s := shP) rfl hl hnd (isort_perm wkH _).symm (List.Sublist.refl _))).trans (congrArg some hb))

theorem wPaneS_le (q : List TPane) : wPaneS q ≤ 7 * cPaneS q := by
  unfold wPaneS cPaneS
  induction q with
  | nil => simp
  | cons x q ih =>
    have : w1Pane x = 7 + 1 * cPane x := rfl
    simp only [List.map_cons, List.sum_cons, List.length_cons]
    omega
theorem FnExactPanesSort : StmtFnExactPanesSort.Stmt := by
  intro a ha
  have hsz := szPaneS_eq 1048576 a (by omega) (by omega) ha
  unfold L.FnExactPanesSort
  rw [hsz, Option.bind_some]
  by_cases hl : ((cPaneS a : Nat) : Int) ≤ 1048576
  · have hla : a.length ≤ cPaneS a := by unfold cPaneS; omega
    have hva : ∀ x ∈ a, x.2.2.2.2.2.2.1.length ≤ 1048576 := fun x hx => by have := cPaneS_mem hx; have h2 : cPane x = x.2.2.2.2.2.2.1.length := rfl; omega
    have hto := toPaneS_eq a (by omega)
    have heq := eqPaneS_eq a a (by omega)
    have hwa := wPaneS_le a
    have hmk := markPaneS_eq 1 a (by omega) (by omega) (by omega)
    rw [if_pos hl, cdn (by omega)]
    have hS := sPanesSort_eq a (by omega) hva
    have hI := iPanesSort_eq a (by omega) hva
    obtain ⟨w, hw⟩ : ∃ w : List TPane, w = isort ltT a := ⟨_, rfl⟩
    rw [← hw] at hS hI
    have hp : a.Perm w := by rw [hw]; exact isort_perm wkT a
    have hwb : cPaneS w = cPaneS a := by
      unfold cPaneS
      rw [hp.length_eq, (hp.map cPane).sum_nat]
    have hlw : w.length ≤ cPaneS w := by unfold cPaneS; omega
    have hww := wPaneS_le w
    have he := eqPaneS_eq w w (by omega)
    have hm := markPaneS_eq 1 w (by omega) (by omega) (by omega)
    have hh := heldPaneS_eq 1 w (by omega) (by omega) (by omega)
    have d1 : decide ((1 : Int) + ((wPaneS a : Nat) : Int) < 0) = false := decide_eq_false (by omega)
    have d2 : decide ((1 : Int) + ((wPaneS w : Nat) : Int) < 0) = false := decide_eq_false (by omega)
    simp only [hto, hS, hI, heq, hmk, he, hm, hh, d1, d2, Option.bind_some, decide_true, beq_self_eq_true, Bool.not_true, cond_false, bne_self_eq_false]
  · rw [if_neg hl, cdp (by omega)]
end Go.Proofs.Ytipipipngmenoaa.Pure
