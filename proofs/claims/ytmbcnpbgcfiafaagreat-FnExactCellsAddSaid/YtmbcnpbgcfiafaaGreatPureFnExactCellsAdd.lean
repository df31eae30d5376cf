/- CellsAdd of the program returns what the reference's returns. For every argument. -/
import Derived.Test.YtmbcnpbgcfiafaaGreatStmtFnExactCellsAdd
import Derived.Laws.BitsLemmas
import Derived.Laws.BitsAllLaws
import Derived.Laws.Bits64b
namespace Go.Proofs.YtmbcnpbgcfiafaaGreat.Pure
open Go Go.RowKit Go.Proofs.YtmbcnpbgcfiafaaGreat.Run Go.Proofs.YtmbcnpbgcfiafaaGreat.StmtFnExactCellsAdd Go.Proofs.YtmbcnpbgcfiafaaGreatW.PrintWords Go.Proofs.YtmbcnpbgcfiafaaGreat.Vm
set_option linter.unusedVariables false
set_option linter.unusedSimpArgs false
set_option linter.unusedSectionVars false
theorem cdp {α : Type} {p : Prop} [Decidable p] {a b : α} (h : p) : (bif decide p then a else b) = a := by simp [h]
theorem cdn {α : Type} {p : Prop} [Decidable p] {a b : α} (h : ¬ p) : (bif decide p then a else b) = b := by simp [h]
theorem cnp {α : Type} {x y : Int} {a b : α} (h : x ≠ y) : (bif (x != y) then a else b) = a := by rw [show (x != y) = true from by simpa using h]; rfl
theorem cnn {α : Type} {x y : Int} {a b : α} (h : x = y) : (bif (x != y) then a else b) = b := by simp [bne, h]
theorem cep {α : Type} {x y : Int} {a b : α} (h : x = y) : (bif (x == y) then a else b) = a := by simp [h]
theorem cen {α : Type} {x y : Int} {a b : α} (h : x ≠ y) : (bif (x == y) then a else b) = b := by rw [show (x == y) = false from by simpa using h]; rfl
theorem cond_some {α : Type} (c : Bool) (x y : α) : (bif c then some x else some y) = some (bif c then x else y) := by cases c <;> rfl
theorem cond_and (c x : Bool) : (bif c then x else false) = (c && x) := by cases c <;> rfl
theorem dand (p q : Prop) [Decidable p] [Decidable q] : (decide p && decide q) = decide (p ∧ q) := by by_cases p <;> by_cases q <;> simp_all
theorem w64 {n : Int} (h0 : -9223372036854775808 ≤ n) (h1 : n < 9223372036854775808) : IntKind.i64.wrap n = n := by rw [IntKind.wrap_i64]; omega
theorem u64_mod (n : Int) : IntKind.u64.wrap n = n % 18446744073709551616 := by simp [IntKind.wrap, IntKind.bits, IntKind.signed]
theorem u64w {n : Int} (h0 : 0 ≤ n) (h1 : n < 18446744073709551616) : IntKind.u64.wrap n = n := by rw [u64_mod]; omega
theorem u8_mod (n : Int) : IntKind.u8.wrap n = n % 256 := by simp [IntKind.wrap, IntKind.bits, IntKind.signed]
theorem i64_wf {n : Int} (h : (Lit.int .i64 n).wf = true) : -9223372036854775808 ≤ n ∧ n < 9223372036854775808 := by
  simp only [Lit.wf, IntKind.min, IntKind.max, IntKind.signed, IntKind.bits, Bool.and_eq_true, decide_eq_true_eq, if_true] at h
  omega
theorem u8_wf {n : Int} (h : (Lit.int .u8 n).wf = true) : 0 ≤ n ∧ n < 256 := by
  simp [Lit.wf, IntKind.min, IntKind.max, IntKind.signed, IntKind.bits, Bool.and_eq_true] at h
  omega
theorem tmod_nat (n : Int) (m : Int) (h : 0 ≤ n) : Int.tmod n m = n % m := Int.tmod_eq_emod_of_nonneg h
theorem tdiv_nat (n : Int) (m : Int) (h : 0 ≤ n) : Int.tdiv n m = n / m := Int.tdiv_eq_ediv_of_nonneg h
theorem bits_or_128 (x : Int) (h0 : 0 ≤ x) (h1 : x < 256) : Go.bits .or .u8 x 128 = 128 + x % 128 := by
  obtain ⟨n, rfl⟩ := Int.eq_ofNat_of_zero_le h0
  have hn : n < 256 := by omega
  have key : ∀ m : Fin 256, Go.bits .or .u8 ((m.val : Nat) : Int) 128 = 128 + ((m.val : Nat) : Int) % 128 := by decide +kernel
  exact key ⟨n, hn⟩
theorem bits_xor_zero (x : Int) (h0 : 0 ≤ x) (h1 : x < 18446744073709551616) : Go.bits .xor .u64 x 0 = x := by
  obtain ⟨n, rfl⟩ := Int.eq_ofNat_of_zero_le h0
  have hn : n < 18446744073709551616 := by omega
  show IntKind.u64.wrap (((BitVec.ofInt 64 ((n : Nat) : Int)) ^^^ (BitVec.ofInt 64 0)).toNat : Int) = n
  have e : (BitVec.ofInt 64 0) = 0#64 := by decide
  rw [e, BitVec.xor_zero, BitVec.ofInt_natCast, BitVec.toNat_ofNat, u64_mod]
  omega
theorem bits_xor_ones (x : Int) (h0 : 0 ≤ x) (h1 : x < 18446744073709551616) : Go.bits .xor .u64 x 18446744073709551615 = 18446744073709551615 - x := by
  obtain ⟨n, rfl⟩ := Int.eq_ofNat_of_zero_le h0
  have hn : n < 18446744073709551616 := by omega
  show IntKind.u64.wrap (((BitVec.ofInt 64 ((n : Nat) : Int)) ^^^ (BitVec.ofInt 64 18446744073709551615)).toNat : Int) = 18446744073709551615 - n
  have e : (BitVec.ofInt 64 18446744073709551615) = BitVec.allOnes 64 := by decide
  rw [e, BitVec.xor_allOnes, BitVec.toNat_not, BitVec.ofInt_natCast, BitVec.toNat_ofNat, u64_mod]
  omega
theorem fu_ge (d : Nat) (h : d ≤ 1000000000000) : ∃ m, fu = d + 1 + m := ⟨fu - d - 1, by rw [fu_eq]; omega⟩
theorem nthI_nat {α : Type} (xs : List α) (i : Nat) (d : α) : nthI xs (i : Int) d = xs.getD i d := rfl
theorem drop_nth (xs : List Int) (i : Nat) (h : i < xs.length) : xs.drop i = nthI xs (i : Int) 0 :: xs.drop (i + 1) := by
  rw [nthI_nat, List.getD_eq_getElem?_getD, List.getElem?_eq_getElem h]; exact List.drop_eq_getElem_cons h
theorem nthI_mem {α : Type} (a : List α) (i : Nat) (d : α) (h : i < a.length) : nthI a (i : Int) d ∈ a := by
  rw [nthI_nat, List.getD_eq_getElem?_getD, List.getElem?_eq_getElem h]; simp
theorem nthI_set {α : Type} (xs : List α) (i : Nat) (y d : α) (h : i < xs.length) : nthI (xs.set i y) (i : Int) d = y := by
  rw [nthI_nat, List.getD_eq_getElem?_getD, List.getElem?_set_self h]; rfl
theorem drop_at {α : Type} (xs : List α) (i : Nat) (d : α) (h : i < xs.length) : xs.drop i = nthI xs (i : Int) d :: xs.drop (i + 1) := by
  rw [nthI_nat, List.getD_eq_getElem?_getD, List.getElem?_eq_getElem h]; exact List.drop_eq_getElem_cons h
theorem cneI {x y : Int} {k : Option Bool} : (bif (x != y) then some false else k) = bif decide (x = y) then k else some false := by
  by_cases h : x = y
  · rw [cnn h, cdp h]
  · rw [cnp h, cdn h]
theorem cneB {x y : Bool} {k : Option Bool} : (bif (!(x == y)) then some false else k) = bif decide (x = y) then k else some false := by
  cases x <;> cases y <;> rfl
theorem cbeB {x y : Bool} {k : Option Bool} : (bif (x == y) then k else some false) = bif decide (x = y) then k else some false := by cases x <;> cases y <;> rfl
theorem cnotb {r : Bool} {k : Option Bool} : (bif (!r) then some false else k) = bif r then k else some false := by cases r <;> rfl
theorem cds {p q : Prop} [Decidable p] [Decidable q] : (bif decide p then some (decide q) else some false) = some (decide (p ∧ q)) := by
  by_cases p <;> by_cases q <;> simp_all
theorem cdt {p : Prop} [Decidable p] : (bif decide p then some true else some false) = some (decide p) := by by_cases p <;> simp_all
theorem sdec {p q : Prop} [Decidable p] [Decidable q] (h : q ↔ p) : some (decide q) = some (decide p) := congrArg some (decide_eq_decide.mpr h)
theorem sfal {p : Prop} [Decidable p] (h : ¬ p) : some false = some (decide p) := by rw [decide_eq_false h]
theorem stru {p : Prop} [Decidable p] (h : p) : some true = some (decide p) := by rw [decide_eq_true h]
theorem sbool {b : Bool} {p : Prop} [Decidable p] (h : b = true ↔ p) : some b = some (decide p) := by
  by_cases c : p
  · rw [h.2 c, decide_eq_true c]
  · rw [decide_eq_false c, Bool.eq_false_iff.2 fun e => c (h.1 e)]
theorem sum_mem {l : List Nat} {x : Nat} (h : x ∈ l) : x ≤ l.sum := by
  induction l with
  | nil => cases h
  | cons y l ih =>
    rw [List.sum_cons]
    rcases List.mem_cons.1 h with rfl | h
    · omega
    · have := ih h; omega
theorem toLoop {α : Type} (F : Nat → Int → List α → Option (List α)) (a : List α) (d : α) (hn : a.length ≤ 1000000000000)
    (hs : ∀ (i m : Nat) (xs : List α), i < a.length → xs.length = a.length → F (m + 1) (i : Int) xs = F m ((i + 1 : Nat) : Int) (xs.set i (nthI a (i : Int) d)))
    (he : ∀ (m : Nat) (xs : List α), F (m + 1) (a.length : Int) xs = some xs) (xs : List α) (hx : xs.length = a.length) : F fu 0 xs = some a := by
  obtain ⟨M, hM⟩ := fu_ge a.length hn
  have h1 : ∀ k i : Nat, ∀ xs : List α, xs.length = a.length → i ≤ a.length → a.length - i = k → xs.take i = a.take i → F (k + 1 + M) (i : Int) xs = some a := by
    intro k
    induction k with
    | zero =>
      intro i xs hx hi hd ht
      obtain rfl : i = a.length := by omega
      rw [List.take_of_length_le (by omega), List.take_of_length_le (by omega)] at ht
      subst ht
      rw [show 0 + 1 + M = M + 1 from by omega]
      exact he M xs
    | succ k ih =>
      intro i xs hx hi hd ht
      have hi2 : i < a.length := by omega
      rw [show k + 1 + 1 + M = (k + 1 + M) + 1 from by omega, hs i _ xs hi2 hx]
      refine ih (i + 1) _ (by simpa using hx) (by omega) (by omega) ?_
      rw [nthI_nat, List.getD_eq_getElem?_getD, List.getElem?_eq_getElem hi2, Option.getD_some, List.take_add_one, List.take_add_one, List.take_set_of_le (Nat.le_refl i), ht]
      simp [show i < xs.length from by omega, hi2]
  rw [hM]
  exact h1 a.length 0 xs hx (by omega) (by omega) (by simp)
theorem eqLoop {α : Type} [DecidableEq α] (F : Nat → Int → Option Bool) (a b : List α) (d : α) (hl : a.length = b.length) (hn : a.length ≤ 1000000000000)
    (hs : ∀ (i m : Nat), i < a.length → F (m + 1) (i : Int) = bif decide (nthI a (i : Int) d = nthI b (i : Int) d) then F m ((i + 1 : Nat) : Int) else some false)
    (he : ∀ m : Nat, F (m + 1) (a.length : Int) = some true) : F fu 0 = some (decide (a = b)) := by
  obtain ⟨M, hM⟩ := fu_ge a.length hn
  have h1 : ∀ k i : Nat, i ≤ a.length → a.length - i = k → F (k + 1 + M) (i : Int) = some (decide (a.drop i = b.drop i)) := by
    intro k
    induction k with
    | zero =>
      intro i hi hd
      obtain rfl : i = a.length := by omega
      rw [show 0 + 1 + M = M + 1 from by omega, he, List.drop_of_length_le (by omega), List.drop_of_length_le (by omega)]
      simp
    | succ k ih =>
      intro i hi hd
      rw [show k + 1 + 1 + M = (k + 1 + M) + 1 from by omega, hs i _ (by omega), drop_at a i d (by omega), drop_at b i d (by omega), ih (i + 1) (by omega) (by omega)]
      by_cases e : nthI a (i : Int) d = nthI b (i : Int) d
      · rw [cdp e, e]
        generalize nthI b (i : Int) d = x
        simp
      · rw [cdn e]
        generalize nthI b (i : Int) d = x at *
        generalize nthI a (i : Int) d = y at *
        simp [e]
  rw [hM]
  simpa using h1 a.length 0 (by omega) (by omega)
theorem eqTop {α : Type} [DecidableEq α] (a b : List α) {k : Option Bool} (h : a.length = b.length → k = some (decide (a = b))) : (bif ((a.length : Int) != (b.length : Int)) then some false else k) = some (decide (a = b)) := by
  by_cases e : a.length = b.length
  · rw [cnn (by omega), h e]
  · rw [cnp (by omega), decide_eq_false (fun h => e (by rw [h]))]
theorem szLoop {α : Type} (F : Nat → Int → Int → Option Int) (a : List α) (d : α) (c : α → Nat) (hn : a.length ≤ 1000000000000)
    (hs : ∀ (i m : Nat) (l : Int), i < a.length → 0 ≤ l → l ≤ 1000000000000 → F (m + 1) l (i : Int) = if (c (nthI a (i : Int) d) : Int) ≤ l then F m (l - (c (nthI a (i : Int) d) : Int)) ((i + 1 : Nat) : Int) else some (-1))
    (he : ∀ (m : Nat) (l : Int), F (m + 1) l (a.length : Int) = some l) (l : Int) (h0 : 0 ≤ l) (h1 : l ≤ 1000000000000) : F fu l 0 = some (if (((a.map c).sum : Nat) : Int) ≤ l then l - (((a.map c).sum : Nat) : Int) else -1) := by
  obtain ⟨M, hM⟩ := fu_ge a.length hn
  have h2 : ∀ k i : Nat, ∀ l : Int, 0 ≤ l → l ≤ 1000000000000 → i ≤ a.length → a.length - i = k → F (k + 1 + M) l (i : Int) = some (if ((((a.drop i).map c).sum : Nat) : Int) ≤ l then l - ((((a.drop i).map c).sum : Nat) : Int) else -1) := by
    intro k
    induction k with
    | zero =>
      intro i l h0 h1 hi hd
      obtain rfl : i = a.length := by omega
      rw [show 0 + 1 + M = M + 1 from by omega, he, List.drop_of_length_le (by omega)]
      simp [h0]
    | succ k ih =>
      intro i l h0 h1 hi hd
      rw [show k + 1 + 1 + M = (k + 1 + M) + 1 from by omega, hs i _ l (by omega) h0 h1, drop_at a i d (by omega), List.map_cons, List.sum_cons]
      by_cases e : (c (nthI a (i : Int) d) : Int) ≤ l
      · rw [if_pos e, ih (i + 1) _ (by omega) (by omega) (by omega) (by omega)]
        congr 1
        split <;> split <;> omega
      · rw [if_neg e, if_neg (by omega)]
  rw [hM]
  simpa using h2 a.length 0 l h0 h1 (by omega) (by omega)
def markAll {α : Type} (m1 : Int → α → α) (w1 : α → Nat) : Int → List α → List α
  | _, [] => []
  | k, x :: xs => m1 k x :: markAll m1 w1 (k + (w1 x : Int)) xs
theorem markAll_length {α : Type} (m1 : Int → α → α) (w1 : α → Nat) : ∀ (a : List α) (k : Int), (markAll m1 w1 k a).length = a.length
  | [], _ => rfl
  | x :: xs, k => by simp [markAll, markAll_length m1 w1 xs]
theorem sum_const {α : Type} (w : α → Nat) (a : List α) (n : Nat) (h : ∀ x, w x = n) : (a.map w).sum = n * a.length := by
  induction a with
  | nil => simp
  | cons x xs ih => simp [h x, ih, Nat.mul_add]; omega
theorem cmod3 : decide ((3 : Int) = 0) = false := rfl
theorem markLoop {α : Type} (F : Nat → Int → Int → List α → Option (Int × List α)) (m1 : Int → α → α) (w1 : α → Nat) (a : List α) (d : α) (nl : Nat) (hw : ∀ x, w1 x = nl) {k : Int} (h0 : 0 ≤ k) (hn : a.length ≤ 1000000000000) (hc : k + (nl : Int) * (a.length : Int) ≤ 1000000000000)
    (hs : ∀ (i m : Nat) (k : Int) (xs : List α), i < a.length → xs.length = a.length → 0 ≤ k → k + (nl : Int) ≤ 1000000000000 → F (m + 1) k (i : Int) xs = F m (k + (nl : Int)) ((i + 1 : Nat) : Int) (xs.set i (m1 k (nthI xs (i : Int) d))))
    (he : ∀ (m : Nat) (k : Int) (xs : List α), xs.length = a.length → F (m + 1) k (a.length : Int) xs = some (k, xs)) : F fu k 0 a = some (k + (nl : Int) * (a.length : Int), markAll m1 w1 k a) := by
  obtain ⟨M, hM⟩ := fu_ge a.length hn
  have h1 : ∀ q i : Nat, ∀ (k : Int) (xs : List α), xs.length = a.length → i ≤ a.length → a.length - i = q → 0 ≤ k → k + (nl : Int) * (q : Int) ≤ 1000000000000 → F (q + 1 + M) k (i : Int) xs = some (k + (nl : Int) * (q : Int), xs.take i ++ markAll m1 w1 k (xs.drop i)) := by
    intro q
    induction q with
    | zero =>
      intro i k xs hx hi hd h0 hc
      obtain rfl : i = a.length := by omega
      rw [show 0 + 1 + M = M + 1 from by omega, he _ _ _ hx, List.take_of_length_le (by omega), List.drop_of_length_le (by omega)]
      simp [markAll]
    | succ q ih =>
      intro i k xs hx hi hd h0 hc
      have e : (nl : Int) * ((q + 1 : Nat) : Int) = (nl : Int) * (q : Int) + nl := by rw [Int.natCast_add, Int.mul_add]; simp
      have hq : 0 ≤ (nl : Int) * (q : Int) := Int.mul_nonneg (by omega) (by omega)
      rw [e] at hc ⊢
      rw [show q + 1 + 1 + M = (q + 1 + M) + 1 from by omega, hs i _ k xs (by omega) hx h0 (by omega), ih (i + 1) _ _ (by simpa using hx) (by omega) (by omega) (by omega) (by omega), drop_at xs i d (by omega), markAll, hw]
      have hi2 : i < xs.length := by omega
      rw [List.take_add_one, List.getElem?_set_self hi2, List.take_set_of_le (Nat.le_refl i), List.drop_set_of_lt (by omega)]
      simp
      omega
  rw [hM]
  have := h1 a.length 0 k a rfl (by omega) (by omega) h0 hc
  simpa using this
theorem markAll_nth {α : Type} (m1 : Int → α → α) (w1 : α → Nat) (nl : Nat) (hw : ∀ x, w1 x = nl) (d : α) : ∀ (a : List α) (k : Int) (i : Nat), i < a.length → nthI (markAll m1 w1 k a) (i : Int) d = m1 (k + (nl : Int) * (i : Int)) (nthI a (i : Int) d)
  | [], _, i, h => by simp at h
  | x :: xs, k, 0, _ => by simp [markAll, nthI]
  | x :: xs, k, i + 1, h => by
    have := markAll_nth m1 w1 nl hw d xs (k + (w1 x : Int)) i (by simpa using h)
    rw [nthI_nat, nthI_nat] at this ⊢
    rw [markAll, List.getD_cons_succ, List.getD_cons_succ, this, hw, Int.natCast_add, Int.mul_add]
    congr 1
    omega
theorem heldLoop {α : Type} (F : Nat → Int → Int → Option Int) (m1 : Int → α → α) (w1 : α → Nat) (a : List α) (d : α) (nl : Nat) (hw : ∀ x, w1 x = nl) (k : Int) (h0 : 0 ≤ k) (hn : a.length ≤ 1000000000000) (hc : k + (nl : Int) * (a.length : Int) ≤ 1000000000000)
    (hs : ∀ (i m : Nat) (j : Int), i < a.length → 0 ≤ j → j + (nl : Int) ≤ 1000000000000 → nthI (markAll m1 w1 k a) (i : Int) d = m1 j (nthI a (i : Int) d) → F (m + 1) j (i : Int) = F m (j + (nl : Int)) ((i + 1 : Nat) : Int))
    (he : ∀ (m : Nat) (j : Int), F (m + 1) j (a.length : Int) = some j) : F fu k 0 = some (k + (nl : Int) * (a.length : Int)) := by
  obtain ⟨M, hM⟩ := fu_ge a.length hn
  have h1 : ∀ q i : Nat, i ≤ a.length → a.length - i = q → F (q + 1 + M) (k + (nl : Int) * (i : Int)) (i : Int) = some (k + (nl : Int) * (a.length : Int)) := by
    intro q
    induction q with
    | zero =>
      intro i hi hd
      obtain rfl : i = a.length := by omega
      rw [show 0 + 1 + M = M + 1 from by omega, he]
    | succ q ih =>
      intro i hi hd
      have e : (nl : Int) * ((i + 1 : Nat) : Int) = (nl : Int) * (i : Int) + nl := by rw [Int.natCast_add, Int.mul_add]; simp
      have hq : 0 ≤ (nl : Int) * (i : Int) := Int.mul_nonneg (by omega) (by omega)
      have hle : (nl : Int) * ((i + 1 : Nat) : Int) ≤ (nl : Int) * (a.length : Int) := Int.mul_le_mul_of_nonneg_left (by omega) (by omega)
      rw [show q + 1 + 1 + M = (q + 1 + M) + 1 from by omega, hs i _ _ (by omega) (by omega) (by omega) (markAll_nth m1 w1 nl hw d a k i (by omega))]
      have := ih (i + 1) (by omega) (by omega)
      rw [e] at this
      rw [show k + (nl : Int) * (i : Int) + (nl : Int) = k + ((nl : Int) * (i : Int) + (nl : Int)) from by omega]
      exact this
  rw [hM]
  have := h1 a.length 0 (by omega) (by omega)
  simpa using this
theorem allLoop (F : Nat → Int → Option Bool) (n : Nat) (p : Nat → Prop) [DecidablePred p] (e : Bool) (hn : n ≤ 1000000000000)
    (hs : ∀ (i m : Nat), i < n → F (m + 1) (i : Int) = bif decide (p i) then F m ((i + 1 : Nat) : Int) else some false)
    (he : ∀ m : Nat, F (m + 1) (n : Int) = some e) : F fu 0 = some (decide (∀ j, j < n → p j) && e) := by
  obtain ⟨M, hM⟩ := fu_ge n hn
  have h1 : ∀ k i : Nat, i + k = n → (∀ j, j < i → p j) → F (k + 1 + M) (i : Int) = some (decide (∀ j, j < n → p j) && e) := by
    intro k
    induction k with
    | zero =>
      intro i hi hp
      obtain rfl : i = n := by omega
      rw [show 0 + 1 + M = M + 1 from by omega, he, decide_eq_true hp]
      rfl
    | succ k ih =>
      intro i hi hp
      rw [show k + 1 + 1 + M = (k + 1 + M) + 1 from by omega, hs i _ (by omega)]
      by_cases c : p i
      · rw [cdp c]
        refine ih (i + 1) (by omega) fun j hj => ?_
        rcases Nat.lt_or_ge j i with h | h
        · exact hp j h
        · obtain rfl : j = i := by omega
          exact c
      · rw [cdn c, decide_eq_false fun h => c (h i (by omega))]
        rfl
  rw [hM]
  exact h1 n 0 (by omega) fun j hj => by omega
def cmpF (a b : Int) : Int := if a < b then -1 else if b < a then 1 else 0
theorem allLoopK (F : Nat → Int → Option Bool) (n : Nat) (p : Nat → Prop) [DecidablePred p] (E : Option Bool) (hn : n ≤ 1000000000000)
    (hs : ∀ (i m : Nat), i < n → F (m + 1) (i : Int) = bif decide (p i) then F m ((i + 1 : Nat) : Int) else some false)
    (he : ∀ m : Nat, F (m + 1) (n : Int) = E) : F fu 0 = if ∀ j, j < n → p j then E else some false := by
  obtain ⟨M, hM⟩ := fu_ge n hn
  have h1 : ∀ k i : Nat, i + k = n → (∀ j, j < i → p j) → F (k + 1 + M) (i : Int) = if ∀ j, j < n → p j then E else some false := by
    intro k
    induction k with
    | zero =>
      intro i hi hp
      obtain rfl : i = n := by omega
      rw [show 0 + 1 + M = M + 1 from by omega, he, if_pos hp]
    | succ k ih =>
      intro i hi hp
      rw [show k + 1 + 1 + M = (k + 1 + M) + 1 from by omega, hs i _ (by omega)]
      by_cases c : p i
      · rw [cdp c]
        refine ih (i + 1) (by omega) fun j hj => ?_
        rcases Nat.lt_or_ge j i with h | h
        · exact hp j h
        · obtain rfl : j = i := by omega
          exact c
      · rw [cdn c, if_neg fun h => c (h i (by omega))]
  rw [hM]
  exact h1 n 0 (by omega) fun j hj => by omega
theorem dlt0 {x : Int} (h : 0 ≤ x) : decide (x < 0) = false := decide_eq_false (by omega)
theorem markLoopW {α : Type} (F : Nat → Int → Int → List α → Option (Int × List α)) (m1 : Int → α → α) (w1 : α → Nat) (a : List α) (d : α) {k : Int} (h0 : 0 ≤ k) (hn : a.length ≤ 1000000000000) (hc : k + (((a.map w1).sum : Nat) : Int) ≤ 1000000000000)
    (hs : ∀ (i m : Nat) (k : Int) (xs : List α), i < a.length → xs.length = a.length → 0 ≤ k → k + ((w1 (nthI xs (i : Int) d) : Nat) : Int) ≤ 1000000000000 → F (m + 1) k (i : Int) xs = F m (k + ((w1 (nthI xs (i : Int) d) : Nat) : Int)) ((i + 1 : Nat) : Int) (xs.set i (m1 k (nthI xs (i : Int) d))))
    (he : ∀ (m : Nat) (k : Int) (xs : List α), xs.length = a.length → F (m + 1) k (a.length : Int) xs = some (k, xs)) : F fu k 0 a = some (k + (((a.map w1).sum : Nat) : Int), markAll m1 w1 k a) := by
  obtain ⟨M, hM⟩ := fu_ge a.length hn
  have h1 : ∀ q i : Nat, ∀ (k : Int) (xs : List α), xs.length = a.length → i ≤ a.length → a.length - i = q → 0 ≤ k → k + ((((xs.drop i).map w1).sum : Nat) : Int) ≤ 1000000000000 → F (q + 1 + M) k (i : Int) xs = some (k + ((((xs.drop i).map w1).sum : Nat) : Int), xs.take i ++ markAll m1 w1 k (xs.drop i)) := by
    intro q
    induction q with
    | zero =>
      intro i k xs hx hi hd h0 hc
      obtain rfl : i = a.length := by omega
      rw [show 0 + 1 + M = M + 1 from by omega, he _ _ _ hx, List.take_of_length_le (by omega), List.drop_of_length_le (by omega)]
      simp [markAll]
    | succ q ih =>
      intro i k xs hx hi hd h0 hc
      have hi2 : i < xs.length := by omega
      rw [drop_at xs i d hi2, List.map_cons, List.sum_cons] at hc ⊢
      rw [show q + 1 + 1 + M = (q + 1 + M) + 1 from by omega, hs i _ k xs (by omega) hx h0 (by omega)]
      have e : (xs.set i (m1 k (nthI xs (i : Int) d))).drop (i + 1) = xs.drop (i + 1) := List.drop_set_of_lt (by omega)
      rw [ih (i + 1) _ _ (by simpa using hx) (by omega) (by omega) (by omega) (by rw [e]; omega), e, markAll]
      rw [List.take_add_one, List.getElem?_set_self hi2, List.take_set_of_le (Nat.le_refl i)]
      simp
      omega
  rw [hM]
  have := h1 a.length 0 k a rfl (by omega) (by omega) h0 hc
  simpa using this
theorem markAll_nthW {α : Type} (m1 : Int → α → α) (w1 : α → Nat) (d : α) : ∀ (a : List α) (k : Int) (i : Nat), i < a.length → nthI (markAll m1 w1 k a) (i : Int) d = m1 (k + ((((a.take i).map w1).sum : Nat) : Int)) (nthI a (i : Int) d)
  | [], _, i, h => by simp at h
  | x :: xs, k, 0, _ => by simp [markAll, nthI]
  | x :: xs, k, i + 1, h => by
    have := markAll_nthW m1 w1 d xs (k + (w1 x : Int)) i (by simpa using h)
    rw [nthI_nat, nthI_nat] at this ⊢
    rw [markAll, List.getD_cons_succ, List.getD_cons_succ, this, List.take_succ_cons, List.map_cons, List.sum_cons]
    congr 1
    omega
theorem sum_take_succ {α : Type} (w1 : α → Nat) (d : α) (a : List α) (i : Nat) (h : i < a.length) : ((a.take (i + 1)).map w1).sum = ((a.take i).map w1).sum + w1 (nthI a (i : Int) d) := by
  rw [List.take_add_one, List.map_append, List.sum_append, nthI_nat, List.getD_eq_getElem?_getD, List.getElem?_eq_getElem h]
  simp
theorem sum_take_le {α : Type} (w1 : α → Nat) (a : List α) (i : Nat) : ((a.take i).map w1).sum ≤ (a.map w1).sum := by
  have : (a.map w1).sum = ((a.take i).map w1).sum + ((a.drop i).map w1).sum := by rw [← List.sum_append, ← List.map_append, List.take_append_drop]
  omega
theorem heldLoopW {α : Type} (F : Nat → Int → Int → Option Int) (m1 : Int → α → α) (w1 : α → Nat) (a : List α) (d : α) (k : Int) (h0 : 0 ≤ k) (hn : a.length ≤ 1000000000000) (hc : k + (((a.map w1).sum : Nat) : Int) ≤ 1000000000000)
    (hs : ∀ (i m : Nat) (j : Int), i < a.length → 0 ≤ j → j + ((w1 (nthI a (i : Int) d) : Nat) : Int) ≤ 1000000000000 → nthI (markAll m1 w1 k a) (i : Int) d = m1 j (nthI a (i : Int) d) → F (m + 1) j (i : Int) = F m (j + ((w1 (nthI a (i : Int) d) : Nat) : Int)) ((i + 1 : Nat) : Int))
    (he : ∀ (m : Nat) (j : Int), F (m + 1) j (a.length : Int) = some j) : F fu k 0 = some (k + (((a.map w1).sum : Nat) : Int)) := by
  obtain ⟨M, hM⟩ := fu_ge a.length hn
  have h1 : ∀ q i : Nat, i ≤ a.length → a.length - i = q → F (q + 1 + M) (k + ((((a.take i).map w1).sum : Nat) : Int)) (i : Int) = some (k + (((a.map w1).sum : Nat) : Int)) := by
    intro q
    induction q with
    | zero =>
      intro i hi hd
      obtain rfl : i = a.length := by omega
      rw [show 0 + 1 + M = M + 1 from by omega, he, List.take_of_length_le (Nat.le_refl _)]
    | succ q ih =>
      intro i hi hd
      have hi2 : i < a.length := by omega
      have e := sum_take_succ w1 d a i hi2
      have hle := sum_take_le w1 a (i + 1)
      rw [show q + 1 + 1 + M = (q + 1 + M) + 1 from by omega, hs i _ _ hi2 (by omega) (by omega) (markAll_nthW m1 w1 d a k i hi2)]
      have := ih (i + 1) (by omega) (by omega)
      rw [e] at this
      rw [show k + ((((a.take i).map w1).sum : Nat) : Int) + ((w1 (nthI a (i : Int) d) : Nat) : Int) = k + ((((a.take i).map w1).sum + w1 (nthI a (i : Int) d) : Nat) : Int) from by omega]
      exact this
  rw [hM]
  have := h1 a.length 0 (by omega) (by omega)
  simpa using this
theorem u64_wf {n : Int} (h : (Lit.int .u64 n).wf = true) : 0 ≤ n ∧ n < 18446744073709551616 := by
  simp [Lit.wf, IntKind.min, IntKind.max, IntKind.signed, IntKind.bits, Bool.and_eq_true] at h
  omega
def bInt (x : Int) : Prop := (Lit.int .i64 x).wf = true
theorem szIntS_eq (left : Int) (a : List Int) (h0 : 0 ≤ left) (h1 : left ≤ 1000000000000) (hm : a.length ≤ maxLen ∧ ∀ x ∈ a, bInt x) : L.szIntS left a = some (if ((a.length : Nat) : Int) ≤ left then left - ((a.length : Nat) : Int) else -1) := by
  have hl : a.length ≤ 9223372036854775807 := hm.1
  unfold L.szIntS
  simp only []
  rw [w64 (by omega) (by omega)]
  by_cases h : ((a.length : Nat) : Int) ≤ left
  · rw [cdn (by omega), if_pos h]
  · rw [cdp (by omega), if_neg h]
def bUint64 (x : Int) : Prop := (Lit.int .u64 x).wf = true
abbrev TWide : Type := Int × Int
instance : DecidableEq TWide := (@instDecidableEqProd _ _ (inferInstance : DecidableEq Int) (inferInstance : DecidableEq Int))
def bWide (x : TWide) : Prop := ((Lit.int .i64 x.1).wf = true ∧ (Lit.int .u64 x.2).wf = true)
abbrev TAgg : Type := Int × (TWide) × Int × Int × List Int
instance : DecidableEq TAgg := (@instDecidableEqProd _ _ (inferInstance : DecidableEq Int) (@instDecidableEqProd _ _ (inferInstance : DecidableEq TWide) (@instDecidableEqProd _ _ (inferInstance : DecidableEq Int) (@instDecidableEqProd _ _ (inferInstance : DecidableEq Int) (inferInstance : DecidableEq (List Int))))))
def cAgg (x : TAgg) : Nat := (x.2.2.2.2).length
def cAggS (a : List TAgg) : Nat := a.length + (a.map cAgg).sum
theorem cAggS_mem {a : List TAgg} {x : TAgg} (h : x ∈ a) : cAgg x ≤ cAggS a := by
  have := sum_mem (List.mem_map.2 ⟨x, h, rfl⟩ : cAgg x ∈ a.map cAgg)
  unfold cAggS; omega
def bAgg (x : TAgg) : Prop := ((Lit.int .i64 x.1).wf = true ∧ ((Lit.int .i64 x.2.1.1).wf = true ∧ (Lit.int .u64 x.2.1.2).wf = true) ∧ (Lit.int .i64 x.2.2.1).wf = true ∧ (Lit.int .i64 x.2.2.2.1).wf = true ∧ (x.2.2.2.2.length ≤ maxLen ∧ ∀ y ∈ x.2.2.2.2, bInt y))
theorem szAgg_eq (x : TAgg) (left : Int) (h0 : 0 ≤ left) (h1 : left ≤ 1000000000000) (hb : bAgg x) : L.szAgg x.1 x.2.1.1 x.2.1.2 x.2.2.1 x.2.2.2.1 left x.2.2.2.2 = some (if (cAgg x : Int) ≤ left then left - (cAgg x : Int) else -1) := by
  unfold bAgg at hb
  unfold L.szAgg cAgg
  rw [szIntS_eq _ x.2.2.2.2 (by omega) (by omega) hb.2.2.2.2, Option.bind_some]
  by_cases h0 : (((x.2.2.2.2).length : Nat) : Int) ≤ left
  · first
      | (rw [if_pos h0, cdn (by omega)]; done)
      | (rw [if_pos h0, cdn (by omega), if_pos (by omega)]; congr 1; omega)
  · first | (rw [if_neg h0, cdp (by omega)]; done) | rw [if_neg h0, cdp (by omega), if_neg (by omega)]
abbrev TCell : Type := Int × Int × Int × Int × Int × TAgg
instance : DecidableEq TCell := (@instDecidableEqProd _ _ (inferInstance : DecidableEq Int) (@instDecidableEqProd _ _ (inferInstance : DecidableEq Int) (@instDecidableEqProd _ _ (inferInstance : DecidableEq Int) (@instDecidableEqProd _ _ (inferInstance : DecidableEq Int) (@instDecidableEqProd _ _ (inferInstance : DecidableEq Int) (inferInstance : DecidableEq TAgg))))))
def cCell (x : TCell) : Nat := (x.2.2.2.2.2.2.2.2.2).length
def cCellS (a : List TCell) : Nat := a.length + (a.map cCell).sum
theorem cCellS_mem {a : List TCell} {x : TCell} (h : x ∈ a) : cCell x ≤ cCellS a := by
  have := sum_mem (List.mem_map.2 ⟨x, h, rfl⟩ : cCell x ∈ a.map cCell)
  unfold cCellS; omega
def bCell (x : TCell) : Prop := ((Lit.int .i64 x.1).wf = true ∧ (Lit.int .i64 x.2.1).wf = true ∧ (Lit.int .i64 x.2.2.1).wf = true ∧ (Lit.int .i64 x.2.2.2.1).wf = true ∧ (Lit.int .i64 x.2.2.2.2.1).wf = true ∧ ((Lit.int .i64 x.2.2.2.2.2.1).wf = true ∧ ((Lit.int .i64 x.2.2.2.2.2.2.1.1).wf = true ∧ (Lit.int .u64 x.2.2.2.2.2.2.1.2).wf = true) ∧ (Lit.int .i64 x.2.2.2.2.2.2.2.1).wf = true ∧ (Lit.int .i64 x.2.2.2.2.2.2.2.2.1).wf = true ∧ (x.2.2.2.2.2.2.2.2.2.length ≤ maxLen ∧ ∀ y ∈ x.2.2.2.2.2.2.2.2.2, bInt y)))
theorem szCell_eq (x : TCell) (left : Int) (h0 : 0 ≤ left) (h1 : left ≤ 1000000000000) (hb : bCell x) : L.szCell x.1 x.2.1 x.2.2.1 x.2.2.2.1 x.2.2.2.2.1 x.2.2.2.2.2.1 x.2.2.2.2.2.2.1.1 x.2.2.2.2.2.2.1.2 x.2.2.2.2.2.2.2.1 x.2.2.2.2.2.2.2.2.1 left x.2.2.2.2.2.2.2.2.2 = some (if (cCell x : Int) ≤ left then left - (cCell x : Int) else -1) := by
  unfold bCell at hb
  unfold L.szCell cCell
  rw [szAgg_eq x.2.2.2.2.2 _ (by omega) (by omega) hb.2.2.2.2.2, Option.bind_some]
  unfold cAgg
  by_cases h0 : (((x.2.2.2.2.2.2.2.2.2).length : Nat) : Int) ≤ left
  · first
      | (rw [if_pos h0, cdn (by omega)]; done)
      | (rw [if_pos h0, cdn (by omega), if_pos (by omega)]; congr 1; omega)
  · first | (rw [if_neg h0, cdp (by omega)]; done) | rw [if_neg h0, cdp (by omega), if_neg (by omega)]
theorem szCellS_eq (left : Int) (a : List TCell) (h0 : 0 ≤ left) (h1 : left ≤ 1000000000000) (hm : a.length ≤ maxLen ∧ ∀ x ∈ a, bCell x) : L.szCellS left a = some (if ((cCellS a : Nat) : Int) ≤ left then left - ((cCellS a : Nat) : Int) else -1) := by
  have hl : a.length ≤ 9223372036854775807 := hm.1
  unfold L.szCellS
  simp only []
  rw [w64 (by omega) (by omega)]
  by_cases h : ((a.length : Nat) : Int) ≤ left
  · rw [cdn (by omega)]
    have := szLoop (fun m l i => L.szCellS_l0 m (fun y14 y15 => some y15) (fun y16 => some y16) l i a) a ((0 : Int), ((0 : Int), ((0 : Int), ((0 : Int), ((0 : Int), ((0 : Int), (((0 : Int), (0 : Int)), ((0 : Int), ((0 : Int), []))))))))) cCell (by omega) (fun i m l hi h0 h1 => ?_) (fun m l => ?_) (left - (a.length : Int)) (by omega) (by omega)
    · refine this.trans ?_
      unfold cCellS
      congr 1
      split <;> split <;> omega
    · show L.szCellS_l0 (m + 1) _ _ _ _ _ = _
      rw [L.szCellS_l0, cdp (by omega), cdp (by omega), szCell_eq (nthI a (i : Int) ((0 : Int), ((0 : Int), ((0 : Int), ((0 : Int), ((0 : Int), ((0 : Int), (((0 : Int), (0 : Int)), ((0 : Int), ((0 : Int), [])))))))))) l h0 h1 (hm.2 _ (nthI_mem a i _ hi)), Option.bind_some]
      split
      · rw [cdn (by omega), w64 (by omega) (by omega)]; rfl
      · rw [cdp (by omega)]
    · show L.szCellS_l0 (m + 1) _ _ _ _ _ = _
      rw [L.szCellS_l0, cdn (by omega)]
  · rw [cdp (by omega), if_neg (by unfold cCellS; omega)]
theorem toWide_eq (x : TWide) : L.toWide x.1 x.2 = some (x.1, x.2) := by
  rfl
theorem toIntS_eq (a : List Int) (hc : a.length ≤ 1000000000000) : L.toIntS a = some a := by
  have hn := hc
  unfold L.toIntS
  simp only []
  rw [cdp (by omega)]
  refine toLoop (fun m i xs => L.toIntS_l0 m (fun y => some y) i a xs) a (0 : Int) hn (fun i m xs hi hx => ?_) (fun m xs => ?_) _ (by simp)
  · show L.toIntS_l0 (m + 1) _ _ _ _ = L.toIntS_l0 m _ _ _ _
    rw [L.toIntS_l0, cdp (by omega), cdp (by omega), cdp (by omega), w64 (by omega) (by omega)]
    rfl
  · show L.toIntS_l0 (m + 1) _ _ _ _ = _
    rw [L.toIntS_l0, cdn (by omega)]
theorem toAgg_eq (x : TAgg) (hc : cAgg x ≤ 1000000000000) : L.toAgg x.1 x.2.1.1 x.2.1.2 x.2.2.1 x.2.2.2.1 x.2.2.2.2 = some (x.1, x.2.1.1, x.2.1.2, x.2.2.1, x.2.2.2.1, x.2.2.2.2) := by
  unfold L.toAgg
  unfold cAgg at hc
  simp only [toWide_eq x.2.1, toIntS_eq x.2.2.2.2 (by omega), Option.bind_some]
theorem toCell_eq (x : TCell) (hc : cCell x ≤ 1000000000000) : L.toCell x.1 x.2.1 x.2.2.1 x.2.2.2.1 x.2.2.2.2.1 x.2.2.2.2.2.1 x.2.2.2.2.2.2.1.1 x.2.2.2.2.2.2.1.2 x.2.2.2.2.2.2.2.1 x.2.2.2.2.2.2.2.2.1 x.2.2.2.2.2.2.2.2.2 = some (x.1, x.2.1, x.2.2.1, x.2.2.2.1, x.2.2.2.2.1, x.2.2.2.2.2.1, x.2.2.2.2.2.2.1.1, x.2.2.2.2.2.2.1.2, x.2.2.2.2.2.2.2.1, x.2.2.2.2.2.2.2.2.1, x.2.2.2.2.2.2.2.2.2) := by
  unfold L.toCell
  unfold cCell at hc
  simp only [toAgg_eq x.2.2.2.2.2 (by unfold cAgg; omega), Option.bind_some]
theorem toCellS_eq (a : List TCell) (hc : cCellS a ≤ 1000000000000) : L.toCellS a = some a := by
  have hn : a.length ≤ 1000000000000 := by unfold cCellS at hc; omega
  unfold L.toCellS
  simp only []
  rw [cdp (by omega)]
  refine toLoop (fun m i xs => L.toCellS_l0 m (fun y => some y) i a xs) a ((0 : Int), ((0 : Int), ((0 : Int), ((0 : Int), ((0 : Int), ((0 : Int), (((0 : Int), (0 : Int)), ((0 : Int), ((0 : Int), []))))))))) hn (fun i m xs hi hx => ?_) (fun m xs => ?_) _ (by simp)
  · show L.toCellS_l0 (m + 1) _ _ _ _ = L.toCellS_l0 m _ _ _ _
    rw [L.toCellS_l0, cdp (by omega), cdp (by omega), toCell_eq (nthI a (i : Int) ((0 : Int), ((0 : Int), ((0 : Int), ((0 : Int), ((0 : Int), ((0 : Int), (((0 : Int), (0 : Int)), ((0 : Int), ((0 : Int), [])))))))))) (Nat.le_trans (cCellS_mem (nthI_mem a i _ hi)) hc), Option.bind_some, cdp (by omega), w64 (by omega) (by omega)]
    rfl
  · show L.toCellS_l0 (m + 1) _ _ _ _ = _
    rw [L.toCellS_l0, cdn (by omega)]
abbrev TWinDef : Type := Int × Int × Int
instance : DecidableEq TWinDef := (@instDecidableEqProd _ _ (inferInstance : DecidableEq Int) (@instDecidableEqProd _ _ (inferInstance : DecidableEq Int) (inferInstance : DecidableEq Int)))
def bWinDef (x : TWinDef) : Prop := ((Lit.int .i64 x.1).wf = true ∧ (Lit.int .i64 x.2.1).wf = true ∧ (Lit.int .i64 x.2.2).wf = true)
theorem toWinDef_eq (x : TWinDef) : L.toWinDef x.1 x.2.1 x.2.2 = some (x.1, x.2.1, x.2.2) := by
  rfl
theorem eqWide_eq (x y : TWide) : L.eqWide x.1 x.2 y.1 y.2 = some (decide (x = y)) := by
  unfold L.eqWide
  simp only [cneI, cneB, cnotb, cbeB, cds, cdt, Option.bind_some]
  exact sdec ⟨fun h => (Prod.ext h.1 h.2), by rintro rfl; exact ⟨rfl, rfl⟩⟩
theorem eqIntS_eq (a b : List Int) (hc : a.length ≤ 1000000000000) : L.eqIntS a b = some (decide (a = b)) := by
  have hn := hc
  unfold L.eqIntS
  refine eqTop a b ?_
  intro hl
  refine eqLoop (fun m i => L.eqIntS_l0 m (fun y => some y) (some true) i a b) a b (0 : Int) hl hn (fun i m hi => ?_) (fun m => ?_)
  · show L.eqIntS_l0 (m + 1) _ _ _ _ _ = bif _ then L.eqIntS_l0 m _ _ _ _ _ else _
    rw [L.eqIntS_l0, cdp (by omega), cdp (by omega), cdp (by omega), cneI, w64 (by omega) (by omega)]
    rfl
  · show L.eqIntS_l0 (m + 1) _ _ _ _ _ = _
    rw [L.eqIntS_l0, cdn (by omega)]
theorem eqAgg_eq (x y : TAgg) (hc : cAgg x ≤ 1000000000000) : L.eqAgg x.1 x.2.1.1 x.2.1.2 x.2.2.1 x.2.2.2.1 y.1 y.2.1.1 y.2.1.2 y.2.2.1 y.2.2.2.1 x.2.2.2.2 y.2.2.2.2 = some (decide (x = y)) := by
  unfold cAgg at hc
  unfold L.eqAgg
  simp only [eqWide_eq x.2.1 y.2.1, eqIntS_eq x.2.2.2.2 y.2.2.2.2 (by omega), cneI, cneB, cnotb, cbeB, cds, cdt, Option.bind_some]
  exact sdec ⟨fun h => (Prod.ext h.1 (Prod.ext h.2.1 (Prod.ext h.2.2.1 (Prod.ext h.2.2.2.1 h.2.2.2.2)))), by rintro rfl; exact ⟨rfl, rfl, rfl, rfl, rfl⟩⟩
theorem eqCell_eq (x y : TCell) (hc : cCell x ≤ 1000000000000) : L.eqCell x.1 x.2.1 x.2.2.1 x.2.2.2.1 x.2.2.2.2.1 x.2.2.2.2.2.1 x.2.2.2.2.2.2.1.1 x.2.2.2.2.2.2.1.2 x.2.2.2.2.2.2.2.1 x.2.2.2.2.2.2.2.2.1 y.1 y.2.1 y.2.2.1 y.2.2.2.1 y.2.2.2.2.1 y.2.2.2.2.2.1 y.2.2.2.2.2.2.1.1 y.2.2.2.2.2.2.1.2 y.2.2.2.2.2.2.2.1 y.2.2.2.2.2.2.2.2.1 x.2.2.2.2.2.2.2.2.2 y.2.2.2.2.2.2.2.2.2 = some (decide (x = y)) := by
  unfold cCell at hc
  unfold L.eqCell
  simp only [eqAgg_eq x.2.2.2.2.2 y.2.2.2.2.2 (by unfold cAgg; omega), cneI, cneB, cnotb, cbeB, cds, cdt, Option.bind_some]
  exact sdec ⟨fun h => (Prod.ext h.1 (Prod.ext h.2.1 (Prod.ext h.2.2.1 (Prod.ext h.2.2.2.1 (Prod.ext h.2.2.2.2.1 h.2.2.2.2.2))))), by rintro rfl; exact ⟨rfl, rfl, rfl, rfl, rfl, rfl⟩⟩
theorem eqCellS_eq (a b : List TCell) (hc : cCellS a ≤ 1000000000000) : L.eqCellS a b = some (decide (a = b)) := by
  have hn : a.length ≤ 1000000000000 := by unfold cCellS at hc; omega
  unfold L.eqCellS
  refine eqTop a b ?_
  intro hl
  refine eqLoop (fun m i => L.eqCellS_l0 m (fun y => some y) (some true) i a b) a b ((0 : Int), ((0 : Int), ((0 : Int), ((0 : Int), ((0 : Int), ((0 : Int), (((0 : Int), (0 : Int)), ((0 : Int), ((0 : Int), []))))))))) hl hn (fun i m hi => ?_) (fun m => ?_)
  · show L.eqCellS_l0 (m + 1) _ _ _ _ _ = bif _ then L.eqCellS_l0 m _ _ _ _ _ else _
    rw [L.eqCellS_l0, cdp (by omega), cdp (by omega), cdp (by omega), eqCell_eq (nthI a (i : Int) ((0 : Int), ((0 : Int), ((0 : Int), ((0 : Int), ((0 : Int), ((0 : Int), (((0 : Int), (0 : Int)), ((0 : Int), ((0 : Int), [])))))))))) (nthI b (i : Int) ((0 : Int), ((0 : Int), ((0 : Int), ((0 : Int), ((0 : Int), ((0 : Int), (((0 : Int), (0 : Int)), ((0 : Int), ((0 : Int), [])))))))))) (Nat.le_trans (cCellS_mem (nthI_mem a i _ hi)) hc), Option.bind_some, cnotb, w64 (by omega) (by omega)]
    rfl
  · show L.eqCellS_l0 (m + 1) _ _ _ _ _ = _
    rw [L.eqCellS_l0, cdn (by omega)]
def m1Int (k : Int) (_ : Int) : Int := k
def w1Int (_ : Int) : Nat := 1
def mIntS (k : Int) (a : List Int) : List Int := markAll m1Int w1Int k a
def wIntS (a : List Int) : Nat := (a.map w1Int).sum
theorem wIntS_len (a : List Int) : wIntS a = 1 * a.length := by unfold wIntS; exact sum_const _ a _ (fun _ => rfl)
theorem markIntS_eq (k : Int) (a : List Int) (h0 : 0 ≤ k) (hc : k + 1 * (a.length : Int) ≤ 1000000000000) : L.markIntS k a = some (k + 1 * (a.length : Int), mIntS k a) := by
  unfold L.markIntS mIntS
  refine (markLoop (fun m k i xs => L.markIntS_l0 m (fun y12 y13 => some (y12, y13)) k i xs) m1Int w1Int a (0 : Int) 1 (fun _ => rfl) h0 (by omega) hc (fun i m k xs hi hx h0 h1 => ?_) (fun m k xs hx => ?_)).trans rfl
  · show L.markIntS_l0 (m + 1) _ _ _ _ = L.markIntS_l0 m _ _ _ _
    have hdec : decide ((0 : Int) ≤ (i : Int) ∧ (i : Int) < (xs.length : Int)) = true := by simp; omega
    rw [L.markIntS_l0, cdp (by omega)]
    simp (disch := omega) only [df1, df2, df3, hdec, cond_true, w64, u8_mod, u64w, List.length_set, nthI_set, List.set_set, Int.toNat_natCast, cmod3, Int.add_assoc, Int.reduceAdd, if_false, reduceIte]
    rfl
  · show L.markIntS_l0 (m + 1) _ _ _ _ = _
    rw [L.markIntS_l0, cdn (by omega)]
def m1Cell (k : Int) (x : TCell) : TCell := (k, (k + 1, (k + 2, (k + 3, (k + 4, (k + 5, ((k + 6, k + 7), (k + 8, (k + 9, mIntS (k + 10) x.2.2.2.2.2.2.2.2.2)))))))))
def w1Cell (x : TCell) : Nat := 10 + 1 * (x.2.2.2.2.2.2.2.2.2).length
def mCellS (k : Int) (a : List TCell) : List TCell := markAll m1Cell w1Cell k a
def wCellS (a : List TCell) : Nat := (a.map w1Cell).sum
theorem wCellS_ge (a : List TCell) : a.length ≤ wCellS a := by
  unfold wCellS
  induction a with
  | nil => simp
  | cons x a ih =>
    have : 1 ≤ w1Cell x := by unfold w1Cell; omega
    simp only [List.map_cons, List.sum_cons, List.length_cons]
    omega
theorem markCellS_eq (k : Int) (a : List TCell) (h0 : 0 ≤ k) (hn : a.length ≤ 1000000000000) (hc : k + ((wCellS a : Nat) : Int) ≤ 1000000000000) : L.markCellS k a = some (k + ((wCellS a : Nat) : Int), mCellS k a) := by
  unfold L.markCellS mCellS wCellS
  refine (markLoopW (fun m k i xs => L.markCellS_l0 m (fun y12 y13 => some (y12, y13)) k i xs) m1Cell w1Cell a ((0 : Int), ((0 : Int), ((0 : Int), ((0 : Int), ((0 : Int), ((0 : Int), (((0 : Int), (0 : Int)), ((0 : Int), ((0 : Int), []))))))))) h0 hn (by unfold wCellS at hc; exact hc) (fun i m k xs hi hx h0 h1 => ?_) (fun m k xs hx => ?_)).trans rfl
  · show L.markCellS_l0 (m + 1) _ _ _ _ = L.markCellS_l0 m _ _ _ _
    have hdec : decide ((0 : Int) ≤ (i : Int) ∧ (i : Int) < (xs.length : Int)) = true := by simp; omega
    have e : k + ((w1Cell (nthI xs (i : Int) ((0 : Int), ((0 : Int), ((0 : Int), ((0 : Int), ((0 : Int), ((0 : Int), (((0 : Int), (0 : Int)), ((0 : Int), ((0 : Int), [])))))))))) : Nat) : Int) = k + (10 + 1 * (((nthI xs (i : Int) ((0 : Int), ((0 : Int), ((0 : Int), ((0 : Int), ((0 : Int), ((0 : Int), (((0 : Int), (0 : Int)), ((0 : Int), ((0 : Int), [])))))))))).2.2.2.2.2.2.2.2.2).length : Int)) := by unfold w1Cell; omega
    have e2 : IntKind.i64.wrap ((i : Int) + 1) = ((i + 1 : Nat) : Int) := by rw [w64 (by omega) (by omega)]; omega
    rw [e] at h1 ⊢
    unfold m1Cell
    rw [L.markCellS_l0, cdp (by omega)]
    skip
    simp (disch := omega) only [df1, df2, df3, hdec, cond_true, e2, w64, u8_mod, u64w, List.length_set, nthI_set, List.set_set, Int.toNat_natCast, cmod3, Int.add_assoc, Int.reduceAdd, if_false, reduceIte, Option.bind_some, Int.add_zero, cond_false, markIntS_eq]
    all_goals rfl
  · show L.markCellS_l0 (m + 1) _ _ _ _ = _
    rw [L.markCellS_l0, cdn (by omega)]
theorem heldIntS_eq (k : Int) (a : List Int) (h0 : 0 ≤ k) (hc : k + 1 * (a.length : Int) ≤ 1000000000000) : L.heldIntS k (mIntS k a) = some (k + 1 * (a.length : Int)) := by
  unfold L.heldIntS
  refine heldLoop (fun m q i => L.heldIntS_l0 m (fun y12 y13 => some y13) (fun y14 => some y14) q i (mIntS k a)) m1Int w1Int a (0 : Int) 1 (fun _ => rfl) k h0 (by omega) hc (fun i m j hi h0 h1 hx => ?_) (fun m j => ?_)
  all_goals (have hl : (mIntS k a).length = a.length := markAll_length _ _ _ _)
  · show L.heldIntS_l0 (m + 1) _ _ _ _ _ = L.heldIntS_l0 m _ _ _ _ _
    have hx : nthI (mIntS k a) (i : Int) (0 : Int) = _ := hx
    have hdec : decide ((0 : Int) ≤ (i : Int) ∧ (i : Int) < ((mIntS k a).length : Int)) = true := by rw [hl]; simp; omega
    rw [L.heldIntS_l0, cdp (by omega)]
    simp (disch := omega) only [df1, df2, df3, hdec, hx, m1Int, cond_true, cond_false, w64, u8_mod, u64w, bne_self_eq_false, cmod3, Int.add_assoc, Int.reduceAdd, if_false, reduceIte, beq_self_eq_true, Bool.not_true]
    rfl
  · show L.heldIntS_l0 (m + 1) _ _ _ _ _ = _
    rw [L.heldIntS_l0, cdn (by rw [hl]; omega)]
theorem heldCellS_eq (k : Int) (a : List TCell) (h0 : 0 ≤ k) (hn : a.length ≤ 1000000000000) (hc : k + ((wCellS a : Nat) : Int) ≤ 1000000000000) : L.heldCellS k (mCellS k a) = some (k + ((wCellS a : Nat) : Int)) := by
  unfold L.heldCellS wCellS
  refine heldLoopW (fun m q i => L.heldCellS_l0 m (fun y12 y13 => some y13) (fun y14 => some y14) q i (mCellS k a)) m1Cell w1Cell a ((0 : Int), ((0 : Int), ((0 : Int), ((0 : Int), ((0 : Int), ((0 : Int), (((0 : Int), (0 : Int)), ((0 : Int), ((0 : Int), []))))))))) k h0 hn (by unfold wCellS at hc; exact hc) (fun i m j hi h0 h1 hx => ?_) (fun m j => ?_)
  all_goals (have hl : (mCellS k a).length = a.length := markAll_length _ _ _ _)
  · show L.heldCellS_l0 (m + 1) _ _ _ _ _ = L.heldCellS_l0 m _ _ _ _ _
    have hx : nthI (mCellS k a) (i : Int) ((0 : Int), ((0 : Int), ((0 : Int), ((0 : Int), ((0 : Int), ((0 : Int), (((0 : Int), (0 : Int)), ((0 : Int), ((0 : Int), []))))))))) = _ := hx
    have hdec : decide ((0 : Int) ≤ (i : Int) ∧ (i : Int) < ((mCellS k a).length : Int)) = true := by rw [hl]; simp; omega
    have e : j + ((w1Cell (nthI a (i : Int) ((0 : Int), ((0 : Int), ((0 : Int), ((0 : Int), ((0 : Int), ((0 : Int), (((0 : Int), (0 : Int)), ((0 : Int), ((0 : Int), [])))))))))) : Nat) : Int) = j + (10 + 1 * (((nthI a (i : Int) ((0 : Int), ((0 : Int), ((0 : Int), ((0 : Int), ((0 : Int), ((0 : Int), (((0 : Int), (0 : Int)), ((0 : Int), ((0 : Int), [])))))))))).2.2.2.2.2.2.2.2.2).length : Int)) := by unfold w1Cell; omega
    have e2 : IntKind.i64.wrap ((i : Int) + 1) = ((i + 1 : Nat) : Int) := by rw [w64 (by omega) (by omega)]; omega
    rw [e] at h1 ⊢
    rw [L.heldCellS_l0, cdp (by rw [hl]; omega)]
    simp (disch := omega) only [df1, df2, df3, hdec, hx, e2, m1Cell, cond_true, cond_false, w64, u8_mod, u64w, bne_self_eq_false, cmod3, Int.add_assoc, Int.reduceAdd, if_false, reduceIte, beq_self_eq_true, Bool.not_true, dlt0, Option.bind_some, Int.add_zero, heldIntS_eq]
    all_goals rfl
  · show L.heldCellS_l0 (m + 1) _ _ _ _ _ = _
    rw [L.heldCellS_l0, cdn (by rw [hl]; omega)]
theorem in_eq (a b c : Int) : I.in a b c = some (decide (b ≤ a ∧ a ≤ c)) := by unfold I.in; rw [cond_some, cond_and, dand]
def takesF (op : Int) : Int := if op ≤ 3 then 0 else if op = 11 then 1 else 2
theorem takesF_le (op : Int) : 0 ≤ takesF op ∧ takesF op ≤ 2 := by unfold takesF; split <;> (try split) <;> omega
def tokFits (t : Int × Int) (n : Int) : Prop := (0 ≤ t.1 ∧ t.1 ≤ 11) ∧ (t.1 = 0 ∨ t.2 = 0) ∧ takesF t.1 ≤ n
instance (t : Int × Int) (n : Int) : Decidable (tokFits t n) := by unfold tokFits; exact inferInstance
def depthGo : List (Int × Int) → Int → Int → Option (Int × Int)
  | [], n, mo => some (n, mo)
  | t :: ts, n, mo => if tokFits t n then depthGo ts (n - takesF t.1 + 1) (max mo (n - takesF t.1 + 1)) else none
def depthF (x : List (Int × Int)) : Int :=
  if 1 ≤ x.length ∧ x.length ≤ 20 then
    match depthGo x 0 0 with
    | some r => if r.1 = 1 then r.2 else -1
    | none => -1
  else -1
theorem depthGo_le : ∀ (x : List (Int × Int)) (n mo : Int) (r : Int × Int), n ≤ mo → depthGo x n mo = some r → r.1 ≤ r.2
  | [], n, mo, r, h, e => by simp only [depthGo, Option.some.injEq] at e; subst e; exact h
  | t :: ts, n, mo, r, h, e => by
    simp only [depthGo] at e
    split at e
    · exact depthGo_le ts _ _ r (by omega) e
    · cases e
theorem depthF_cases (x : List (Int × Int)) : depthF x = -1 ∨ 1 ≤ depthF x := by
  unfold depthF
  split
  · split
    · rename_i r hr
      split
      · have := depthGo_le x 0 0 r (by omega) hr; omega
      · omega
    · omega
  · omega
theorem max_if (a b : Int) : (if a > b then a else b) = max b a := by split <;> omega
def exprOk (x : List (Int × Int)) : Prop := 0 < depthF x
instance (x : List (Int × Int)) : Decidable (exprOk x) := by unfold exprOk; exact inferInstance
def winOk (k s p : Int) : Prop := (1 ≤ s ∧ s ≤ 100) ∧ ((k = 1 ∨ k = 3) ∧ p = 0 ∨ k = 2 ∧ 1 ≤ p ∧ p ≤ s ∧ s ≤ 8 * p)
instance (k s p : Int) : Decidable (winOk k s p) := by unfold winOk; exact inferInstance
theorem sWinOk_eq (k s p : Int) (h0 : -9223372036854775808 ≤ p) (h1 : p < 9223372036854775808) : S.WinOk k s p = some (decide (winOk k s p)) := by
  unfold S.WinOk
  simp only [Bool.cond_eq_ite, decide_eq_true_eq, bne_iff_ne]
  repeat' split
  all_goals first
    | exact sfal (by unfold winOk; omega)
    | exact sbool (by unfold winOk; rw [beq_iff_eq]; omega)
    | (rw [w64 (by omega) (by omega)]; exact sdec (by unfold winOk; omega))
theorem iWinOk_eq (k s p : Int) (h0 : -9223372036854775808 ≤ p) (h1 : p < 9223372036854775808) : I.isWinDef k s p = some (decide (winOk k s p)) := by
  unfold I.isWinDef
  simp only [in_eq, Option.bind_some, Bool.cond_eq_ite, decide_eq_true_eq, bne_iff_ne, beq_iff_eq, Bool.not_eq_true', decide_eq_false_iff_not]
  repeat' split
  all_goals first
    | exact sfal (by unfold winOk; omega)
    | exact sbool (by unfold winOk; rw [beq_iff_eq]; omega)
    | (rw [w64 (by omega) (by omega)]; exact sdec (by unfold winOk; omega))
def aggKind (a b : Int) : Prop := a = 6 ∧ 1 ≤ b ∧ b ≤ 4 ∨ 1 ≤ a ∧ a ≤ 5 ∧ b = 0
instance (a b : Int) : Decidable (aggKind a b) := by unfold aggKind; exact inferInstance
def queryOk (k s p a b : Int) (x y : List (Int × Int)) : Prop := exprOk x ∧ exprOk y ∧ winOk k s p ∧ aggKind a b
instance (k s p a b : Int) (x y : List (Int × Int)) : Decidable (queryOk k s p a b x y) := by unfold queryOk; exact inferInstance
theorem isTime_eq (a : Int) : I.isTime a = some (decide (0 ≤ a ∧ a ≤ 1000)) := by unfold I.isTime; rw [in_eq]; rfl
theorem isKey_eq (a : Int) : I.isKey a = some (decide (0 ≤ a ∧ a ≤ 15)) := by unfold I.isKey; rw [in_eq]; rfl
theorem l05Time_eq (a : Int) : S.l05Time a = some (decide (0 ≤ a ∧ a ≤ 1000)) := by unfold S.l05Time; rw [cond_some, cond_and, dand]
theorem l04Key_eq (a : Int) : S.l04Key a = some (decide (0 ≤ a ∧ a ≤ 15)) := by unfold S.l04Key; rw [cond_some, cond_and, dand]
def inI (n : Int) : Prop := -9223372036854775808 ≤ n ∧ n < 9223372036854775808
instance (n : Int) : Decidable (inI n) := by unfold inI; exact inferInstance
def inW (n : Int) : Prop := -170141183460469231731687303715884105728 ≤ n ∧ n < 170141183460469231731687303715884105728
def wd (n : Int) : Int × Int := (IntKind.i64.wrap (n / 18446744073709551616), n % 18446744073709551616)
theorem i64_u64 (n : Int) : IntKind.i64.wrap (IntKind.u64.wrap n) = IntKind.i64.wrap n := by rw [u64_mod, IntKind.wrap_i64, IntKind.wrap_i64]; omega
theorem u64_i64 (n : Int) : IntKind.u64.wrap (IntKind.i64.wrap n) = IntKind.u64.wrap n := by rw [u64_mod, u64_mod, IntKind.wrap_i64]; omega
theorem u64_add (a b : Int) : IntKind.u64.wrap (IntKind.u64.wrap a + IntKind.u64.wrap b) = IntKind.u64.wrap (a + b) := by simp only [u64_mod]; omega
theorem i64_add (a b : Int) : IntKind.i64.wrap (IntKind.i64.wrap a + b) = IntKind.i64.wrap (a + b) := by simp only [IntKind.wrap_i64]; omega
theorem i64_add2 (a b : Int) : IntKind.i64.wrap (a + IntKind.i64.wrap b) = IntKind.i64.wrap (a + b) := by simp only [IntKind.wrap_i64]; omega
theorem i64_range (n : Int) : inI (IntKind.i64.wrap n) := by unfold inI; rw [IntKind.wrap_i64]; omega
theorem wd_range (n : Int) : inI (wd n).1 ∧ 0 ≤ (wd n).2 ∧ (wd n).2 < 18446744073709551616 := ⟨i64_range _, by unfold wd; omega, by unfold wd; omega⟩
theorem wd_of {h l n : Int} (h0 : inI h) (h1 : 0 ≤ l) (h2 : l < 18446744073709551616) (hn : n = h * 18446744073709551616 + l) : (h, l) = wd n := by
  unfold inI at h0
  unfold wd
  have e1 : n / 18446744073709551616 = h := by omega
  have e2 : n % 18446744073709551616 = l := by omega
  rw [e1, e2, w64 h0.1 h0.2]
theorem wd_inj {m n : Int} (hm : inW m) (hn : inW n) (h : wd m = wd n) : m = n := by
  unfold inW at hm hn
  unfold wd at h
  simp only [Prod.mk.injEq, IntKind.wrap_i64] at h
  omega
theorem sWideOf_eq (n : Int) (h : inI n) : S.WideOf n = some (wd n) := by
  unfold inI at h
  unfold S.WideOf wd
  have e2 : IntKind.u64.wrap n = n % 18446744073709551616 := u64_mod n
  by_cases c : n < 0
  · rw [cdp c, e2, show n / 18446744073709551616 = -1 from by omega, w64 (by omega) (by omega)]
  · rw [cdn c, e2, show n / 18446744073709551616 = 0 from by omega, w64 (by omega) (by omega)]
theorem sWideAdd_eq (a b : Int) : S.WideAdd (wd a).1 (wd a).2 (wd b).1 (wd b).2 = some (wd (a + b)) := by
  unfold S.WideAdd wd
  simp only [u64_i64, u64_add, i64_u64]
  have ha := Int.mul_ediv_add_emod a 18446744073709551616
  have hb := Int.mul_ediv_add_emod b 18446744073709551616
  have ha2 := Int.emod_lt_of_pos a (show (0 : Int) < 18446744073709551616 by decide)
  have hb2 := Int.emod_lt_of_pos b (show (0 : Int) < 18446744073709551616 by decide)
  have ha0 := Int.emod_nonneg a (show (18446744073709551616 : Int) ≠ 0 by decide)
  have hb0 := Int.emod_nonneg b (show (18446744073709551616 : Int) ≠ 0 by decide)
  generalize a / 18446744073709551616 = A at *
  generalize a % 18446744073709551616 = p at *
  generalize b / 18446744073709551616 = B at *
  generalize b % 18446744073709551616 = q at *
  have e2 : IntKind.u64.wrap (p + q) = (a + b) % 18446744073709551616 := by rw [u64_mod]; omega
  by_cases c : IntKind.u64.wrap (p + q) < p
  · rw [cdp c, e2]
    rw [u64_mod] at c
    have e1 : (a + b) / 18446744073709551616 = A + B + 1 := by omega
    rw [e1]
    congr 2
    rw [u64_mod, IntKind.wrap_i64, IntKind.wrap_i64]
    omega
  · rw [cdn c, e2]
    rw [u64_mod] at c
    have e1 : (a + b) / 18446744073709551616 = A + B := by omega
    rw [e1]
theorem sWideNeg_eq (a : Int) : S.WideNeg (wd a).1 (wd a).2 = some (wd (-a)) := by
  unfold S.WideNeg
  have e1 : (IntKind.i64.wrap (-1 - (wd a).1), IntKind.u64.wrap (18446744073709551615 - (wd a).2)) = wd (-1 - a) := by
    unfold wd
    simp only [Prod.mk.injEq, u64_mod, IntKind.wrap_i64]
    omega
  have h1 := congrArg Prod.fst e1
  have h2 := congrArg Prod.snd e1
  simp only at h1 h2
  have e3 : wd 1 = (0, 1) := by decide
  have := sWideAdd_eq (-1 - a) 1
  rw [e3] at this
  rw [h1, h2, this, show -1 - a + 1 = -a from by omega]
  rfl
theorem mul_range {a b : Int} (ha : inI a) (hb : inI b) : inW (a * b) := by
  have h1 : a.natAbs ≤ 9223372036854775808 := by unfold inI at ha; omega
  have h2 : b.natAbs ≤ 9223372036854775808 := by unfold inI at hb; omega
  have h3 : (a * b).natAbs ≤ 9223372036854775808 * 9223372036854775808 := by rw [Int.natAbs_mul]; exact Nat.mul_le_mul h1 h2
  unfold inW; omega
theorem sTimes_l (e : Int → Int → Int → Int → Option (Int × Int)) (c1 c2 : Int) (m : Nat) : ∀ (d x : Nat) (W A : Int), x < 2 ^ d → x < 18446744073709551616 →
    S.l03Times_l0 (d + 1 + m) e (x : Int) c1 c2 (wd W).1 (wd W).2 (wd A).1 (wd A).2 = e c1 c2 (wd (W + (x : Int) * A)).1 (wd (W + (x : Int) * A)).2 := by
  intro d
  induction d with
  | zero =>
    intro x W A hx hx2
    obtain rfl : x = 0 := by simpa using hx
    rw [show 0 + 1 + m = m + 1 from by omega, S.l03Times_l0, cdn (by omega)]
    simp
  | succ d ih =>
    intro x W A hx hx2
    rw [show d + 1 + 1 + m = (d + 1 + m) + 1 from by omega, S.l03Times_l0]
    by_cases c : ¬ 0 < x
    · obtain rfl : x = 0 := by omega
      rw [cdn (by omega)]; simp
    rw [cdp (by omega), cdn (by decide)]
    simp only [sWideAdd_eq, Option.bind_some]
    rw [tmod_nat _ _ (by omega), tdiv_nat _ _ (by omega), u64w (by omega) (by omega)]
    have hq : x / 2 < 2 ^ d := by rw [Nat.pow_succ] at hx; omega
    have hi := fun W' => ih (x / 2) W' (A + A) hq (by omega)
    rw [show (x : Int) / 2 = ((x / 2 : Nat) : Int) from by omega]
    by_cases c2 : (x : Int) % 2 = 1
    · rw [cep c2, cdn (by decide), hi]
      rw [show (x : Int) = 2 * ((x / 2 : Nat) : Int) + 1 from by omega, Int.add_mul, Int.mul_add, Int.mul_assoc, Int.one_mul]
      generalize ((x / 2 : Nat) : Int) * A = Y
      rw [show W + A + (Y + Y) = W + (2 * Y + A) from by omega]
    · rw [cen c2, cdn (by decide), hi]
      rw [show (x : Int) = 2 * ((x / 2 : Nat) : Int) from by omega, Int.mul_add, Int.mul_assoc]
      generalize ((x / 2 : Nat) : Int) * A = Y
      rw [show W + (Y + Y) = W + 2 * Y from by omega]
theorem sTimes_eq (a b : Int) (ha : inI a) (hb : inI b) : S.l03Times a b = some (wd (a * b)) := by
  unfold S.l03Times
  rw [sWideOf_eq a ha, Option.bind_some]
  obtain ⟨m, hm⟩ := fu_ge 64 (by omega)
  have e0 : wd 0 = (0, 0) := by decide
  have key := fun (x : Nat) (A : Int) (hx : x < 18446744073709551616) => sTimes_l (fun y22 y23 y24 y25 => some (y24, y25)) 0 0 m 64 x 0 A (by omega) hx
  simp only [e0] at key
  unfold inI at hb
  by_cases c : b < 0
  · obtain ⟨x, hx⟩ := Int.eq_ofNat_of_zero_le (show 0 ≤ -b from by omega)
    simp only []
    rw [cdp c, sWideNeg_eq, Option.bind_some, hm, show IntKind.u64.wrap (0 - IntKind.u64.wrap b) = (x : Int) from by simp only [u64_mod]; omega]
    refine (key x (-a) (by omega)).trans ?_
    rw [← hx, Int.neg_mul_neg, Int.mul_comm b a, Int.zero_add]
  · obtain ⟨x, hx⟩ := Int.eq_ofNat_of_zero_le (show 0 ≤ b from by omega)
    simp only []
    rw [cdn c, hm, show IntKind.u64.wrap b = (x : Int) from by simp only [u64_mod]; omega]
    refine (key x a (by omega)).trans ?_
    rw [← hx, Int.mul_comm b a, Int.zero_add]
theorem compareInt_eq (a b : Int) : G.cmp.Compare_int a b = some (cmpF a b) := by
  unfold G.cmp.Compare_int G.cmp.isNaN_int cmpF
  simp only [Option.bind_some, bne_self_eq_false, cond_false]
  by_cases h : a < b
  · rw [cdp h, if_pos h]
  · rw [cdn h, if_neg h]
    by_cases h2 : b < a
    · rw [cdp h2, if_pos h2]
    · rw [cdn h2, if_neg h2]
def orF : List Int → Int
  | [] => 0
  | x :: xs => if x ≠ 0 then x else orF xs
theorem orInt_eq (a : List Int) (hn : a.length ≤ 1000000000000) : G.cmp.Or_int a = some (orF a) := by
  unfold G.cmp.Or_int
  obtain ⟨M, hM⟩ := fu_ge a.length hn
  have h1 : ∀ k i : Nat, i + k = a.length → G.cmp.Or_int_l0 (k + 1 + M) (fun y10 y11 => some y10) (fun y12 => some y12) 0 (a.length : Int) (i : Int) a = some (orF (a.drop i)) := by
    intro k
    induction k with
    | zero =>
      intro i hi
      rw [show 0 + 1 + M = M + 1 from by omega, G.cmp.Or_int_l0, cdn (by omega), List.drop_of_length_le (by omega)]; rfl
    | succ k ih =>
      intro i hi
      rw [show k + 1 + 1 + M = (k + 1 + M) + 1 from by omega, G.cmp.Or_int_l0, cdp (by omega), cdp (by omega), drop_at a i 0 (by omega), orF]
      simp only []
      by_cases c : nthI a (i : Int) 0 = 0
      · rw [cnn c, if_neg (by simpa using c), w64 (by omega) (by omega)]
        exact ih (i + 1) (by omega)
      · rw [cnp c, if_pos c]
  rw [hM]
  exact h1 a.length 0 (by omega)
theorem xor_ones_i64 (x : Int) (h : inI x) : Go.bits .xor .i64 (-1) x = -1 - x := by
  unfold inI at h
  show IntKind.i64.wrap (((BitVec.ofInt 64 (-1)) ^^^ (BitVec.ofInt 64 x)).toNat : Int) = -1 - x
  have e : (BitVec.ofInt 64 (-1)) = BitVec.allOnes 64 := by decide
  have e2 : ((BitVec.ofInt 64 x).toNat : Int) = x % 18446744073709551616 := by rw [BitVec.toNat_ofInt]; omega
  rw [e, BitVec.xor_comm, BitVec.xor_allOnes, BitVec.toNat_not, IntKind.wrap_i64]
  omega
theorem xor_ones_u64 (x : Int) (h0 : 0 ≤ x) (h1 : x < 18446744073709551616) : Go.bits .xor .u64 18446744073709551615 x = 18446744073709551615 - x := by
  show IntKind.u64.wrap (((BitVec.ofInt 64 18446744073709551615) ^^^ (BitVec.ofInt 64 x)).toNat : Int) = _
  have e : (BitVec.ofInt 64 18446744073709551615) = BitVec.allOnes 64 := by decide
  have e2 : ((BitVec.ofInt 64 x).toNat : Int) = x % 18446744073709551616 := by rw [BitVec.toNat_ofInt]; omega
  rw [e, BitVec.xor_comm, BitVec.xor_allOnes, BitVec.toNat_not, u64_mod]
  omega
theorem iWideOf_eq (n : Int) (h : inI n) : I.WideOf n = some (wd n) := by
  unfold inI at h
  unfold I.WideOf wd
  rw [cdp (by decide), show (2 : Int) ^ min (Int.toNat 63) (IntKind.bits .i64) = 9223372036854775808 from by decide, Int.fdiv_eq_ediv_of_nonneg _ (by decide), u64_mod, IntKind.wrap_i64]
  congr 2
  omega
theorem iWideAdd_eq (a b : Int) : I.WideAdd (wd a).1 (wd a).2 (wd b).1 (wd b).2 = some (wd (a + b)) := by
  unfold I.WideAdd
  have ha := (wd_range a).2
  have hb := (wd_range b).2
  rw [cdp (by omega)]
  unfold wd
  simp only [i64_add, i64_add2, Int.add_zero]
  have e : a / 18446744073709551616 + b / 18446744073709551616 + (a % 18446744073709551616 + b % 18446744073709551616) / 18446744073709551616 = (a + b) / 18446744073709551616 := by omega
  have e2 : (a % 18446744073709551616 + b % 18446744073709551616) % 18446744073709551616 = (a + b) % 18446744073709551616 := by omega
  rw [e, e2]
theorem iWideNeg_eq (a : Int) : I.WideNeg (wd a).1 (wd a).2 = some (wd (-a)) := by
  unfold I.WideNeg
  have hr := wd_range a
  rw [show (if IntKind.signed .i64 then (-1 : Int) else IntKind.max .i64) = -1 from by decide, show (if IntKind.signed .u64 then (-1 : Int) else IntKind.max .u64) = 18446744073709551615 from by decide]
  simp only []
  rw [xor_ones_i64 _ hr.1, xor_ones_u64 _ hr.2.1 hr.2.2]
  have e1 : (-1 - (wd a).1, 18446744073709551615 - (wd a).2) = wd (-1 - a) := by
    unfold wd
    simp only [Prod.mk.injEq, IntKind.wrap_i64]
    omega
  have h1 := congrArg Prod.fst e1
  have h2 := congrArg Prod.snd e1
  simp only at h1 h2
  have e3 : wd 1 = (0, 1) := by decide
  have := iWideAdd_eq (-1 - a) 1
  rw [e3] at this
  rw [h1, h2, this, show -1 - a + 1 = -a from by omega]
  rfl
theorem and_low (x : Int) (h0 : 0 ≤ x) (h1 : x < 18446744073709551616) : Go.bits .and .u64 x 4294967295 = x % 4294967296 := by
  obtain ⟨n, rfl⟩ := Int.eq_ofNat_of_zero_le h0
  have := bits_and_u64_nat n 4294967295 (by omega) (by omega)
  rw [show (4294967295 : Nat) = 2 ^ 32 - 1 from by decide, Nat.and_two_pow_sub_one_eq_mod] at this
  exact this
theorem mul64_digits (a b : Int) (ha : 0 ≤ a) (ha2 : a < 18446744073709551616) (hb : 0 ≤ b) (hb2 : b < 18446744073709551616) :
    ∃ p q r s : Int, (a / 4294967296) * (b / 4294967296) = p ∧ (a / 4294967296) * (b % 4294967296) = q ∧ (a % 4294967296) * (b / 4294967296) = r ∧ (a % 4294967296) * (b % 4294967296) = s ∧
      a * b = p * 18446744073709551616 + (q + r) * 4294967296 + s ∧ 0 ≤ p ∧ p ≤ 18446744065119617025 ∧ 0 ≤ q ∧ q ≤ 18446744065119617025 ∧ 0 ≤ r ∧ r ≤ 18446744065119617025 ∧ 0 ≤ s ∧ s ≤ 18446744065119617025 := by
  have bd : ∀ x y : Int, 0 ≤ x → x ≤ 4294967295 → 0 ≤ y → y ≤ 4294967295 → 0 ≤ x * y ∧ x * y ≤ 18446744065119617025 := fun x y h1 h2 h3 h4 => ⟨Int.mul_nonneg h1 h3, Int.le_trans (Int.mul_le_mul h2 h4 h3 (by decide)) (by decide)⟩
  have e : a * b = (a / 4294967296 * 4294967296 + a % 4294967296) * (b / 4294967296 * 4294967296 + b % 4294967296) := by rw [Int.ediv_mul_add_emod, Int.ediv_mul_add_emod]
  have h1 := bd (a / 4294967296) (b / 4294967296) (by omega) (by omega) (by omega) (by omega)
  have h2 := bd (a / 4294967296) (b % 4294967296) (by omega) (by omega) (by omega) (by omega)
  have h3 := bd (a % 4294967296) (b / 4294967296) (by omega) (by omega) (by omega) (by omega)
  have h4 := bd (a % 4294967296) (b % 4294967296) (by omega) (by omega) (by omega) (by omega)
  refine ⟨_, _, _, _, rfl, rfl, rfl, rfl, ?_, h1.1, h1.2, h2.1, h2.2, h3.1, h3.2, h4.1, h4.2⟩
  rw [e]
  generalize a / 4294967296 = A
  generalize a % 4294967296 = C
  generalize b / 4294967296 = B
  generalize b % 4294967296 = D
  rw [Int.add_mul, Int.mul_add, Int.mul_add]
  rw [show A * 4294967296 * (B * 4294967296) = A * B * 18446744073709551616 from by rw [Int.mul_assoc, Int.mul_left_comm 4294967296 B, ← Int.mul_assoc, show (4294967296 : Int) * 4294967296 = 18446744073709551616 from by decide]]
  rw [show A * 4294967296 * D = A * D * 4294967296 from by rw [Int.mul_assoc, Int.mul_comm 4294967296 D, ← Int.mul_assoc], show C * (B * 4294967296) = C * B * 4294967296 from by rw [Int.mul_assoc]]
  omega
theorem mul64_eq (a b : Int) (ha : 0 ≤ a) (ha2 : a < 18446744073709551616) (hb : 0 ≤ b) (hb2 : b < 18446744073709551616) : G.bits.Mul64 a b = some (a * b / 18446744073709551616, a * b % 18446744073709551616) := by
  unfold G.bits.Mul64
  have h32 : (2 : Int) ^ min (Int.toNat 32) (IntKind.bits .u64) = 4294967296 := by decide
  have hd : decide ((0 : Int) ≤ 32) = true := by decide
  obtain ⟨p, q, r, s, e1, e2, e3, e4, e5, p0, p1, q0, q1, r0, r1, s0, s1⟩ := mul64_digits a b ha ha2 hb hb2
  have fd : ∀ x : Int, Int.fdiv x 4294967296 = x / 4294967296 := fun x => Int.fdiv_eq_ediv_of_nonneg _ (by decide)
  simp only [hd, cond_true, h32, fd, and_low a ha ha2, and_low b hb hb2, e1, e2, e3, e4]
  rw [u64w q0 (by omega), u64w s0 (by omega), u64w p0 (by omega), u64w r0 (by omega), u64w (n := q + s / 4294967296) (by omega) (by omega), and_low _ (by omega) (by omega), u64w (n := p + (q + s / 4294967296) / 4294967296) (by omega) (by omega), u64w (n := (q + s / 4294967296) % 4294967296 + r) (by omega) (by omega), u64w (by omega) (by omega), u64_mod, e5]
  congr 2
  omega
theorem iTimesW_eq (n m : Int) (hn : inI n) (hm : 0 ≤ m) (hm2 : m < 18446744073709551616) (hm3 : m ≤ 9223372036854775807) : I.wideTimes n m = some (wd (n * m)) := by
  unfold I.wideTimes
  unfold inI at hn
  have em : IntKind.u64.wrap m = m := u64w hm hm2
  have key : ∀ z : Int, 0 ≤ z → z ≤ 9223372036854775808 → (IntKind.i64.wrap (z * m / 18446744073709551616), z * m % 18446744073709551616) = wd (z * m) := fun z h0 h1 => rfl
  simp only [em]
  by_cases c : n < 0
  · rw [cdp c, show IntKind.u64.wrap (0 - IntKind.u64.wrap n) = -n from by simp only [u64_mod]; omega, mul64_eq (-n) m (by omega) (by omega) hm hm2, Option.bind_some, cdp c]
    have h1 : IntKind.i64.wrap (-n * m / 18446744073709551616) = (wd (-n * m)).1 := rfl
    have h2 : -n * m % 18446744073709551616 = (wd (-n * m)).2 := rfl
    simp only []
    rw [h1, h2, iWideNeg_eq, Int.neg_mul, Int.neg_neg]
    rfl
  · rw [cdn c, show IntKind.u64.wrap n = n from u64w (by omega) (by omega), mul64_eq n m (by omega) (by omega) hm hm2, Option.bind_some, cdn c]
    rfl
theorem compareU64_eq (a b : Int) : G.cmp.Compare_uint64 a b = some (cmpF a b) := by
  unfold G.cmp.Compare_uint64 G.cmp.isNaN_uint64 cmpF
  simp only [Option.bind_some, bne_self_eq_false, cond_false]
  by_cases h : a < b
  · rw [cdp h, if_pos h]
  · rw [cdn h, if_neg h]
    by_cases h2 : b < a
    · rw [cdp h2, if_pos h2]
    · rw [cdn h2, if_neg h2]
theorem wd_cmp {a b : Int} (ha : inW a) (hb : inW b) : (if (wd a).1 ≠ (wd b).1 then cmpF (wd a).1 (wd b).1 else cmpF (wd a).2 (wd b).2) = cmpF a b := by
  unfold inW at ha hb
  unfold wd cmpF
  simp only [IntKind.wrap_i64]
  split <;> (repeat' split) <;> first | rfl | omega
theorem cmpF_zero (a b : Int) : cmpF a b = 0 ↔ a = b := by unfold cmpF; split <;> (try split) <;> omega
theorem orF_two (x y : Int) : orF [x, y] = if x ≠ 0 then x else y := by
  by_cases h : x = 0 <;> by_cases h2 : y = 0 <;> simp [orF, h, h2]
theorem iWideCmp_eq {a b : Int} (ha : inW a) (hb : inW b) : I.WideCmp (wd a).1 (wd a).2 (wd b).1 (wd b).2 = some (cmpF a b) := by
  unfold I.WideCmp
  rw [compareInt_eq, compareU64_eq, Option.bind_some, Option.bind_some, orInt_eq _ (by simp), Option.bind_some, ← wd_cmp ha hb, orF_two]
  by_cases h : (wd a).1 = (wd b).1
  · rw [(cmpF_zero _ _).2 h, if_neg (by decide), if_neg (fun q => q h)]
  · rw [if_pos (fun q => h ((cmpF_zero _ _).1 q)), if_pos h]
theorem sWideCmp_eq {a b : Int} (ha : inW a) (hb : inW b) : S.WideCmp (wd a).1 (wd a).2 (wd b).1 (wd b).2 = some (cmpF a b) := by
  rw [← wd_cmp ha hb]
  unfold S.WideCmp cmpF
  by_cases h : (wd a).1 = (wd b).1
  · rw [cnn h, if_neg (by simpa using h)]
    by_cases h2 : (wd a).2 = (wd b).2
    · rw [cnn h2, if_neg (by omega), if_neg (by omega)]
    · rw [cnp h2]
      by_cases h3 : (wd a).2 < (wd b).2
      · rw [cdp h3, if_pos h3]
      · rw [cdn h3, if_neg h3, if_pos (by omega)]
  · rw [cnp h, if_pos h]
    by_cases h3 : (wd a).1 < (wd b).1
    · rw [cdp h3, if_pos h3]
    · rw [cdn h3, if_neg h3, if_pos (by omega)]
def lsum : List Int → Int
  | [] => 0
  | x :: xs => x + lsum xs
theorem lsum_bd {a : List Int} (h : ∀ x ∈ a, inI x) : -9223372036854775808 * (a.length : Int) ≤ lsum a ∧ lsum a ≤ 9223372036854775807 * (a.length : Int) := by
  induction a with
  | nil => simp [lsum]
  | cons x xs ih =>
    have h1 := ih fun y hy => h y (List.mem_cons_of_mem _ hy)
    have h2 := h x List.mem_cons_self
    unfold inI at h2
    simp only [lsum, List.length_cons]
    omega
def maxAt (xs : List Int) : Nat → Nat → Nat → Nat
  | 0, _, a => a
  | k + 1, i, a => maxAt xs k (i + 1) (if nthI xs (a : Int) 0 < nthI xs (i : Int) 0 then i else a)
theorem maxAt_ok (xs : List Int) : ∀ k i a : Nat, i + k = xs.length → a < xs.length → (∀ j : Nat, j < i → nthI xs (j : Int) 0 ≤ nthI xs (a : Int) 0 ∧ (j < a → nthI xs (j : Int) 0 < nthI xs (a : Int) 0)) → (a ≤ i) →
    maxAt xs k i a < xs.length ∧ ∀ j : Nat, j < xs.length → nthI xs (j : Int) 0 ≤ nthI xs ((maxAt xs k i a : Nat) : Int) 0 ∧ (j < maxAt xs k i a → nthI xs (j : Int) 0 < nthI xs ((maxAt xs k i a : Nat) : Int) 0) := by
  intro k
  induction k with
  | zero => intro i a hi ha h _; obtain rfl : i = xs.length := by omega
            exact ⟨ha, h⟩
  | succ k ih =>
    intro i a hi ha h hle
    rw [maxAt]
    by_cases c : nthI xs (a : Int) 0 < nthI xs (i : Int) 0
    · rw [if_pos c]
      refine ih (i + 1) i (by omega) (by omega) (fun j hj => ?_) (by omega)
      rcases Nat.lt_or_ge j i with h' | h'
      · have := (h j h').1; exact ⟨by omega, fun _ => by omega⟩
      · obtain rfl : j = i := by omega
        exact ⟨Int.le_refl _, fun h => by omega⟩
    · rw [if_neg c]
      refine ih (i + 1) a (by omega) ha (fun j hj => ?_) (by omega)
      rcases Nat.lt_or_ge j i with h' | h'
      · exact h j h'
      · obtain rfl : j = i := by omega
        exact ⟨by omega, fun h => by omega⟩
def sel : Nat → List Int → List Int
  | 0, _ => []
  | n + 1, all => if all = [] then [] else nthI all ((maxAt all all.length 0 0 : Nat) : Int) 0 :: sel n (all.take (maxAt all all.length 0 0) ++ all.drop (maxAt all all.length 0 0 + 1))
theorem sel_length : ∀ n all, (sel n all).length ≤ n
  | 0, _ => by simp [sel]
  | n + 1, all => by
    rw [sel]
    split
    · simp
    · have := sel_length n (all.take (maxAt all all.length 0 0) ++ all.drop (maxAt all all.length 0 0 + 1))
      simp only [List.length_cons]; omega
def descB : List Int → Bool
  | [] => true
  | x :: xs => (xs.all fun y => decide (y ≤ x)) && descB xs
theorem sel_eq : ∀ n all, all.length ≤ n → (sel n all = all ↔ descB all = true)
  | 0, [], _ => by simp [sel, descB]
  | 0, x :: xs, h => by simp at h
  | n + 1, [], _ => by simp [sel, descB]
  | n + 1, x :: xs, h => by
    have hm := maxAt_ok (x :: xs) (x :: xs).length 0 0 (by omega) (by simp) (fun j hj => by omega) (by omega)
    have ih := sel_eq n xs (by simp at h; omega)
    rw [sel, if_neg (by simp)]
    generalize maxAt (x :: xs) (x :: xs).length 0 0 = a at *
    have h0 : nthI (x :: xs) ((0 : Nat) : Int) 0 = x := rfl
    have hj : ∀ y ∈ xs, ∃ j : Nat, j + 1 < (x :: xs).length ∧ nthI (x :: xs) ((j + 1 : Nat) : Int) 0 = y := fun y hy => by
      obtain ⟨j, hj, e⟩ := List.getElem_of_mem hy
      refine ⟨j, by simp; omega, ?_⟩
      rw [nthI_nat, List.getD_cons_succ, List.getD_eq_getElem?_getD, List.getElem?_eq_getElem hj, e]; rfl
    rw [descB, Bool.and_eq_true, List.all_eq_true]
    constructor
    · intro e
      injection e with e1 e2
      have ha : a = 0 := by
        rcases Nat.eq_zero_or_pos a with h' | h'
        · exact h'
        · have := (hm.2 0 (by simp)).2 h'
          rw [h0] at this; omega
      subst ha
      refine ⟨fun y hy => ?_, ih.1 (by simpa using e2)⟩
      obtain ⟨j, hj1, hj2⟩ := hj y hy
      have := (hm.2 (j + 1) hj1).1
      rw [hj2, h0] at this
      exact decide_eq_true this
    · rintro ⟨h1, h2⟩
      have ha : a = 0 := by
        rcases Nat.eq_zero_or_pos a with h' | h'
        · exact h'
        · have h3 := (hm.2 0 (by simp)).2 h'
          rw [h0] at h3
          obtain ⟨b, rfl⟩ : ∃ b, a = b + 1 := ⟨a - 1, by omega⟩
          have hb : b < xs.length := by have := hm.1; simp at this; omega
          have e : nthI (x :: xs) ((b + 1 : Nat) : Int) 0 = xs[b] := by
            rw [nthI_nat, List.getD_cons_succ, List.getD_eq_getElem?_getD, List.getElem?_eq_getElem hb]; rfl
          rw [e] at h3
          have := of_decide_eq_true (h1 _ (List.getElem_mem hb))
          omega
      subst ha
      rw [h0]
      simp only [List.take_zero, List.nil_append, List.drop_succ_cons, List.drop_zero, Nat.zero_add]
      rw [ih.2 h2]
theorem sTop_l1 (e : Int → List Int → List Int → Option (List Int)) (m : Nat) (xs acc : List Int) (hx : xs.length ≤ 1000000000000) : ∀ k i a : Nat, i + k = xs.length → a < xs.length → S.TopOf_l1 (k + 1 + m) e (a : Int) (i : Int) xs acc = e ((maxAt xs k i a : Nat) : Int) xs acc := by
  intro k
  induction k with
  | zero =>
    intro i a hi ha
    rw [show 0 + 1 + m = m + 1 from by omega, S.TopOf_l1, cdn (by omega)]; rfl
  | succ k ih =>
    intro i a hi ha
    rw [show k + 1 + 1 + m = (k + 1 + m) + 1 from by omega, S.TopOf_l1, cdp (by omega), cdp (by omega), cdp (by omega), w64 (by omega) (by omega), maxAt]
    simp only []
    by_cases c : nthI xs (a : Int) 0 < nthI xs (i : Int) 0
    · rw [cdp c, if_pos c]; exact ih (i + 1) i (by omega) (by omega)
    · rw [cdn c, if_neg c]; exact ih (i + 1) a (by omega) ha
theorem sTop_l0 (m : Nat) : ∀ (d : Nat) (all out : List Int), out.length + d = 4 → all.length ≤ 1000000000 → S.TopOf_l0 (d + 1 + m) (fun y => some y) all out = some (out ++ sel d all) := by
  intro d
  induction d with
  | zero =>
    intro all out ho ha
    rw [show 0 + 1 + m = m + 1 from by omega, S.TopOf_l0, cdn (by omega)]; simp [sel]
  | succ d ih =>
    intro all out ho ha
    rw [show d + 1 + 1 + m = (d + 1 + m) + 1 from by omega, S.TopOf_l0, cdp (by omega), sel]
    by_cases c : all = []
    · subst c
      rw [cdn (by simp), if_pos rfl]; simp
    · have hp : 0 < all.length := List.length_pos_iff.2 c
      obtain ⟨M, hM⟩ := fu_ge all.length (by omega)
      rw [cdp (by omega), if_neg c, hM]
      refine (sTop_l1 _ M all out (by omega) all.length 0 0 (by omega) hp).trans ?_
      have hm := (maxAt_ok all all.length 0 0 (by omega) hp (fun j hj => by omega) (by omega)).1
      generalize maxAt all all.length 0 0 = a at *
      have e1 : IntKind.i64.wrap ((a : Int) + 1) = ((a + 1 : Nat) : Int) := by rw [w64 (by omega) (by omega)]; omega
      simp only [e1, Int.toNat_natCast, List.nil_append]
      rw [cdp (by omega), cdp (by simp; omega), cdp (by omega), cdp (by omega), cdp (by simp; omega), cdp (by simp; omega)]
      rw [show Int.toNat 0 = 0 from rfl, List.drop_zero, List.take_of_length_le (Nat.le_refl all.length)]
      refine (ih _ _ (by simp; omega) (by simp; omega)).trans ?_
      simp
theorem sTopOf_eq (a b : List Int) (h : a.length + b.length ≤ 1000000000) : S.TopOf a b = some (sel 4 (a ++ b)) := by
  unfold S.TopOf
  obtain ⟨m, hm⟩ := fu_ge 4 (by omega)
  simp only [List.nil_append]
  rw [cdp (by simp; omega), cdp (by omega), hm]
  exact sTop_l0 m 4 (a ++ b) [] rfl (by rw [List.length_append]; omega)
theorem sSame_eq (a b : List Int) (hc : a.length ≤ 1000000000000) : S.l07Same a b = some (decide (a = b)) := by
  unfold S.l07Same
  refine eqTop a b ?_
  intro hl
  refine eqLoop (fun m i => S.l07Same_l0 m (fun y => some y) (some true) i a b) a b (0 : Int) hl hc (fun i m hi => ?_) (fun m => ?_)
  · show S.l07Same_l0 (m + 1) _ _ _ _ _ = bif _ then S.l07Same_l0 m _ _ _ _ _ else _
    rw [S.l07Same_l0, cdp (by omega), cdp (by omega), cdp (by omega), cneI, w64 (by omega) (by omega)]
    rfl
  · show S.l07Same_l0 (m + 1) _ _ _ _ _ = _
    rw [S.l07Same_l0, cdn (by omega)]
def aggOk (N h l mn mx : Int) (top : List Int) : Prop :=
  (N = 0 ∧ h = 0 ∧ l = 0 ∧ mn = 0 ∧ mx = 0 ∧ top.length = 0) ∨
  ((1 ≤ N ∧ N ≤ 1000000) ∧ (top.length : Int) = (if 4 < N then 4 else N) ∧ descB top = true ∧ nthI top 0 0 = mx ∧ mn ≤ nthI top ((top.length - 1 : Nat) : Int) 0 ∧
    if N ≤ 4 then mn = nthI top ((top.length - 1 : Nat) : Int) 0 ∧ h * 18446744073709551616 + l = lsum top
    else lsum top + mn + mn * (N - 5) ≤ h * 18446744073709551616 + l ∧ h * 18446744073709551616 + l ≤ lsum top + mn + nthI top ((top.length - 1 : Nat) : Int) 0 * (N - 5))
instance (N h l mn mx : Int) (top : List Int) : Decidable (aggOk N h l mn mx top) := by unfold aggOk; exact inferInstance
def descI (a : List Int) (i : Nat) : Prop := ∀ j : Nat, i ≤ j → j < a.length → 0 < j → nthI a (j : Int) 0 ≤ nthI a ((j - 1 : Nat) : Int) 0
theorem descB_cons : ∀ (x : Int) (xs : List Int), descB (x :: xs) = true ↔ (∀ y ∈ xs, y ≤ x) ∧ descB xs = true := fun x xs => by
  rw [descB, Bool.and_eq_true, List.all_eq_true]
  simp only [decide_eq_true_eq]
theorem descI_cons (x y : Int) (xs : List Int) : descI (x :: y :: xs) 0 ↔ y ≤ x ∧ descI (y :: xs) 0 := by
  constructor
  · intro h
    refine ⟨h 1 (by omega) (by simp) (by omega), fun j _ hj h0 => ?_⟩
    obtain ⟨i, rfl⟩ : ∃ i, j = i + 1 := ⟨j - 1, by omega⟩
    exact h (i + 2) (by omega) (by simp at hj ⊢; omega) (by omega)
  · rintro ⟨h1, h2⟩ j _ hj h0
    obtain ⟨i, rfl⟩ : ∃ i, j = i + 1 := ⟨j - 1, by omega⟩
    rcases Nat.eq_zero_or_pos i with rfl | hi
    · exact h1
    · have := h2 i (by omega) (by simp at hj ⊢; omega) hi
      obtain ⟨k, rfl⟩ : ∃ k, i = k + 1 := ⟨i - 1, by omega⟩
      exact this
theorem descI_iff : ∀ a : List Int, descI a 0 ↔ descB a = true
  | [] => by simp [descI, descB]
  | [x] => by
    simp only [descB, List.all_nil, Bool.and_self, iff_true]
    intro j _ hj h0; simp at hj; omega
  | x :: y :: xs => by
    rw [descI_cons, descB_cons, descI_iff (y :: xs)]
    constructor
    · rintro ⟨h1, h2⟩
      refine ⟨fun z hz => ?_, h2⟩
      rcases List.mem_cons.1 hz with rfl | hz
      · exact h1
      · have := ((descB_cons y xs).1 h2).1 z hz; omega
    · rintro ⟨h1, h2⟩; exact ⟨h1 y List.mem_cons_self, h2⟩
section
variable (top : List Int) (ht : ∀ x ∈ top, inI x) (hl : top.length ≤ 4)
include ht hl
theorem sAgg_l (e : Int → Int → Int → Int → Int → Int → Int → List Int → Option Bool) (c1 c2 c3 c4 c5 : Int) (m : Nat) : ∀ (d i : Nat) (V : Int), i + d = top.length → S.AggOk_l0 (d + 1 + m) e (i : Int) c1 c2 c3 c4 c5 (wd V).1 (wd V).2 top = e c1 c2 c3 c4 c5 (wd (V + lsum (top.drop i))).1 (wd (V + lsum (top.drop i))).2 top := by
  intro d
  induction d with
  | zero =>
    intro i V hi
    rw [show 0 + 1 + m = m + 1 from by omega, S.AggOk_l0, cdn (by omega), List.drop_of_length_le (by omega)]
    simp [lsum]
  | succ d ih =>
    intro i V hi
    rw [show d + 1 + 1 + m = (d + 1 + m) + 1 from by omega, S.AggOk_l0, cdp (by omega), cdp (by omega), sWideOf_eq _ (ht _ (nthI_mem top i 0 (by omega))), Option.bind_some, sWideAdd_eq, Option.bind_some, w64 (by omega) (by omega)]
    refine (ih (i + 1) _ (by omega)).trans ?_
    rw [drop_at top i 0 (by omega), lsum, Int.add_assoc]
theorem iAgg_l (e0 : Bool → Int → Int → Int → Int → Int → Int → Int → List Int → Option Bool) (e1 : Int → Int → Int → Int → Int → Int → Int → List Int → Option Bool) (c1 c2 c3 c4 c5 : Int) (he : ∀ a b c d e f g h, e0 false a b c d e f g h = some false) (m : Nat) : ∀ (d i : Nat) (V : Int), i + d = top.length →
    (descI top i → I.isAgg_l0 (d + 1 + m) e0 e1 (top.length : Int) (i : Int) c1 c2 c3 c4 c5 (wd V).1 (wd V).2 top = e1 c1 c2 c3 c4 c5 (wd (V - lsum (top.drop i))).1 (wd (V - lsum (top.drop i))).2 top) ∧
    (¬ descI top i → I.isAgg_l0 (d + 1 + m) e0 e1 (top.length : Int) (i : Int) c1 c2 c3 c4 c5 (wd V).1 (wd V).2 top = some false) := by
  intro d
  induction d with
  | zero =>
    intro i V hi
    rw [show 0 + 1 + m = m + 1 from by omega, I.isAgg_l0, cdn (by omega), List.drop_of_length_le (by omega)]
    exact ⟨fun _ => by simp [lsum], fun h => absurd (fun j h1 h2 => by omega) h⟩
  | succ d ih =>
    intro i V hi
    have hx := ht _ (nthI_mem top i 0 (by omega))
    have next : V + -nthI top (i : Int) 0 - lsum (top.drop (i + 1)) = V - lsum (top.drop i) := by
      rw [drop_at top i 0 (by omega), lsum]; omega
    have hgo := ih (i + 1) (V + -nthI top (i : Int) 0) (by omega)
    rw [next] at hgo
    rw [show d + 1 + 1 + m = (d + 1 + m) + 1 from by omega, I.isAgg_l0, cdp (by omega), cdp (by omega)]
    simp only [iWideOf_eq _ hx, Option.bind_some, iWideNeg_eq, iWideAdd_eq]
    rw [w64 (n := (i : Int) + 1) (by omega) (by omega)]
    by_cases c : 0 < i
    · rw [cdp (by omega), w64 (by omega) (by omega), cdp (by omega), show (i : Int) - 1 = ((i - 1 : Nat) : Int) from by omega]
      by_cases c2 : nthI top ((i - 1 : Nat) : Int) 0 < nthI top (i : Int) 0
      · rw [cdp c2, he]
        exact ⟨fun h => by have := h i (Nat.le_refl _) (by omega) c; omega, fun _ => rfl⟩
      · rw [cdn c2]
        refine ⟨fun h => hgo.1 fun j h1 => h j (by omega), fun h => hgo.2 fun h' => h fun j h1 h2 h3 => ?_⟩
        rcases Nat.lt_or_ge i j with h4 | h4
        · exact h' j (by omega) h2 h3
        · obtain rfl : j = i := by omega
          omega
    · rw [cdn (by omega)]
      refine ⟨fun h => hgo.1 fun j h1 => h j (by omega), fun h => hgo.2 fun h' => h fun j h1 h2 h3 => h' j (by omega) h2 h3⟩
end
theorem wd_red (V : Int) (h0 : -340282366920938463463374607431768211456 ≤ V) (h1 : V < 340282366920938463463374607431768211456) : ∃ V3, inW V3 ∧ wd V = wd V3 ∧ (V3 = V ∨ V3 = V - 340282366920938463463374607431768211456 ∨ V3 = V + 340282366920938463463374607431768211456) := by
  have per : ∀ X : Int, wd (X + 340282366920938463463374607431768211456) = wd X := fun X => by
    unfold wd
    simp only [Prod.mk.injEq, IntKind.wrap_i64]
    omega
  unfold inW
  by_cases c : V < -170141183460469231731687303715884105728
  · exact ⟨V + 340282366920938463463374607431768211456, by omega, (per V).symm, .inr (.inr rfl)⟩
  · by_cases c2 : 170141183460469231731687303715884105728 ≤ V
    · refine ⟨V - 340282366920938463463374607431768211456, by omega, ?_, .inr (.inl rfl)⟩
      have := per (V - 340282366920938463463374607431768211456)
      rw [show V - 340282366920938463463374607431768211456 + 340282366920938463463374607431768211456 = V from by omega] at this
      exact this
    · exact ⟨V, by omega, rfl, .inl rfl⟩
theorem cmpF_le (a b : Int) : cmpF a b ≤ 0 ↔ a ≤ b := by unfold cmpF; split <;> (try split) <;> omega
theorem cmpF_ge (a b : Int) : 0 ≤ cmpF a b ↔ b ≤ a := by unfold cmpF; split <;> (try split) <;> omega
theorem many_bd {x n : Int} (hx : inI x) (h0 : 0 ≤ n) (h1 : n ≤ 1000000) : -9223372036854775808000000 ≤ x * n ∧ x * n ≤ 9223372036854775808000000 := by
  have h2 : x.natAbs ≤ 9223372036854775808 := by unfold inI at hx; omega
  have h3 : (x * n).natAbs ≤ 9223372036854775808 * 1000000 := by rw [Int.natAbs_mul]; exact Nat.mul_le_mul h2 (by omega)
  omega
section
variable (N h l mn mx : Int) (top : List Int) (hN : inI N) (hh : inI h) (hl0 : 0 ≤ l) (hl1 : l < 18446744073709551616) (hmn : inI mn) (ht : ∀ x ∈ top, inI x) (hl : top.length ≤ 1000000000)
include hN hh hl0 hl1 hmn ht hl
theorem iAggOk_eq : I.isAgg N h l mn mx top = some (decide (aggOk N h l mn mx top)) := by
  unfold I.isAgg
  by_cases c0 : N = 0
  · rw [cep c0]
    have hz : ∀ x : Int, (x == 0) = decide (x = 0) := fun x => by rw [Bool.eq_iff_iff]; simp
    simp only [hz, Bool.and_true, dand, cds]
    refine sdec ?_
    unfold aggOk
    constructor
    · rintro ⟨⟨h1, h2⟩, h3, h4, h5⟩; exact .inl ⟨c0, h1, h2, h3, h4, by omega⟩
    · rintro (⟨_, h1, h2, h3, h4, h5⟩ | ⟨h1, _⟩)
      · exact ⟨⟨h1, h2⟩, h3, h4, by omega⟩
      · omega
  rw [cen c0, in_eq, Option.bind_some]
  by_cases c1 : ¬ (1 ≤ N ∧ N ≤ 1000000)
  · rw [decide_eq_false c1, Bool.not_false, cond_true]
    exact sfal fun h => by unfold aggOk at h; rcases h with h | h <;> omega
  have c1 := Decidable.not_not.1 c1
  rw [decide_eq_true c1, Bool.not_true, cond_false]
  by_cases c2 : ¬ (top.length : Int) = (if 4 < N then 4 else N)
  · rw [cnp c2]
    exact sfal fun h => by
      unfold aggOk at h
      rcases h with h | h
      · omega
      · exact c2 h.2.1
  have c2 := Decidable.not_not.1 c2
  have hlen : 1 ≤ top.length ∧ top.length ≤ 4 := by split at c2 <;> omega
  rw [cnn c2, cdp (by omega)]
  by_cases c3 : ¬ nthI top 0 0 = mx
  · rw [cnp c3]
    exact sfal fun h => by
      unfold aggOk at h
      rcases h with h | h
      · omega
      · exact c3 h.2.2.2.1
  have c3 := Decidable.not_not.1 c3
  rw [cnn c3]
  obtain ⟨W, hW⟩ : ∃ W, W = h * 18446744073709551616 + l := ⟨_, rfl⟩
  have hw := wd_of hh hl0 hl1 hW
  obtain ⟨m, hm⟩ := fu_ge top.length (by omega)
  rw [hm]
  have hloop := iAgg_l top ht hlen.2 (fun y37 y38 y39 y40 y41 y42 y43 y44 y45 => some y37) (fun y46 y47 y48 y49 y50 y51 y52 y53 =>
    (let v55 : Int := (IntKind.wrap .i64 ((y53.length : Int) - 1))
    (bif decide ((0 : Int) ≤ v55 ∧ v55 < (y53.length : Int)) then
    (let v56 : Int := (nthI y53 v55 (0 : Int))
    (bif (decide (y46 ≤ 4)) then
    (bif (y49 == v56) then
    (some ((y51 == 0) && ((y52 == 0) && true)))
    else
    (some false))
    else
    (let v60 : Int := (IntKind.wrap .i64 ((IntKind.wrap .i64 (y46 - 4)) - 1))
    (Option.bind (I.WideOf y49) fun r61 =>
    (Option.bind (I.WideNeg r61.1 r61.2) fun r62 =>
    (Option.bind (I.WideAdd y51 y52 r62.1 r62.2) fun r63 =>
    (bif (decide (y49 ≤ v56)) then
    (Option.bind (I.wideTimes y49 v60) fun r65 =>
    (Option.bind (I.WideCmp r65.1 r65.2 r63.1 r63.2) fun r66 =>
    (bif (decide (r66 ≤ 0)) then
    (Option.bind (I.wideTimes v56 v60) fun r68 =>
    (Option.bind (I.WideCmp r63.1 r63.2 r68.1 r68.2) fun r69 =>
    (some (decide (r69 ≤ 0)))))
    else
    (some false))))
    else
    (some false))))))))
    else
    none))) N h l mn mx (fun _ _ _ _ _ _ _ _ => rfl) m top.length 0 W (by omega)
  rw [← hw, List.drop_zero] at hloop
  by_cases c4 : ¬ descI top 0
  · refine (hloop.2 c4).trans (sfal fun h => ?_)
    unfold aggOk at h
    rcases h with h | h
    · omega
    · exact c4 ((descI_iff top).2 h.2.2.1)
  have c4 := Classical.not_not.1 c4
  refine (hloop.1 c4).trans ?_
  have hs := lsum_bd ht
  have e1 : IntKind.i64.wrap ((top.length : Int) - 1) = ((top.length - 1 : Nat) : Int) := by rw [w64 (by omega) (by omega)]; omega
  have hlast := ht _ (nthI_mem top (top.length - 1) 0 (by omega))
  have hWr : inW W := by unfold inI at hh; unfold inW; omega
  simp only [e1]
  rw [cdp (by omega)]
  have hA : ∀ (q : Prop), (aggOk N h l mn mx top ↔ mn ≤ nthI top ((top.length - 1 : Nat) : Int) 0 ∧ if N ≤ 4 then mn = nthI top ((top.length - 1 : Nat) : Int) 0 ∧ W = lsum top else lsum top + mn + mn * (N - 5) ≤ W ∧ W ≤ lsum top + mn + nthI top ((top.length - 1 : Nat) : Int) 0 * (N - 5)) := fun q => by
    unfold aggOk
    rw [← hW]
    constructor
    · rintro (h | ⟨_, _, _, _, h5, h6⟩)
      · omega
      · exact ⟨h5, h6⟩
    · rintro ⟨h5, h6⟩
      exact .inr ⟨c1, c2, (descI_iff top).1 c4, c3, h5, h6⟩
  have hA := hA True
  unfold inW at hWr
  by_cases c5 : N ≤ 4
  · rw [cdp c5]
    rw [if_pos c5] at hA
    by_cases c6 : mn = nthI top ((top.length - 1 : Nat) : Int) 0
    · rw [cep c6]
      refine sbool (Iff.trans ?_ hA.symm)
      simp only [Bool.and_true, Bool.and_eq_true, beq_iff_eq]
      obtain ⟨V3, h1, h2, h3⟩ := wd_red (W - lsum top) (by omega) (by omega)
      have e0 : wd 0 = (0, 0) := by decide
      constructor
      · rintro ⟨q1, q2⟩
        have : wd V3 = wd 0 := by rw [← h2, e0]; exact Prod.ext q1 q2
        have := wd_inj h1 (by unfold inW; omega) this
        exact ⟨by omega, c6, by omega⟩
      · rintro ⟨_, _, q⟩
        rw [show W - lsum top = 0 from by omega, e0]; exact ⟨rfl, rfl⟩
    · rw [cen c6]
      exact sfal fun h => c6 (hA.1 h).2.1
  · rw [cdn c5]
    rw [if_neg c5] at hA
    have e2 : IntKind.i64.wrap (IntKind.i64.wrap (N - 4) - 1) = N - 5 := by rw [w64 (n := N - 4) (by omega) (by omega), w64 (by omega) (by omega)]; omega
    simp only [e2]
    rw [iWideOf_eq _ hmn, Option.bind_some, iWideNeg_eq, Option.bind_some, iWideAdd_eq, Option.bind_some]
    by_cases c6 : mn ≤ nthI top ((top.length - 1 : Nat) : Int) 0
    · rw [cdp c6, iTimesW_eq _ _ hmn (by omega) (by omega) (by omega), iTimesW_eq _ _ hlast (by omega) (by omega) (by omega)]
      have b1 := many_bd hmn (show 0 ≤ N - 5 by omega) (by omega)
      have b2 := many_bd hlast (show 0 ≤ N - 5 by omega) (by omega)
      unfold inI at hmn
      obtain ⟨V3, h1, h2, h3⟩ := wd_red (W - lsum top + -mn) (by omega) (by omega)
      generalize mn * (N - 5) = p at *
      generalize nthI top ((top.length - 1 : Nat) : Int) 0 * (N - 5) = q at *
      rw [h2]
      simp only [Option.bind_some]
      rw [iWideCmp_eq (show inW p by unfold inW; omega) h1, Option.bind_some, iWideCmp_eq h1 (show inW q by unfold inW; omega), Option.bind_some, cds]
      refine sdec (Iff.trans ?_ hA.symm)
      rw [cmpF_le, cmpF_le]
      unfold inW at h1
      constructor
      · rintro ⟨q1, q2⟩; exact ⟨c6, by omega, by omega⟩
      · rintro ⟨_, q1, q2⟩; constructor <;> omega
    · rw [cdn c6]
      exact sfal fun h => c6 (hA.1 h).1
theorem sAggOk_eq : S.AggOk N h l mn mx top = some (decide (aggOk N h l mn mx top)) := by
  unfold S.AggOk
  by_cases c1 : N < 0
  · rw [cdp c1]; exact sfal fun h => by unfold aggOk at h; rcases h with h | h <;> omega
  rw [cdn c1]
  by_cases c1b : 1000000 < N
  · rw [cdp c1b]; exact sfal fun h => by unfold aggOk at h; rcases h with h | h <;> omega
  rw [cdn c1b]
  by_cases c2 : ¬ (top.length : Int) = (if 4 < N then 4 else N)
  · rw [cnp c2]
    exact sfal fun h => by
      unfold aggOk at h
      rcases h with h | h
      · rw [if_neg (by omega)] at c2; omega
      · exact c2 h.2.1
  have c2 := Decidable.not_not.1 c2
  rw [cnn c2]
  by_cases c0 : N = 0
  · rw [cep c0]
    have hz : ∀ x : Int, (x == 0) = decide (x = 0) := fun x => by rw [Bool.eq_iff_iff]; simp
    simp only [hz, Bool.and_true, dand, cds]
    refine sdec ?_
    rw [if_neg (by omega)] at c2
    unfold aggOk
    constructor
    · rintro ⟨⟨h1, h2⟩, h3, h4⟩; exact .inl ⟨c0, h1, h2, h3, h4, by omega⟩
    · rintro (⟨_, h1, h2, h3, h4, h5⟩ | ⟨h1, _⟩)
      · exact ⟨⟨h1, h2⟩, h3, h4⟩
      · omega
  rw [cen c0]
  have hlen : 1 ≤ top.length ∧ top.length ≤ 4 := by split at c2 <;> omega
  have hsl := sel_length 4 (top ++ [])
  rw [sTopOf_eq top [] (by simp; omega), Option.bind_some, sSame_eq _ _ (by omega), Option.bind_some, List.append_nil]
  by_cases c4 : ¬ sel 4 top = top
  · rw [decide_eq_false c4, Bool.not_false, cond_true]
    refine sfal fun h => ?_
    unfold aggOk at h
    rcases h with h | h
    · omega
    · exact c4 ((sel_eq 4 top hlen.2).2 h.2.2.1)
  have c4 := Decidable.not_not.1 c4
  rw [decide_eq_true c4, Bool.not_true, cond_false, cdp (by omega)]
  have c4 := (sel_eq 4 top hlen.2).1 c4
  by_cases c3 : ¬ nthI top 0 0 = mx
  · rw [cnp c3]
    exact sfal fun h => by
      unfold aggOk at h
      rcases h with h | h
      · omega
      · exact c3 h.2.2.2.1
  have c3 := Decidable.not_not.1 c3
  have e1 : IntKind.i64.wrap ((top.length : Int) - 1) = ((top.length - 1 : Nat) : Int) := by rw [w64 (by omega) (by omega)]; omega
  rw [cnn c3]
  simp only [e1]
  rw [cdp (by omega)]
  by_cases c6 : nthI top ((top.length - 1 : Nat) : Int) 0 < mn
  · rw [cdp c6]
    exact sfal fun h => by
      unfold aggOk at h
      rcases h with h | h
      · omega
      · have := h.2.2.2.2.1; omega
  rw [cdn c6]
  obtain ⟨W, hW⟩ : ∃ W, W = h * 18446744073709551616 + l := ⟨_, rfl⟩
  have hw := wd_of hh hl0 hl1 hW
  obtain ⟨m, hm⟩ := fu_ge top.length (by omega)
  have hloop := fun e => sAgg_l top ht hlen.2 e N h l mn mx m top.length 0 0 (by omega)
  rw [show wd 0 = (0, 0) from by decide, List.drop_zero, Int.zero_add] at hloop
  rw [hm]
  refine (hloop _).trans ?_
  have hs := lsum_bd ht
  have hlast := ht _ (nthI_mem top (top.length - 1) 0 (by omega))
  have hWr : inW W := by unfold inI at hh; unfold inW; omega
  have hA : aggOk N h l mn mx top ↔ if N ≤ 4 then mn = nthI top ((top.length - 1 : Nat) : Int) 0 ∧ W = lsum top else lsum top + mn + mn * (N - 5) ≤ W ∧ W ≤ lsum top + mn + nthI top ((top.length - 1 : Nat) : Int) 0 * (N - 5) := by
    unfold aggOk
    rw [← hW]
    constructor
    · rintro (h | ⟨_, _, _, _, h5, h6⟩)
      · omega
      · exact h6
    · intro h6
      exact .inr ⟨by omega, c2, c4, c3, by omega, h6⟩
  have e2 : IntKind.i64.wrap (N - (top.length : Int)) = N - (top.length : Int) := w64 (by omega) (by omega)
  have hwr : ∀ X : Int, (h == (wd X).1 && (l == (wd X).2 && true)) = decide (wd W = wd X) := fun X => by
    rw [← hw, Bool.eq_iff_iff]
    simp only [Bool.and_true, Bool.and_eq_true, beq_iff_eq, decide_eq_true_eq, Prod.ext_iff]
  have hcmp : ∀ X : Int, inW X → S.WideCmp h l (wd X).1 (wd X).2 = some (cmpF W X) := fun X hX => by
    have := sWideCmp_eq hWr hX
    rwa [← hw] at this
  simp only [e1, e2, hwr, dup_eq, same_self]
  by_cases c5 : N ≤ 4
  · rw [if_pos c5] at hA
    rw [if_neg (by omega)] at c2
    rw [cep (by omega), cdp (by omega)]
    by_cases c7 : mn = nthI top ((top.length - 1 : Nat) : Int) 0
    · rw [cep c7]
      refine sdec (Iff.trans ?_ hA.symm)
      constructor
      · intro q; exact ⟨c7, wd_inj hWr (by unfold inW; omega) q⟩
      · rintro ⟨_, q⟩; rw [q]
    · rw [cen c7]
      exact sfal fun h => c7 (hA.1 h).1
  · rw [if_neg c5] at hA
    rw [if_pos (by omega)] at c2
    have hl4 : top.length = 4 := by omega
    have e3 : IntKind.i64.wrap (N - (top.length : Int) - 1) = N - 5 := by rw [w64 (by omega) (by omega)]; omega
    have b1 := many_bd hmn (show 0 ≤ N - 5 by omega) (by omega)
    have b2 := many_bd hlast (show 0 ≤ N - 5 by omega) (by omega)
    have ht1 : S.l07Times (N - (top.length : Int)) mn = some (wd (mn * (N - 5) + mn)) := by
      unfold S.l07Times
      rw [sTimes_eq _ _ (by unfold inI; omega) hmn, show (N - (top.length : Int)) * mn = mn * (N - 5) + mn from by rw [show N - (top.length : Int) = (N - 5) + 1 from by omega, Int.add_mul, Int.one_mul, Int.mul_comm]]; rfl
    have hi3 : nthI top 3 0 = nthI top ((top.length - 1 : Nat) : Int) 0 := by rw [hl4]; rfl
    have ht2 : S.l07Times (N - 5) (nthI top 3 0) = some (wd (nthI top ((top.length - 1 : Nat) : Int) 0 * (N - 5))) := by
      unfold S.l07Times
      rw [hi3, sTimes_eq _ _ (by unfold inI; omega) hlast, Int.mul_comm]; rfl
    unfold inI at hmn
    rw [cen (by omega)]
    simp only [ht1, Option.bind_some, sWideAdd_eq, e3]
    rw [cdp (by omega), sWideOf_eq mn (by unfold inI; omega)]
    simp only [Option.bind_some, sWideAdd_eq, ht2]
    generalize mn * (N - 5) = p at *
    generalize nthI top ((top.length - 1 : Nat) : Int) 0 * (N - 5) = q at *
    rw [hcmp _ (by unfold inW; omega), Option.bind_some, hcmp _ (by unfold inW; omega), Option.bind_some, cds]
    refine sdec (Iff.trans ?_ hA.symm)
    rw [cmpF_le, cmpF_ge]
    constructor
    · rintro ⟨q1, q2⟩; constructor <;> omega
    · rintro ⟨q1, q2⟩; constructor <;> omega
end
def cellOk (c : TCell) : Prop := (0 ≤ c.1 ∧ c.1 ≤ 3) ∧ (0 ≤ c.2.1 ∧ c.2.1 ≤ 15) ∧ (0 ≤ c.2.2.2.2.1 ∧ c.2.2.2.2.1 ≤ 15) ∧ (0 ≤ c.2.2.1 ∧ c.2.2.1 < c.2.2.2.1 ∧ c.2.2.2.1 ≤ 1100) ∧ aggOk c.2.2.2.2.2.1 c.2.2.2.2.2.2.1.1 c.2.2.2.2.2.2.1.2 c.2.2.2.2.2.2.2.1 c.2.2.2.2.2.2.2.2.1 c.2.2.2.2.2.2.2.2.2 ∧ 0 < c.2.2.2.2.2.1
instance (c : TCell) : Decidable (cellOk c) := by unfold cellOk; exact inferInstance
theorem l06Win_eq (a b : Int) : S.l06Win a b = some (decide (0 ≤ a ∧ a < b ∧ b ≤ 1100)) := by unfold S.l06Win; simp only [cds]
theorem isWin_eq (a b : Int) : I.isWin a b = some (decide (0 ≤ a ∧ a < b ∧ b ≤ 1100)) := by unfold I.isWin; simp only [cds]
theorem isId_eq (a : Int) : I.isId a = some (decide (0 ≤ a ∧ a ≤ 3)) := by unfold I.isId; rw [in_eq]; rfl
theorem isCellPlace_eq (a b c : Int) : I.isCellPlace a b c = some (decide ((0 ≤ a ∧ a ≤ 3) ∧ (0 ≤ b ∧ b ≤ 15) ∧ (0 ≤ c ∧ c ≤ 15))) := by
  unfold I.isCellPlace; simp only [isId_eq, isKey_eq, in_eq, Option.bind_some, cds]
theorem agg_wf {c : TCell} (h : bCell c) (hl : c.2.2.2.2.2.2.2.2.2.length ≤ 1000000000) : S.AggOk c.2.2.2.2.2.1 c.2.2.2.2.2.2.1.1 c.2.2.2.2.2.2.1.2 c.2.2.2.2.2.2.2.1 c.2.2.2.2.2.2.2.2.1 c.2.2.2.2.2.2.2.2.2 = some (decide (aggOk c.2.2.2.2.2.1 c.2.2.2.2.2.2.1.1 c.2.2.2.2.2.2.1.2 c.2.2.2.2.2.2.2.1 c.2.2.2.2.2.2.2.2.1 c.2.2.2.2.2.2.2.2.2)) ∧ I.isAgg c.2.2.2.2.2.1 c.2.2.2.2.2.2.1.1 c.2.2.2.2.2.2.1.2 c.2.2.2.2.2.2.2.1 c.2.2.2.2.2.2.2.2.1 c.2.2.2.2.2.2.2.2.2 = some (decide (aggOk c.2.2.2.2.2.1 c.2.2.2.2.2.2.1.1 c.2.2.2.2.2.2.1.2 c.2.2.2.2.2.2.2.1 c.2.2.2.2.2.2.2.2.1 c.2.2.2.2.2.2.2.2.2)) := by
  obtain ⟨_, _, _, _, _, h6, ⟨h7, h8⟩, h9, h10, h11⟩ := h
  have q8 : 0 ≤ c.2.2.2.2.2.2.1.2 ∧ c.2.2.2.2.2.2.1.2 < 18446744073709551616 := u64_wf h8
  have qt : ∀ x ∈ c.2.2.2.2.2.2.2.2.2, inI x := fun x hx => i64_wf (h11.2 x hx)
  exact ⟨sAggOk_eq _ _ _ _ _ _ (i64_wf h6) (i64_wf h7) q8.1 q8.2 (i64_wf h9) qt hl, iAggOk_eq _ _ _ _ _ _ (i64_wf h6) (i64_wf h7) q8.1 q8.2 (i64_wf h9) qt hl⟩
theorem sCellOk_eq (c : TCell) (h : bCell c) (hl : c.2.2.2.2.2.2.2.2.2.length ≤ 1000000000) : S.CellOk c.1 c.2.1 c.2.2.1 c.2.2.2.1 c.2.2.2.2.1 c.2.2.2.2.2.1 c.2.2.2.2.2.2.1.1 c.2.2.2.2.2.2.1.2 c.2.2.2.2.2.2.2.1 c.2.2.2.2.2.2.2.2.1 c.2.2.2.2.2.2.2.2.2 = some (decide (cellOk c)) := by
  unfold S.CellOk
  simp only [l04Key_eq, l06Win_eq, (agg_wf h hl).1, Option.bind_some, cds]
  refine sdec ?_
  unfold cellOk
  by_cases hA : aggOk c.2.2.2.2.2.1 c.2.2.2.2.2.2.1.1 c.2.2.2.2.2.2.1.2 c.2.2.2.2.2.2.2.1 c.2.2.2.2.2.2.2.2.1 c.2.2.2.2.2.2.2.2.2 <;> simp only [hA, and_true, true_and, false_and, and_false] <;> omega
theorem iCellOk_eq (c : TCell) (h : bCell c) (hl : c.2.2.2.2.2.2.2.2.2.length ≤ 1000000000) : I.isCell c.1 c.2.1 c.2.2.1 c.2.2.2.1 c.2.2.2.2.1 c.2.2.2.2.2.1 c.2.2.2.2.2.2.1.1 c.2.2.2.2.2.2.1.2 c.2.2.2.2.2.2.2.1 c.2.2.2.2.2.2.2.2.1 c.2.2.2.2.2.2.2.2.2 = some (decide (cellOk c)) := by
  unfold I.isCell I.Cell_win
  simp only [isCellPlace_eq, isWin_eq, (agg_wf h hl).2, Option.bind_some, cds]
  refine sdec ?_
  unfold cellOk
  by_cases hA : aggOk c.2.2.2.2.2.1 c.2.2.2.2.2.2.1.1 c.2.2.2.2.2.2.1.2 c.2.2.2.2.2.2.2.1 c.2.2.2.2.2.2.2.2.1 c.2.2.2.2.2.2.2.2.2 <;> simp only [hA, and_true, true_and, false_and, and_false] <;> omega
def cellKey (c : TCell) : List Int := [c.1, c.2.1, c.2.2.1, c.2.2.2.1, c.2.2.2.2.1]
def cellLt (a b : TCell) : Prop :=
  if a.1 ≠ b.1 then a.1 < b.1 else if a.2.1 ≠ b.2.1 then a.2.1 < b.2.1 else if a.2.2.1 ≠ b.2.2.1 then a.2.2.1 < b.2.2.1 else if a.2.2.2.1 ≠ b.2.2.2.1 then a.2.2.2.1 < b.2.2.2.1 else a.2.2.2.2.1 < b.2.2.2.2.1
instance (a b : TCell) : Decidable (cellLt a b) := by unfold cellLt; exact inferInstance
theorem sLess_eq (a b : TCell) : S.l09Less a.1 a.2.1 a.2.2.1 a.2.2.2.1 a.2.2.2.2.1 a.2.2.2.2.2.1 a.2.2.2.2.2.2.1.1 a.2.2.2.2.2.2.1.2 a.2.2.2.2.2.2.2.1 a.2.2.2.2.2.2.2.2.1 b.1 b.2.1 b.2.2.1 b.2.2.2.1 b.2.2.2.2.1 b.2.2.2.2.2.1 b.2.2.2.2.2.2.1.1 b.2.2.2.2.2.2.1.2 b.2.2.2.2.2.2.2.1 b.2.2.2.2.2.2.2.2.1 a.2.2.2.2.2.2.2.2.2 b.2.2.2.2.2.2.2.2.2 = some (decide (cellLt a b)) := by
  unfold S.l09Less
  simp only [Bool.cond_eq_ite, bne_iff_ne]
  repeat' split
  all_goals exact sdec (by unfold cellLt; simp_all)
theorem orF_four (x y z w : Int) : orF [x, y, z, w] = if x ≠ 0 then x else if y ≠ 0 then y else if z ≠ 0 then z else w := by
  by_cases h : x = 0 <;> by_cases h2 : y = 0 <;> by_cases h3 : z = 0 <;> by_cases h4 : w = 0 <;> simp [orF, h, h2, h3, h4]
theorem cmpF_neg (a b : Int) : cmpF a b < 0 ↔ a < b := by unfold cmpF; split <;> (try split) <;> omega
def cellCmp (a b : TCell) : Int := orF [orF [cmpF a.1 b.1, cmpF a.2.1 b.2.1, cmpF a.2.2.1 b.2.2.1, cmpF a.2.2.2.1 b.2.2.2.1], cmpF a.2.2.2.2.1 b.2.2.2.2.1]
theorem iCompareCells_eq (a b : TCell) : I.compareCells a.1 a.2.1 a.2.2.1 a.2.2.2.1 a.2.2.2.2.1 a.2.2.2.2.2.1 a.2.2.2.2.2.2.1.1 a.2.2.2.2.2.2.1.2 a.2.2.2.2.2.2.2.1 a.2.2.2.2.2.2.2.2.1 b.1 b.2.1 b.2.2.1 b.2.2.2.1 b.2.2.2.2.1 b.2.2.2.2.2.1 b.2.2.2.2.2.2.1.1 b.2.2.2.2.2.2.1.2 b.2.2.2.2.2.2.2.1 b.2.2.2.2.2.2.2.2.1 a.2.2.2.2.2.2.2.2.2 b.2.2.2.2.2.2.2.2.2 = some (cellCmp a b) := by
  unfold I.compareCells I.compareSeats cellCmp
  rw [compareInt_eq, compareInt_eq, compareInt_eq, compareInt_eq, compareInt_eq]
  simp only [Option.bind_some]
  rw [orInt_eq _ (by simp)]
  simp only [Option.bind_some]
  rw [orInt_eq _ (by simp)]
  rfl
theorem cellCmp_neg (a b : TCell) : cellCmp a b < 0 ↔ cellLt a b := by
  unfold cellCmp cellLt
  rw [orF_two, orF_four]
  by_cases c1 : a.1 = b.1 <;> by_cases c2 : a.2.1 = b.2.1 <;> by_cases c3 : a.2.2.1 = b.2.2.1 <;> by_cases c4 : a.2.2.2.1 = b.2.2.2.1 <;> simp [c1, c2, c3, c4, cmpF_zero, cmpF_neg]
abbrev cellD : TCell := ((0 : Int), ((0 : Int), ((0 : Int), ((0 : Int), ((0 : Int), ((0 : Int), (((0 : Int), (0 : Int)), ((0 : Int), ((0 : Int), [])))))))))
def cellsP (a : List TCell) (i : Nat) : Prop := cellOk (nthI a (i : Int) cellD) ∧ (i = 0 ∨ cellLt (nthI a ((i - 1 : Nat) : Int) cellD) (nthI a (i : Int) cellD))
instance (a : List TCell) : DecidablePred (cellsP a) := fun i => by unfold cellsP; exact inferInstance
def cellsOk (a : List TCell) : Prop := (∀ j, j < a.length → cellsP a j) ∧ a.length ≤ 10000
instance (a : List TCell) : Decidable (cellsOk a) := by unfold cellsOk; exact inferInstance
section
variable (a : List TCell) (hw : ∀ x ∈ a, bCell x) (hc : cCellS a ≤ 1000000000)
include hw hc
theorem cell_len {x : TCell} (h : x ∈ a) : x.2.2.2.2.2.2.2.2.2.length ≤ 1000000000 := Nat.le_trans (cCellS_mem h) hc
theorem sCellsOk_eq : S.CellsOk a = some (decide (cellsOk a)) := by
  have hn : a.length ≤ 1000000000 := by unfold cCellS at hc; omega
  unfold S.CellsOk
  by_cases h : 10000 < a.length
  · rw [cdp (by omega)]; exact sfal fun q => by have := q.2; omega
  rw [cdn (by omega)]
  refine (allLoop (fun m i => S.CellsOk_l0 m (fun y => some y) (some true) i a) a.length (cellsP a) true (by omega) (fun i m hi => ?_) (fun m => ?_)).trans ?_
  · show S.CellsOk_l0 (m + 1) _ _ _ _ = bif _ then S.CellsOk_l0 m _ _ _ _ else _
    have hx := nthI_mem a i cellD hi
    have hdec : decide ((0 : Int) ≤ (i : Int) ∧ (i : Int) < (a.length : Int)) = true := decide_eq_true (by omega)
    rw [S.CellsOk_l0, cdp (by omega)]
    simp only [hdec, cond_true]
    rw [sCellOk_eq (nthI a (i : Int) cellD) (hw _ hx) (cell_len a hw hc hx), Option.bind_some]
    by_cases c1 : cellOk (nthI a (i : Int) cellD)
    · rw [decide_eq_true c1, Bool.not_true, cond_false]
      by_cases c2 : 0 < i
      · have hd2 : decide ((0 : Int) ≤ ((i - 1 : Nat) : Int) ∧ ((i - 1 : Nat) : Int) < (a.length : Int)) = true := decide_eq_true (by omega)
        have e1 : IntKind.i64.wrap ((i : Int) - 1) = ((i - 1 : Nat) : Int) := by rw [w64 (by omega) (by omega)]; omega
        rw [cdp (by omega)]
        simp only [e1, hd2, cond_true]
        rw [sLess_eq (nthI a ((i - 1 : Nat) : Int) cellD) (nthI a (i : Int) cellD), Option.bind_some, w64 (by omega) (by omega)]
        by_cases c3 : cellLt (nthI a ((i - 1 : Nat) : Int) cellD) (nthI a (i : Int) cellD)
        · rw [decide_eq_true c3, cdp (show cellsP a i from ⟨c1, .inr c3⟩)]; rfl
        · rw [decide_eq_false c3, cdn (fun q : cellsP a i => q.2.elim (by omega) c3)]; rfl
      · rw [cdn (by omega), w64 (by omega) (by omega), cdp (show cellsP a i from ⟨c1, .inl (by omega)⟩)]; rfl
    · rw [decide_eq_false c1, Bool.not_false, cond_true, cdn (fun q : cellsP a i => c1 q.1)]
  · show S.CellsOk_l0 (m + 1) _ _ _ _ = _
    rw [S.CellsOk_l0, cdn (by omega)]
  · rw [Bool.and_true]; exact sdec ⟨fun q => ⟨q, by omega⟩, fun q => q.1⟩
theorem iCellsOk_eq : I.areCells a = some (decide (cellsOk a)) := by
  have hn : a.length ≤ 1000000000 := by unfold cCellS at hc; omega
  unfold I.areCells
  refine (allLoop (fun m i => I.areCells_l0 m (fun y z => some y) (fun y => some (decide ((y.length : Int) ≤ 10000))) (a.length : Int) i a) a.length (cellsP a) (decide ((a.length : Int) ≤ 10000)) (by omega) (fun i m hi => ?_) (fun m => ?_)).trans ?_
  · show I.areCells_l0 (m + 1) _ _ _ _ _ = bif _ then I.areCells_l0 m _ _ _ _ _ else _
    have hx := nthI_mem a i cellD hi
    have hdec : decide ((0 : Int) ≤ (i : Int) ∧ (i : Int) < (a.length : Int)) = true := decide_eq_true (by omega)
    rw [I.areCells_l0, cdp (by omega)]
    simp only [hdec, cond_true]
    rw [iCellOk_eq (nthI a (i : Int) cellD) (hw _ hx) (cell_len a hw hc hx), Option.bind_some]
    by_cases c1 : cellOk (nthI a (i : Int) cellD)
    · rw [decide_eq_true c1, Bool.not_true, cond_false]
      by_cases c2 : 0 < i
      · have hd2 : decide ((0 : Int) ≤ ((i - 1 : Nat) : Int) ∧ ((i - 1 : Nat) : Int) < (a.length : Int)) = true := decide_eq_true (by omega)
        have e1 : IntKind.i64.wrap ((i : Int) - 1) = ((i - 1 : Nat) : Int) := by rw [w64 (by omega) (by omega)]; omega
        rw [cdp (by omega)]
        simp only [e1, hd2, cond_true]
        rw [iCompareCells_eq (nthI a ((i - 1 : Nat) : Int) cellD) (nthI a (i : Int) cellD), Option.bind_some, w64 (by omega) (by omega)]
        have hneg := cellCmp_neg (nthI a ((i - 1 : Nat) : Int) cellD) (nthI a (i : Int) cellD)
        by_cases c3 : cellLt (nthI a ((i - 1 : Nat) : Int) cellD) (nthI a (i : Int) cellD)
        · have := hneg.2 c3
          rw [cdn (by omega), cdp (show cellsP a i from ⟨c1, .inr c3⟩)]; rfl
        · have : ¬ _ := fun q => c3 (hneg.1 q)
          rw [cdp (by omega), cdn (fun q : cellsP a i => q.2.elim (by omega) c3)]
      · rw [cdn (by omega), w64 (by omega) (by omega), cdp (show cellsP a i from ⟨c1, .inl (by omega)⟩)]; rfl
    · rw [decide_eq_false c1, Bool.not_false, cond_true, cdn (fun q : cellsP a i => c1 q.1)]
  · show I.areCells_l0 (m + 1) _ _ _ _ _ = _
    rw [I.areCells_l0, cdn (by omega)]
  · rw [dand]; exact sdec ⟨fun q => ⟨q.1, by omega⟩, fun q => ⟨q.1, by have := q.2; omega⟩⟩
end
theorem filterLoop {β γ : Type} (F : Nat → Int → List β → Option γ) (n : Nat) (p : Nat → Bool) (g : Nat → β) (E : List β → Option γ) (hn : n ≤ 1000000000000)
    (hs : ∀ (i m : Nat) (acc : List β), i < n → acc.length ≤ i → F (m + 1) (i : Int) acc = bif p i then F m ((i + 1 : Nat) : Int) (acc ++ [g i]) else F m ((i + 1 : Nat) : Int) acc)
    (he : ∀ (m : Nat) (acc : List β), F (m + 1) (n : Int) acc = E acc) : F fu 0 [] = E (((List.range n).filter p).map g) := by
  obtain ⟨M, hM⟩ := fu_ge n hn
  have h1 : ∀ k i : Nat, ∀ acc : List β, i + k = n → acc.length ≤ i → F (k + 1 + M) (i : Int) acc = E (acc ++ ((List.range' i k).filter p).map g) := by
    intro k
    induction k with
    | zero =>
      intro i acc hi ha
      obtain rfl : i = n := by omega
      rw [show 0 + 1 + M = M + 1 from by omega, he]
      simp
    | succ k ih =>
      intro i acc hi ha
      rw [show k + 1 + 1 + M = (k + 1 + M) + 1 from by omega, List.range'_succ, List.filter_cons, hs i _ acc (by omega) ha]
      cases hp : p i with
      | true =>
        rw [cond_true, ih (i + 1) _ (by omega) (by simp; omega)]
        simp
      | false =>
        rw [cond_false, ih (i + 1) _ (by omega) (by omega)]
        simp
  rw [hM, List.range_eq_range']
  exact h1 n 0 [] (by omega) (by simp)
theorem range_nth {α : Type} (a : List α) (d : α) : ((List.range a.length).filter fun _ => true).map (fun i : Nat => nthI a (i : Int) d) = a := by
  rw [List.filter_eq_self.2 (fun _ _ => rfl)]
  apply List.ext_getElem?
  intro i
  rw [List.getElem?_map]
  by_cases h : i < a.length
  · rw [List.getElem?_range h, List.getElem?_eq_getElem h, Option.map_some, nthI_nat, List.getD_eq_getElem?_getD, List.getElem?_eq_getElem h]
    rfl
  · rw [List.getElem?_eq_none (by simp; omega), List.getElem?_eq_none (by omega)]
    rfl
theorem copyLoop {α γ : Type} (F : Nat → Int → List α → Option γ) (a : List α) (d : α) (E : List α → Option γ) (hn : a.length ≤ 1000000000000)
    (hs : ∀ (i m : Nat) (acc : List α), i < a.length → acc.length ≤ i → F (m + 1) (i : Int) acc = F m ((i + 1 : Nat) : Int) (acc ++ [nthI a (i : Int) d]))
    (he : ∀ (m : Nat) (acc : List α), F (m + 1) (a.length : Int) acc = E acc) : F fu 0 [] = E a := by
  have := filterLoop F a.length (fun _ => true) (fun i => nthI a (i : Int) d) E hn (fun i m acc h1 h2 => hs i m acc h1 h2) he
  rw [this, range_nth]
theorem cloneInt_eq (a : List Int) (h : a.length ≤ 1048576) : G.slices.Clone_int a = some a := by
  unfold G.slices.Clone_int
  by_cases h0 : a.length = 0
  · obtain rfl := List.eq_nil_of_length_eq_zero h0
    rw [cdp h0, cdp (by simp only [List.length_nil]; omega)]
    exact same_self _
  · rw [cdn h0, List.nil_append, cdp (by simp only [List.length_nil]; omega)]
def pickL {α : Type} (p : Nat → Bool) (a : List α) (d : α) : List α := ((List.range a.length).filter p).map fun i : Nat => nthI a (i : Int) d
theorem range_map {α : Type} (a : List α) (d : α) : (List.range a.length).map (fun i : Nat => nthI a (i : Int) d) = a := by
  have := range_nth a d
  rwa [List.filter_eq_self.2 (fun _ _ => rfl)] at this
theorem pickL_sub {α : Type} (p : Nat → Bool) (a : List α) (d : α) : (pickL p a d).Sublist a := by
  have h : ((List.range a.length).filter p).Sublist (List.range a.length) := List.filter_sublist
  have h2 := h.map (fun i : Nat => nthI a (i : Int) d)
  rw [range_map] at h2
  exact h2
theorem pickL_len {α : Type} (p : Nat → Bool) (a : List α) (d : α) : (pickL p a d).length ≤ a.length := (pickL_sub p a d).length_le
theorem pickL_mem {α : Type} {p : Nat → Bool} {a : List α} {d x : α} (h : x ∈ pickL p a d) : x ∈ a := (pickL_sub p a d).subset h
theorem sum_sub {α : Type} (f : α → Nat) : ∀ {l1 l2 : List α}, List.Sublist l1 l2 → (l1.map f).sum ≤ (l2.map f).sum := by
  intro l1 l2 h
  induction h with
  | slnil => simp
  | cons x h ih => simp only [List.map_cons, List.sum_cons]; omega
  | cons_cons x h ih => simp only [List.map_cons, List.sum_cons]; omega
theorem cellCopied_eq (x : TCell) (h : x.2.2.2.2.2.2.2.2.2.length ≤ 1048576) : I.Cell_copied x.1 x.2.1 x.2.2.1 x.2.2.2.1 x.2.2.2.2.1 x.2.2.2.2.2.1 x.2.2.2.2.2.2.1.1 x.2.2.2.2.2.2.1.2 x.2.2.2.2.2.2.2.1 x.2.2.2.2.2.2.2.2.1 x.2.2.2.2.2.2.2.2.2 = some (x.1, x.2.1, x.2.2.1, x.2.2.2.1, x.2.2.2.2.1, x.2.2.2.2.2.1, x.2.2.2.2.2.2.1.1, x.2.2.2.2.2.2.1.2, x.2.2.2.2.2.2.2.1, x.2.2.2.2.2.2.2.2.1, x.2.2.2.2.2.2.2.2.2) := by
  unfold I.Cell_copied
  rw [cloneInt_eq _ h, Option.bind_some]
theorem l09Agg_eq (a b c d e : Int) (t : List Int) (h : t.length ≤ 1048576) : S.l09Agg a b c d e t = some (a, b, c, d, e, t) := by
  unfold S.l09Agg
  rw [List.nil_append, cdp (by simp only [List.length_nil]; omega)]
theorem l09Copy_eq (a : List TCell) (hn : a.length ≤ 1048576) (hv : ∀ x ∈ a, x.2.2.2.2.2.2.2.2.2.length ≤ 1048576) : S.l09Copy a = some a := by
  unfold S.l09Copy
  refine copyLoop (fun m i acc => S.l09Copy_l0 m (fun y10 => some y10) i a acc) a cellD (fun xs => some xs) (by omega) (fun i m acc hi hacc => ?_) (fun m acc => ?_)
  · show S.l09Copy_l0 (m + 1) _ _ _ _ = S.l09Copy_l0 m _ _ _ _
    have hdec : decide ((0 : Int) ≤ (i : Int) ∧ (i : Int) < (a.length : Int)) = true := decide_eq_true (by omega)
    have hx := hv _ (nthI_mem a i cellD hi)
    rw [S.l09Copy_l0, cdp (by omega)]
    simp only [hdec, cond_true]
    rw [l09Agg_eq _ _ _ _ _ _ hx, Option.bind_some, w64 (by omega) (by omega)]
    rw [cdp (by simp only [List.length_cons, List.length_nil]; omega)]
    rfl
  · show S.l09Copy_l0 (m + 1) _ _ _ _ = _
    rw [S.l09Copy_l0, cdn (by omega)]
theorem wCellS_le (q : List TCell) : wCellS q ≤ 10 * cCellS q := by
  unfold wCellS cCellS
  induction q with
  | nil => simp
  | cons x q ih =>
    have : w1Cell x = 10 + 1 * cCell x := rfl
    simp only [List.map_cons, List.sum_cons, List.length_cons]
    omega
theorem cCellS_len (a : List TCell) : a.length ≤ cCellS a := by unfold cCellS; omega
theorem cCellS_pick (p : Nat → Bool) (a : List TCell) : cCellS (pickL p a cellD) ≤ cCellS a := by
  have h1 := sum_sub cCell (pickL_sub p a cellD)
  have h2 := pickL_len p a cellD
  unfold cCellS
  omega
theorem like_refl : ∀ (s : Sh) (y : s.hsh.den), s.like y y
  | .int _, _ => trivial
  | .bool, _ => trivial
  | .str, _ => trivial
  | .rs _ _, _ => trivial
  | .hr _ _, _ => trivial
  | .hv, _ => trivial
  | .sl _ _, _ => rfl
  | .pair a b, y => ⟨like_refl a y.1, like_refl b y.2⟩
theorem heads_zero : ∀ (s : Sh), s.wh = 0 → ∀ (y : s.hsh.den), s.heads y = []
  | .int _, _, _ => rfl
  | .bool, _, _ => rfl
  | .str, _, _ => rfl
  | .rs _ _, _, _ => rfl
  | .hr _ _, _, _ => rfl
  | .hv, _, _ => rfl
  | .sl _ _, h, _ => by cases h
  | .pair a b, h, y => by
    have h : a.wh + b.wh = 0 := h
    show a.heads y.1 ++ b.heads y.2 = []
    rw [heads_zero a (by omega), heads_zero b (by omega)]
    rfl
theorem heads_att : ∀ (s : Sh), s.wh = 1 → ∀ (h : HD) (x : s.den), s.heads (s.att h x) = [h]
  | .int _, h, _, _ => by cases h
  | .bool, h, _, _ => by cases h
  | .str, h, _, _ => by cases h
  | .rs _ _, h, _, _ => by cases h
  | .hr _ _, h, _, _ => by cases h
  | .hv, h, _, _ => by cases h
  | .sl _ _, _, _, _ => rfl
  | .pair a b, h, hd, x => by
    have h : a.wh + b.wh = 1 := h
    show a.heads (a.att hd x.1) ++ b.heads (b.att hd x.2) = [hd]
    rcases Nat.eq_zero_or_pos a.wh with ha | ha
    · rw [heads_zero a ha, heads_att b (by omega)]
      rfl
    · rw [heads_att a (by omega), heads_zero b (by omega)]
      rfl
theorem bare_att : ∀ (s : Sh) (h : HD) (x : s.den), s.bare (s.att h x) = x
  | .int _, _, _ => rfl
  | .bool, _, _ => rfl
  | .str, _, _ => rfl
  | .rs _ _, _, _ => rfl
  | .hr _ _, _, _ => rfl
  | .hv, _, _ => rfl
  | .sl _ _, _, _ => rfl
  | .pair a b, h, x => by
    show (a.bare (a.att h x.1), b.bare (b.att h x.2)) = x
    rw [bare_att a, bare_att b]
    rfl
theorem zip_heads (s : Sh) (hw : s.wh = 1) : ∀ (hs : List HD) (xs : List s.den), hs.length = xs.length → (List.zipWith s.att hs xs).flatMap s.heads = hs
  | [], [], _ => rfl
  | h :: hs, x :: xs, hl => by
    rw [List.zipWith_cons_cons, List.flatMap_cons, heads_att s hw, zip_heads s hw hs xs (by simpa using hl)]
    rfl
theorem zip_bare (s : Sh) : ∀ (hs : List HD) (xs : List s.den), hs.length = xs.length → (List.zipWith s.att hs xs).map s.bare = xs
  | [], [], _ => rfl
  | h :: hs, x :: xs, hl => by
    rw [List.zipWith_cons_cons, List.map_cons, bare_att, zip_bare s hs xs (by simpa using hl)]
theorem sub_flat {α β : Type} (f : α → List β) : ∀ {l1 l2 : List α}, List.Sublist l1 l2 → List.Sublist (l1.flatMap f) (l2.flatMap f) := by
  intro l1 l2 h
  induction h with
  | slnil => simp
  | cons x h ih => rw [List.flatMap_cons]; exact ih.trans (List.sublist_append_right _ _)
  | cons_cons x h ih => rw [List.flatMap_cons, List.flatMap_cons]; exact (List.Sublist.refl _).append ih
theorem thaw_part {s : Sh} (hw : s.wh = 1) {hs : List HD} {xs : List s.den} (hl : hs.length = xs.length) (hn : (hs.filterMap HD.blk).Nodup) {ys l : List s.hsh.den} (hp : ys.Perm l) (hsub : l.Sublist (List.zipWith s.att hs xs)) : thawOk s (List.zipWith s.att hs xs) ys := by
  refine ⟨fun y hy => ⟨y, hsub.subset (hp.mem_iff.1 hy), like_refl s y⟩, ?_⟩
  have h1 : (ys.flatMap s.heads).Perm (l.flatMap s.heads) := hp.flatMap_right _
  have h2 := sub_flat s.heads hsub
  rw [zip_heads s hw hs xs hl] at h2
  exact (h1.filterMap HD.blk).nodup_iff.2 (hn.sublist (h2.filterMap HD.blk))
theorem idxLoop {γ : Type} (F : Nat → Int → Option γ) (n : Nat) (p : Nat → Bool) (E1 : Int → Option γ) (E0 : Option γ) (hn : n ≤ 1000000000000)
    (hs : ∀ (i m : Nat), i < n → F (m + 1) (i : Int) = bif p i then E1 (i : Int) else F m ((i + 1 : Nat) : Int)) (he : ∀ m : Nat, F (m + 1) (n : Int) = E0) :
    (∃ i, i < n ∧ p i = true ∧ (∀ j, j < i → p j = false) ∧ F fu 0 = E1 (i : Int)) ∨ ((∀ j, j < n → p j = false) ∧ F fu 0 = E0) := by
  obtain ⟨M, hM⟩ := fu_ge n hn
  have h1 : ∀ k i : Nat, i + k = n → (∀ j, j < i → p j = false) → (∃ i', i' < n ∧ p i' = true ∧ (∀ j, j < i' → p j = false) ∧ F (k + 1 + M) (i : Int) = E1 (i' : Int)) ∨ ((∀ j, j < n → p j = false) ∧ F (k + 1 + M) (i : Int) = E0) := by
    intro k
    induction k with
    | zero =>
      intro i hi hb
      obtain rfl : i = n := by omega
      exact .inr ⟨hb, by rw [show 0 + 1 + M = M + 1 from by omega, he]⟩
    | succ k ih =>
      intro i hi hb
      rw [show k + 1 + 1 + M = (k + 1 + M) + 1 from by omega, hs i _ (by omega)]
      cases hp : p i with
      | true => exact .inl ⟨i, by omega, hp, hb, rfl⟩
      | false =>
        rw [cond_false]
        refine ih (i + 1) (by omega) fun j hj => ?_
        rcases Nat.lt_or_ge j i with h | h
        · exact hb j h
        · obtain rfl : j = i := by omega
          exact hp
  rw [hM]
  exact h1 n 0 (by omega) (fun j hj => by omega)
theorem set_take {α : Type} (s : List α) (i : Nat) (x : α) (h : i < s.length) : (s.set i x).take (i + 1) = s.take i ++ [x] := by
  rw [List.take_add_one, List.take_set, List.getElem?_set_self h]
  congr 1
  rw [List.set_eq_of_length_le (by rw [List.length_take]; omega)]
theorem delLoop {α γ : Type} (F : Nat → Int → Int → List α → Option γ) (z : List α) (keep : α → Bool) (d : α) (E : Int → List α → Option γ) (hn : z.length ≤ 1000000000000)
    (hs : ∀ (i j m : Nat) (s : List α), i < j → j < z.length → s.length = z.length → F (m + 1) (i : Int) (j : Int) s = bif keep (nthI s (j : Int) d) then F m ((i + 1 : Nat) : Int) ((j + 1 : Nat) : Int) (s.set i (nthI s (j : Int) d)) else F m (i : Int) ((j + 1 : Nat) : Int) s)
    (he : ∀ (i m : Nat) (s : List α), i ≤ z.length → s.length = z.length → F (m + 1) (i : Int) (z.length : Int) s = E (i : Int) s)
    (i0 : Nat) (h0 : i0 < z.length) (hk : ∀ j, j < i0 → keep (nthI z (j : Int) d) = true) (hd : keep (nthI z (i0 : Int) d) = false) :
    ∃ (i : Nat) (s : List α), i ≤ z.length ∧ s.length = z.length ∧ s.take i = z.filter keep ∧ F fu (i0 : Int) ((i0 + 1 : Nat) : Int) z = E (i : Int) s := by
  obtain ⟨M, hM⟩ := fu_ge (z.length - (i0 + 1)) (by omega)
  have nth : ∀ (s : List α) (j : Nat), j < s.length → s[j]? = some (nthI s (j : Int) d) := by
    intro s j hj
    rw [nthI_nat, List.getD_eq_getElem?_getD, List.getElem?_eq_getElem hj]
    rfl
  have h1 : ∀ k i j : Nat, ∀ s : List α, j + k = z.length → i < j → s.length = z.length → s.take i = (z.take j).filter keep → s.drop j = z.drop j →
      ∃ (i' : Nat) (s' : List α), i' ≤ z.length ∧ s'.length = z.length ∧ s'.take i' = z.filter keep ∧ F (k + 1 + M) (i : Int) (j : Int) s = E (i' : Int) s' := by
    intro k
    induction k with
    | zero =>
      intro i j s hj hij hl ht hd
      obtain rfl : j = z.length := by omega
      rw [List.take_length] at ht
      exact ⟨i, s, by omega, hl, ht, by rw [show 0 + 1 + M = M + 1 from by omega, he i _ s (by omega) hl]⟩
    | succ k ih =>
      intro i j s hj hij hl ht hd
      have hx : nthI s (j : Int) d = nthI z (j : Int) d := by
        have h2 := nth s j (by omega)
        have h3 := nth z j (by omega)
        have h4 : s[j]? = z[j]? := by
          have := congrArg (fun l => l[0]?) hd
          simpa using this
        rw [h2, h3] at h4
        injection h4
      have hz : (z.take (j + 1)).filter keep = (z.take j).filter keep ++ (if keep (nthI z (j : Int) d) = true then [nthI z (j : Int) d] else []) := by
        rw [List.take_add_one, nth z j (by omega), List.filter_append]
        congr 1
        show List.filter keep [_] = _
        rw [List.filter_cons]
        rfl
      have hdr : z.drop (j + 1) = s.drop (j + 1) := by
        have := congrArg (List.drop 1) hd
        rw [List.drop_drop, List.drop_drop] at this
        exact this.symm
      rw [show k + 1 + 1 + M = (k + 1 + M) + 1 from by omega, hs i j _ s hij (by omega) hl, hx]
      cases hp : keep (nthI z (j : Int) d) with
      | true =>
        rw [cond_true]
        refine ih (i + 1) (j + 1) _ (by omega) (by omega) (by rw [List.length_set]; exact hl) ?_ ?_
        · rw [set_take s i _ (by omega), ht, hz, hp, if_pos rfl]
        · rw [List.drop_set_of_lt (by omega)]
          exact hdr.symm
      | false =>
        rw [cond_false]
        refine ih i (j + 1) s (by omega) (by omega) hl ?_ hdr.symm
        rw [ht, hz, hp, if_neg (by simp), List.append_nil]
  have hall : (z.take i0).filter keep = z.take i0 := by
    rw [List.filter_eq_self]
    intro x hx
    obtain ⟨j, hj, rfl⟩ := List.getElem_of_mem hx
    rw [List.length_take] at hj
    have h2 := nth z j (by omega)
    rw [List.getElem?_eq_getElem (by omega)] at h2
    injection h2 with h2
    rw [List.getElem_take, h2]
    exact hk j (by omega)
  have h2 := h1 (z.length - (i0 + 1)) i0 (i0 + 1) z (by omega) (by omega) rfl (by
    rw [List.take_add_one, nth z i0 h0, List.filter_append, hall]
    show _ = _ ++ List.filter keep [_]
    rw [List.filter_cons, if_neg (by rw [hd]; simp)]
    simp) rfl
  rw [hM]
  exact h2
def desc (l : List Int) : List Int := (l.mergeSort (fun x y => decide (x ≤ y))).reverse
def top4 (l : List Int) : List Int := (desc l).take 4
theorem desc_perm (l : List Int) : (desc l).Perm l := (List.reverse_perm _).trans (List.mergeSort_perm _ _)
theorem desc_pw (l : List Int) : (desc l).Pairwise (fun a b => b ≤ a) := by
  unfold desc
  rw [List.pairwise_reverse]
  have := List.pairwise_mergeSort (le := fun x y : Int => decide (x ≤ y)) (fun a b c h1 h2 => by simp only [decide_eq_true_eq] at *; omega) (fun a b => by simp only [Bool.or_eq_true, decide_eq_true_eq]; omega) l
  exact this.imp fun h => by simpa using h
theorem desc_uniq {l m : List Int} (hp : m.Perm l) (hw : m.Pairwise (fun a b => b ≤ a)) : m = desc l :=
  List.Perm.eq_of_pairwise (le := fun a b => b ≤ a) (fun a b _ _ h1 h2 => by omega) hw (desc_pw l) (hp.trans (desc_perm l).symm)
theorem desc_congr {l m : List Int} (hp : l.Perm m) : desc l = desc m := desc_uniq ((desc_perm l).trans hp) (desc_pw l)
theorem top4_comm (a b : List Int) : top4 (a ++ b) = top4 (b ++ a) := by unfold top4; rw [desc_congr List.perm_append_comm]
theorem desc_len (l : List Int) : (desc l).length = l.length := (desc_perm l).length_eq
theorem top4_len (l : List Int) : (top4 l).length = min 4 l.length := by unfold top4; rw [List.length_take, desc_len]
theorem top4_mem {l : List Int} {x : Int} (h : x ∈ top4 l) : x ∈ l := (desc_perm l).mem_iff.1 (List.mem_of_mem_take h)
theorem sel_desc : ∀ (n : Nat) (l : List Int), sel n l = (desc l).take n
  | 0, l => by simp [sel]
  | n + 1, l => by
    rw [sel]
    by_cases h : l = []
    · subst h; rw [if_pos rfl]; simp [desc]
    · rw [if_neg h]
      have hp : 0 < l.length := List.length_pos_iff.2 h
      obtain ⟨h1, h2⟩ := maxAt_ok l l.length 0 0 (by omega) hp (fun j hj => by omega) (by omega)
      generalize maxAt l l.length 0 0 = a at *
      rw [sel_desc n]
      have hx : nthI l (a : Int) 0 = l[a] := by rw [nthI_nat, List.getD_eq_getElem?_getD, List.getElem?_eq_getElem h1]; rfl
      have he : l = l.take a ++ nthI l (a : Int) 0 :: l.drop (a + 1) := by
        rw [hx]
        have := List.drop_eq_getElem_cons h1
        rw [← this, List.take_append_drop]
      have hperm : (nthI l (a : Int) 0 :: desc (l.take a ++ l.drop (a + 1))).Perm l := by
        refine ((desc_perm _).cons _).trans ?_
        conv => rhs; rw [he]
        exact List.perm_middle.symm
      have hge : ∀ y ∈ l, y ≤ nthI l (a : Int) 0 := fun y hy => by
        obtain ⟨j, hj, e⟩ := List.getElem_of_mem hy
        have := (h2 j hj).1
        rw [nthI_nat, List.getD_eq_getElem?_getD, List.getElem?_eq_getElem hj, Option.getD_some, e] at this
        exact this
      have hd := desc_uniq hperm (List.pairwise_cons.2 ⟨fun y hy => hge y (hperm.mem_iff.1 (List.mem_cons_of_mem _ hy)), desc_pw _⟩)
      rw [← hd, List.take_succ_cons]
theorem sel4 (l : List Int) : sel 4 l = top4 l := sel_desc 4 l
theorem descB_pw : ∀ l : List Int, descB l = true ↔ l.Pairwise (fun a b => b ≤ a)
  | [] => by simp [descB]
  | x :: xs => by rw [descB_cons, List.pairwise_cons, descB_pw xs]
theorem top4_desc (l : List Int) : descB (top4 l) = true := (descB_pw _).2 ((desc_pw l).sublist (List.take_sublist _ _))
theorem revLoop (e : List Int → Option (List Int)) (l : List Int) (hl : l.length ≤ 1000000000) : ∀ (k i : Nat) (xs : List Int) (m : Nat), xs.length = l.length → 2 * i + k = l.length → i + k ≤ l.length →
    (∀ j : Nat, j < l.length → nthI xs (j : Int) 0 = if j < i ∨ l.length ≤ j + i then nthI l ((l.length - 1 - j : Nat) : Int) 0 else nthI l (j : Int) 0) →
    G.slices.Reverse_int_l0 (k + 1 + m) e (i : Int) ((i : Int) + (k : Int) - 1) xs = e l.reverse := by
  intro k
  induction k using Nat.strongRecOn with
  | ind k ih =>
    intro i xs m hx hk hik hn
    by_cases hk2 : k ≤ 1
    · have hall : xs = l.reverse := by
        apply List.ext_getElem (by rw [List.length_reverse]; exact hx)
        intro j h1 h2
        have hj : j < l.length := by omega
        have := hn j hj
        have e1 : nthI xs (j : Int) 0 = xs[j] := by rw [nthI_nat, List.getD_eq_getElem?_getD, List.getElem?_eq_getElem h1]; rfl
        have e2 : nthI l ((l.length - 1 - j : Nat) : Int) 0 = l[l.length - 1 - j] := by rw [nthI_nat, List.getD_eq_getElem?_getD, List.getElem?_eq_getElem (by omega)]; rfl
        rw [List.getElem_reverse, ← e2, ← e1, this]
        split
        · rfl
        · have : j = l.length - 1 - j := by omega
          rw [← this]
      rw [show k + 1 + m = (k + m) + 1 from by omega, G.slices.Reverse_int_l0, cdn (by omega), hall]
    · obtain ⟨q, rfl⟩ : ∃ q, k = q + 2 := ⟨k - 2, by omega⟩
      have ei : ((i : Int) + ((q + 2 : Nat) : Int) - 1) = ((i + q + 1 : Nat) : Int) := by omega
      rw [ei, show q + 2 + 1 + m = (q + 1 + (m + 1)) + 1 from by omega, G.slices.Reverse_int_l0, cdp (by omega), cdp (by omega), cdp (by omega), cdp (by omega)]
      simp only []
      rw [cdp (by rw [List.length_set]; omega), w64 (by omega) (by omega), w64 (by omega) (by omega), Int.toNat_natCast, Int.toNat_natCast]
      refine Eq.trans ?_ (ih q (by omega) (i + 1) ((xs.set i (nthI xs ((i + q + 1 : Nat) : Int) 0)).set (i + q + 1) (nthI xs (i : Int) 0)) (m + 1) (by simp [hx]) (by omega) (by omega) fun j hj => ?_)
      · congr 1 <;> omega
      · have h1 := hn j hj
        have hi := hn i (by omega)
        have hq := hn (i + q + 1) (by omega)
        rw [if_neg (by omega)] at hi hq
        rw [hi, hq]
        rw [nthI_nat] at h1 ⊢
        rw [List.getD_eq_getElem?_getD] at h1 ⊢
        by_cases c1 : j = i + q + 1
        · subst c1
          rw [List.getElem?_set_self (by simp; omega), if_pos (by omega), show l.length - 1 - (i + q + 1) = i from by omega]
          rfl
        · rw [List.getElem?_set_ne (Ne.symm c1)]
          by_cases c2 : j = i
          · subst c2
            rw [List.getElem?_set_self (by omega), if_pos (by omega), show l.length - 1 - j = j + q + 1 from by omega]
            rfl
          · rw [List.getElem?_set_ne (Ne.symm c2), h1]
            by_cases c3 : j < i ∨ l.length ≤ j + i
            · rw [if_pos c3, if_pos (by omega)]
            · rw [if_neg c3, if_neg (by omega)]
theorem reverse_eq (l : List Int) (hl : l.length ≤ 1000000000) : G.slices.Reverse_int l = some l.reverse := by
  unfold G.slices.Reverse_int
  obtain ⟨m, hm⟩ := fu_ge l.length (by omega)
  rw [hm, w64 (by omega) (by omega)]
  have := revLoop (fun y12 => some y12) l hl l.length 0 l m rfl (by omega) (by omega) (fun j hj => by
    split
    · omega
    · rfl)
  refine Eq.trans ?_ this
  congr 1
  omega
theorem topOf_eq (l : List Int) (hl : l.length ≤ 1000000) : I.topOf l = some (top4 l) := by
  unfold I.topOf G.slices.Values_int X.sorted
  rw [Option.bind_some, decide_eq_true (by omega), cond_true, Option.bind_some]
  simp only []
  rw [reverse_eq _ (by rw [(List.mergeSort_perm _ _).length_eq]; omega), Option.bind_some]
  have hd : (l.mergeSort fun x y => decide (x ≤ y)).reverse = desc l := rfl
  have hdl := desc_len l
  simp only [hd]
  rw [cdp (by split <;> omega), cloneInt_eq _ (by simp; omega), Option.bind_some]
  unfold top4
  congr 1
  rw [show Int.toNat 0 = 0 from rfl, List.drop_zero]
  split
  · rfl
  · rw [show Int.toNat ((desc l).length : Int) = (desc l).length from Int.toNat_natCast _, List.take_length, List.take_of_length_le (by omega)]
theorem concat_eq (a b : List Int) (h : a.length + b.length ≤ 1000000) : G.slices.Concat_int [a, b] = some (a ++ b) := by
  unfold G.slices.Concat_int
  obtain ⟨m, hm⟩ := fu_ge 2 (by omega)
  rw [hm, show 2 + 1 + m = m + 1 + 1 + 1 from by omega]
  have h0 : nthI [a, b] 0 [] = a := rfl
  have h1 : nthI [a, b] 1 [] = b := rfl
  have hl : (([a, b] : List (List Int)).length : Int) = 2 := rfl
  rw [G.slices.Concat_int_l0]
  simp only [hl]
  rw [cdp (by omega), cdp (by omega), h0, w64 (n := 0 + (a.length : Int)) (by omega) (by omega), cdn (by omega), w64 (n := 0 + 1) (by omega) (by omega)]
  rw [G.slices.Concat_int_l0]
  simp only [hl]
  rw [show (0 : Int) + 1 = 1 from rfl, cdp (by omega), cdp (by omega), h1, w64 (n := 0 + (a.length : Int) + (b.length : Int)) (by omega) (by omega), cdn (by omega), w64 (n := 1 + 1) (by omega) (by omega)]
  rw [G.slices.Concat_int_l0]
  simp only [hl]
  rw [show (1 : Int) + 1 = 2 from rfl, cdn (by omega)]
  unfold X.grow0
  simp only []
  rw [cdp (by omega), Option.bind_some, G.slices.Concat_int_l1, cdp (by omega)]
  simp only [hl]
  rw [cdp (by omega), h0, cdp (by simp only [List.length_nil]; omega), w64 (n := 0 + 1) (by omega) (by omega), G.slices.Concat_int_l1]
  simp only [hl]
  rw [show (0 : Int) + 1 = 1 from rfl, cdp (by omega), cdp (by omega), h1, cdp (by simp only [List.nil_append]; omega), w64 (n := 1 + 1) (by omega) (by omega), G.slices.Concat_int_l1, cdn (by omega), List.nil_append]
structure AggN (N S mn mx : Int) (t : List Int) : Prop where
  one : 1 ≤ N ∧ N ≤ 1000000
  len : (t.length : Int) = if 4 < N then 4 else N
  pw : t.Pairwise (fun a b => b ≤ a)
  top : mx ∈ t ∧ ∀ x ∈ t, x ≤ mx
  low : ∀ x ∈ t, mn ≤ x
  few : N ≤ 4 → mn ∈ t ∧ S = lsum t
  many : 4 < N → ∃ l, l ∈ t ∧ (∀ x ∈ t, l ≤ x) ∧ lsum t + mn * (N - 4) ≤ S ∧ S ≤ lsum t + mn + l * (N - 5)
theorem pw_last {t : List Int} (h : t.Pairwise (fun a b => b ≤ a)) (hp : 0 < t.length) : nthI t ((t.length - 1 : Nat) : Int) 0 ∈ t ∧ ∀ x ∈ t, nthI t ((t.length - 1 : Nat) : Int) 0 ≤ x := by
  refine ⟨nthI_mem t _ 0 (by omega), fun x hx => ?_⟩
  obtain ⟨j, hj, rfl⟩ := List.getElem_of_mem hx
  rw [nthI_nat, List.getD_eq_getElem?_getD, List.getElem?_eq_getElem (by omega), Option.getD_some]
  by_cases e : j = t.length - 1
  · subst e; exact Int.le_refl _
  · exact List.pairwise_iff_getElem.1 h j (t.length - 1) hj (by omega) (by omega)
theorem pw_first {t : List Int} (h : t.Pairwise (fun a b => b ≤ a)) (hp : 0 < t.length) : nthI t 0 0 ∈ t ∧ ∀ x ∈ t, x ≤ nthI t 0 0 := by
  refine ⟨nthI_mem t 0 0 hp, fun x hx => ?_⟩
  obtain ⟨j, hj, rfl⟩ := List.getElem_of_mem hx
  rw [show nthI t 0 0 = nthI t ((0 : Nat) : Int) 0 from rfl, nthI_nat, List.getD_eq_getElem?_getD, List.getElem?_eq_getElem hp, Option.getD_some]
  by_cases e : j = 0
  · subst e; exact Int.le_refl _
  · exact List.pairwise_iff_getElem.1 h 0 j hp hj (by omega)
theorem aggN_of {N h l mn mx : Int} {t : List Int} (ha : aggOk N h l mn mx t) (h0 : 0 < N) : AggN N (h * 18446744073709551616 + l) mn mx t := by
  unfold aggOk at ha
  rcases ha with ha | ⟨h1, h2, h3, h4, h5, h6⟩
  · omega
  · have hp : 0 < t.length := by split at h2 <;> omega
    have hpw := (descB_pw t).1 h3
    obtain ⟨q1, q2⟩ := pw_last hpw hp
    obtain ⟨q3, q4⟩ := pw_first hpw hp
    rw [h4] at q3 q4
    refine ⟨h1, h2, hpw, ⟨q3, q4⟩, fun x hx => by have := q2 x hx; omega, fun h => ?_, fun h => ?_⟩
    · rw [if_pos h] at h6
      exact ⟨by rw [h6.1]; exact q1, h6.2⟩
    · rw [if_neg (by omega)] at h6
      refine ⟨_, q1, q2, ?_, by omega⟩
      have : mn * (N - 4) = mn + mn * (N - 5) := by rw [show N - 4 = 1 + (N - 5) from by omega, Int.mul_add, Int.mul_one]
      omega
theorem aggOk_of {N h l mn mx : Int} {t : List Int} (ha : AggN N (h * 18446744073709551616 + l) mn mx t) : aggOk N h l mn mx t := by
  have hp : 0 < t.length := by have h1 := ha.len; have h2 := ha.one; split at h1 <;> omega
  obtain ⟨q1, q2⟩ := pw_last ha.pw hp
  obtain ⟨q3, q4⟩ := pw_first ha.pw hp
  have e0 : nthI t 0 0 = mx := by have h1 := q4 _ ha.top.1; have h2 := ha.top.2 _ q3; omega
  refine .inr ⟨ha.one, ha.len, (descB_pw t).2 ha.pw, e0, ha.low _ q1, ?_⟩
  split
  · rename_i h4
    obtain ⟨h5, h6⟩ := ha.few h4
    exact ⟨by have h1 := q2 _ h5; have h2 := ha.low _ q1; omega, h6⟩
  · rename_i h4
    obtain ⟨x, h5, h6, h7, h8⟩ := ha.many (by omega)
    have : x = nthI t ((t.length - 1 : Nat) : Int) 0 := by have h1 := q2 _ h5; have h2 := h6 _ q1; omega
    subst this
    have : mn * (N - 4) = mn + mn * (N - 5) := by rw [show N - 4 = 1 + (N - 5) from by omega, Int.mul_add, Int.mul_one]
    omega
theorem lsum_app : ∀ a b : List Int, lsum (a ++ b) = lsum a + lsum b
  | [], b => by simp [lsum]
  | x :: a, b => by simp only [List.cons_append, lsum, lsum_app a b]; omega
theorem lsum_perm {a b : List Int} (h : a.Perm b) : lsum a = lsum b := by
  induction h with
  | nil => rfl
  | cons x _ ih => simp only [lsum, ih]
  | swap x y l => simp only [lsum]; omega
  | trans _ _ h1 h2 => rw [h1, h2]
theorem lsum_ge {a : List Int} {m : Int} (h : ∀ x ∈ a, m ≤ x) : m * (a.length : Int) ≤ lsum a := by
  induction a with
  | nil => simp [lsum]
  | cons x a ih =>
    have h1 := ih fun y hy => h y (List.mem_cons_of_mem _ hy)
    have h2 := h x List.mem_cons_self
    simp only [lsum, List.length_cons]
    rw [Int.natCast_add, Int.mul_add, show m * ((1 : Nat) : Int) = m from by simp]
    omega
theorem lsum_le {a : List Int} {m : Int} (h : ∀ x ∈ a, x ≤ m) : lsum a ≤ m * (a.length : Int) := by
  induction a with
  | nil => simp [lsum]
  | cons x a ih =>
    have h1 := ih fun y hy => h y (List.mem_cons_of_mem _ hy)
    have h2 := h x List.mem_cons_self
    simp only [lsum, List.length_cons]
    rw [Int.natCast_add, Int.mul_add, show m * ((1 : Nat) : Int) = m from by simp]
    omega
theorem lsum_le1 {a : List Int} {m y : Int} (h : ∀ x ∈ a, x ≤ m) (hy : y ∈ a) : lsum a ≤ y + m * ((a.length : Int) - 1) := by
  obtain ⟨s, t, rfl⟩ := List.append_of_mem hy
  have h1 : (s ++ y :: t).Perm (y :: (s ++ t)) := List.perm_middle
  rw [lsum_perm h1, lsum]
  have h2 := lsum_le (a := s ++ t) (m := m) fun x hx => h x (h1.mem_iff.2 (List.mem_cons_of_mem _ hx))
  have : ((s ++ y :: t).length : Int) - 1 = ((s ++ t).length : Int) := by simp; omega
  rw [this]
  omega
theorem aggN_join {N S mn mx N' S' mn' mx' : Int} {t t' : List Int} (ha : AggN N S mn mx t) (hb : AggN N' S' mn' mx' t') (hN : N + N' ≤ 1000000) :
    AggN (N + N') (S + S') (if mn' < mn then mn' else mn) (if mx' > mx then mx' else mx) (top4 (t ++ t')) := by
  obtain ⟨a1, a2, a3, ⟨a4, a4'⟩, a5, a6, a7⟩ := ha
  obtain ⟨b1, b2, b3, ⟨b4, b4'⟩, b5, b6, b7⟩ := hb
  obtain ⟨m, hm⟩ : ∃ m, m = if mn' < mn then mn' else mn := ⟨_, rfl⟩
  obtain ⟨M, hM⟩ : ∃ M, M = if mx' > mx then mx' else mx := ⟨_, rfl⟩
  rw [← hm, ← hM]
  have hm1 : m ≤ mn ∧ m ≤ mn' ∧ (m = mn ∨ m = mn') := by rw [hm]; split <;> omega
  have hM1 : mx ≤ M ∧ mx' ≤ M ∧ (M = mx ∨ M = mx') := by rw [hM]; split <;> omega
  clear hm hM
  obtain ⟨U, hU⟩ : ∃ U, U = desc (t ++ t') := ⟨_, rfl⟩
  have hperm : U.Perm (t ++ t') := by rw [hU]; exact desc_perm _
  have hpw : U.Pairwise (fun a b => b ≤ a) := by rw [hU]; exact desc_pw _
  have hlen : U.length = t.length + t'.length := by rw [hperm.length_eq, List.length_append]
  have hmem : ∀ x, x ∈ U ↔ x ∈ t ∨ x ∈ t' := fun x => by rw [hperm.mem_iff, List.mem_append]
  have hlow : ∀ x ∈ U, m ≤ x := fun x hx => by
    rcases (hmem x).1 hx with h | h
    · have := a5 x h; omega
    · have := b5 x h; omega
  have hhigh : ∀ x ∈ U, x ≤ M := fun x hx => by
    rcases (hmem x).1 hx with h | h
    · have := a4' x h; omega
    · have := b4' x h; omega
  have hsum : lsum U = lsum t + lsum t' := by rw [lsum_perm hperm, lsum_app]
  have ht4 : top4 (t ++ t') = U.take 4 := by rw [hU]; rfl
  rw [ht4]
  have hl1 : 1 ≤ t.length ∧ t.length ≤ 4 := by split at a2 <;> omega
  have hl2 : 1 ≤ t'.length ∧ t'.length ≤ 4 := by split at b2 <;> omega
  have hMU : M ∈ U := (hmem M).2 (by
    rcases hM1.2.2 with h | h
    · rw [h]; exact .inl a4
    · rw [h]; exact .inr b4)
  have hsub : ∀ x ∈ U.take 4, x ∈ U := fun x hx => List.mem_of_mem_take hx
  have hMt : M ∈ U.take 4 := by
    match U, hlen, hpw, hMU, hhigh with
    | [], h, _, _, _ => simp at h; omega
    | u :: us, _, hp, hMU, hh =>
      have : u = M := by
        have h1 := hh u List.mem_cons_self
        rcases List.mem_cons.1 hMU with h | h
        · exact h.symm
        · have := (List.pairwise_cons.1 hp).1 M h; omega
      subst this
      simp
  have hlenT : ((U.take 4).length : Int) = if 4 < N + N' then 4 else N + N' := by
    rw [List.length_take, hlen]
    split at a2 <;> split at b2 <;> split <;> omega
  refine ⟨by omega, hlenT, hpw.sublist (List.take_sublist _ _), ⟨hMt, fun x hx => hhigh x (hsub x hx)⟩, fun x hx => hlow x (hsub x hx), fun h => ?_, fun h => ?_⟩
  · have e4 : U.take 4 = U := List.take_of_length_le (by split at a2 <;> split at b2 <;> omega)
    obtain ⟨c1, c2⟩ := a6 (by omega)
    obtain ⟨d1, d2⟩ := b6 (by omega)
    rw [e4]
    refine ⟨(hmem m).2 ?_, by omega⟩
    rcases hm1.2.2 with h | h
    · rw [h]; exact .inl c1
    · rw [h]; exact .inr d1
  · have hU5 : 5 ≤ U.length := by split at a2 <;> split at b2 <;> omega
    have hT : (U.take 4).length = 4 := by rw [List.length_take]; omega
    obtain ⟨q1, q2⟩ := pw_last (hpw.sublist (List.take_sublist 4 U)) (by omega)
    obtain ⟨l, hl⟩ : ∃ l, l = nthI (U.take 4) (((U.take 4).length - 1 : Nat) : Int) 0 := ⟨_, rfl⟩
    rw [← hl] at q1 q2
    clear hl
    obtain ⟨D, hD⟩ : ∃ D, D = U.drop 4 := ⟨_, rfl⟩
    have hUD : U = U.take 4 ++ D := by rw [hD, List.take_append_drop]
    have hsD : lsum U = lsum (U.take 4) + lsum D := by conv => lhs; rw [hUD, lsum_app]
    have hDl : D.length = t.length + t'.length - 4 := by rw [hD, List.length_drop, hlen]
    have hDmem : ∀ x ∈ D, x ∈ U := fun x hx => by rw [hD] at hx; exact List.mem_of_mem_drop hx
    have hcross : ∀ x ∈ U.take 4, ∀ y ∈ D, y ≤ x := by
      rw [hUD] at hpw
      exact (List.pairwise_append.1 hpw).2.2
    have hDl2 : ∀ y ∈ D, y ≤ l := fun y hy => hcross l q1 y hy
    -- the fourth is no less than the last of four
    have fourth : ∀ (s : List Int) (x : Int), s.length = 4 → (∀ y ∈ s, x ≤ y) → (s.countP (fun z => decide (x ≤ z)) ≤ U.countP (fun z => decide (x ≤ z))) → x ≤ l := by
      intro s x hs hx hc
      rcases Int.lt_or_le l x with c | c
      · exfalso
        rw [List.countP_eq_length.2 (fun y hy => by simpa using hx y hy), hs, hUD, List.countP_append] at hc
        have h2 : D.countP (fun z => decide (x ≤ z)) = 0 := List.countP_eq_zero.2 fun y hy => by have := hDl2 y hy; simp; omega
        have h3 : (U.take 4).countP (fun z => decide (x ≤ z)) ≠ (U.take 4).length := fun e => by
          have := (List.countP_eq_length.1 e) l q1
          simp at this
          omega
        have h4 := List.countP_le_length (p := fun z => decide (x ≤ z)) (l := U.take 4)
        omega
      · exact c
    have cnt : ∀ p : Int → Bool, t.countP p ≤ U.countP p ∧ t'.countP p ≤ U.countP p := fun p => by
      rw [hperm.countP_eq, List.countP_append]; omega
    have extra : ∀ (N S mn : Int) (t : List Int), (1 ≤ N ∧ N ≤ 1000000) → (t.length : Int) = (if 4 < N then 4 else N) → (∀ x ∈ t, mn ≤ x) → (N ≤ 4 → mn ∈ t ∧ S = lsum t) → (4 < N → ∃ l, l ∈ t ∧ (∀ x ∈ t, l ≤ x) ∧ lsum t + mn * (N - 4) ≤ S ∧ S ≤ lsum t + mn + l * (N - 5)) → m ≤ mn → (∀ p : Int → Bool, t.countP p ≤ U.countP p) →
        m * (N - (t.length : Int)) ≤ S - lsum t ∧ S - lsum t ≤ l * (N - (t.length : Int)) ∧ (0 < N - (t.length : Int) → S - lsum t ≤ mn + l * (N - (t.length : Int) - 1)) := by
      intro N S mn t h1 h2 h3 h4 h5 h6 h7
      by_cases c : N ≤ 4
      · rw [if_neg (by omega)] at h2
        obtain ⟨_, e⟩ := h4 c
        rw [h2, Int.sub_self, Int.mul_zero, Int.mul_zero]
        omega
      · rw [if_pos (by omega)] at h2
        obtain ⟨x, k1, k2, k3, k4⟩ := h5 (by omega)
        have k5 := fourth t x (by omega) k2 (h7 _)
        have k6 := h3 x k1
        rw [h2]
        have k7 : m * (N - 4) ≤ mn * (N - 4) := Int.mul_le_mul_of_nonneg_right h6 (by omega)
        have k8 : x * (N - 5) ≤ l * (N - 5) := Int.mul_le_mul_of_nonneg_right k5 (by omega)
        have k9 : l * (N - 4) = l + l * (N - 5) := by rw [show N - 4 = 1 + (N - 5) from by omega, Int.mul_add, Int.mul_one]
        rw [show N - 4 - 1 = N - 5 from by omega]
        refine ⟨by omega, by omega, fun _ => by omega⟩
    obtain ⟨x1, x2, x3⟩ := extra N S mn t a1 a2 a5 a6 a7 hm1.1 (fun p => (cnt p).1)
    obtain ⟨y1, y2, y3⟩ := extra N' S' mn' t' b1 b2 b5 b6 b7 hm1.2.1 (fun p => (cnt p).2)
    have z1 := lsum_ge (a := D) (m := m) fun x hx => hlow x (hDmem x hx)
    have z2 := lsum_le (a := D) (m := l) hDl2
    have z3 : m ∈ U → lsum D ≤ m + l * ((D.length : Int) - 1) := fun hmU => by
      refine lsum_le1 hDl2 ?_
      rw [hUD] at hmU
      rcases List.mem_append.1 hmU with h | h
      · -- the least of the first four is the least of all
        obtain ⟨y, hy⟩ : ∃ y, y ∈ D := List.exists_mem_of_length_pos (by omega)
        have h1 := hcross m h y hy
        have h2 := hlow y (hDmem y hy)
        rw [show m = y from by omega]
        exact hy
      · exact h
    refine ⟨l, q1, q2, ?_, ?_⟩
    · have e : m * (N + N' - 4) = m * (D.length : Int) + m * (N - (t.length : Int)) + m * (N' - (t'.length : Int)) := by
        rw [← Int.mul_add, ← Int.mul_add]; congr 1; omega
      omega
    · have e : l * (N + N' - 5) + l = l * (D.length : Int) + l * (N - (t.length : Int)) + l * (N' - (t'.length : Int)) := by
        rw [← Int.mul_add, ← Int.mul_add, show l * (N + N' - 5) + l = l * (N + N' - 5 + 1) from by rw [Int.mul_add, Int.mul_one]]; congr 1; omega
      have e1 : ∀ k : Int, l * (k - 1) = l * k - l := fun k => by rw [Int.mul_sub, Int.mul_one]
      rw [e1] at x3 y3
      rw [e1] at z3
      rcases hm1.2.2 with h | h
      · by_cases c : 0 < N - (t.length : Int)
        · have := x3 c; omega
        · have hN4 : N ≤ 4 := by split at a2 <;> omega
          have h5 := z3 (by rw [h]; exact (hmem mn).2 (.inl (a6 hN4).1))
          have h6 : N - (t.length : Int) = 0 := by split at a2 <;> omega
          rw [h6, Int.mul_zero] at x2 e
          omega
      · by_cases c : 0 < N' - (t'.length : Int)
        · have := y3 c; omega
        · have hN4 : N' ≤ 4 := by split at b2 <;> omega
          have h5 := z3 (by rw [h]; exact (hmem mn').2 (.inr (b6 hN4).1))
          have h6 : N' - (t'.length : Int) = 0 := by split at b2 <;> omega
          rw [h6, Int.mul_zero] at y2 e
          omega
def wv (c : TCell) : Int := c.2.2.2.2.2.2.1.1 * 18446744073709551616 + c.2.2.2.2.2.2.1.2
def mrg (c d : TCell) : TCell := (c.1, c.2.1, (if d.2.2.1 < c.2.2.1 then d.2.2.1 else c.2.2.1), (if d.2.2.2.1 > c.2.2.2.1 then d.2.2.2.1 else c.2.2.2.1), c.2.2.2.2.1, c.2.2.2.2.2.1 + d.2.2.2.2.2.1, wd (wv c + wv d),
  (if d.2.2.2.2.2.2.2.1 < c.2.2.2.2.2.2.2.1 then d.2.2.2.2.2.2.2.1 else c.2.2.2.2.2.2.2.1), (if d.2.2.2.2.2.2.2.2.1 > c.2.2.2.2.2.2.2.2.1 then d.2.2.2.2.2.2.2.2.1 else c.2.2.2.2.2.2.2.2.1), top4 (c.2.2.2.2.2.2.2.2.2 ++ d.2.2.2.2.2.2.2.2.2))
structure cR (c : TCell) : Prop where
  hi : inI c.2.2.2.2.2.2.1.1
  lo : 0 ≤ c.2.2.2.2.2.2.1.2 ∧ c.2.2.2.2.2.2.1.2 < 18446744073709551616
  mn : inI c.2.2.2.2.2.2.2.1
  mx : inI c.2.2.2.2.2.2.2.2.1
  tv : ∀ x ∈ c.2.2.2.2.2.2.2.2.2, inI x
  tl : c.2.2.2.2.2.2.2.2.2.length ≤ 4
theorem wv_wd {c : TCell} (h : cR c) : c.2.2.2.2.2.2.1 = wd (wv c) := wd_of h.hi h.lo.1 h.lo.2 rfl
theorem wv_hi {c : TCell} (h : cR c) : c.2.2.2.2.2.2.1.1 = (wd (wv c)).1 := congrArg Prod.fst (wv_wd h)
theorem wv_lo {c : TCell} (h : cR c) : c.2.2.2.2.2.2.1.2 = (wd (wv c)).2 := congrArg Prod.snd (wv_wd h)
theorem mrg_R {c d : TCell} (hc : cR c) (hd : cR d) : cR (mrg c d) := by
  have hr := wd_range (wv c + wv d)
  refine ⟨hr.1, hr.2, ?_, ?_, fun x hx => ?_, ?_⟩
  · show inI (if _ then _ else _); split; exact hd.mn; exact hc.mn
  · show inI (if _ then _ else _); split; exact hd.mx; exact hc.mx
  · rcases List.mem_append.1 (top4_mem hx) with h | h
    · exact hc.tv x h
    · exact hd.tv x h
  · show (top4 _).length ≤ 4
    rw [top4_len]; omega
theorem wv_inW {c : TCell} (h : cR c) : inW (wv c) := by
  have h1 := h.hi; have h2 := h.lo
  unfold inI at h1; unfold inW wv; omega
abbrev cN (c : TCell) : Int := c.2.2.2.2.2.1
theorem iMerged_eq {c d : TCell} (hc : cR c) (hd : cR d) (h1 : 1 ≤ cN c ∧ cN c ≤ 1000000000000) (h2 : 1 ≤ cN d ∧ cN d ≤ 1000000000000) :
    I.merged c.1 c.2.1 c.2.2.1 c.2.2.2.1 c.2.2.2.2.1 c.2.2.2.2.2.1 c.2.2.2.2.2.2.1.1 c.2.2.2.2.2.2.1.2 c.2.2.2.2.2.2.2.1 c.2.2.2.2.2.2.2.2.1 d.1 d.2.1 d.2.2.1 d.2.2.2.1 d.2.2.2.2.1 d.2.2.2.2.2.1 d.2.2.2.2.2.2.1.1 d.2.2.2.2.2.2.1.2 d.2.2.2.2.2.2.2.1 d.2.2.2.2.2.2.2.2.1 c.2.2.2.2.2.2.2.2.2 d.2.2.2.2.2.2.2.2.2 =
    some ((mrg c d).1, (mrg c d).2.1, (mrg c d).2.2.1, (mrg c d).2.2.2.1, (mrg c d).2.2.2.2.1, (mrg c d).2.2.2.2.2.1, (mrg c d).2.2.2.2.2.2.1.1, (mrg c d).2.2.2.2.2.2.1.2, (mrg c d).2.2.2.2.2.2.2.1, (mrg c d).2.2.2.2.2.2.2.2.1, (mrg c d).2.2.2.2.2.2.2.2.2) := by
  unfold cN at h1 h2
  have tl1 := hc.tl
  have tl2 := hd.tl
  have hW := iWideAdd_eq (wv c) (wv d)
  rw [← wv_hi hc, ← wv_lo hc, ← wv_hi hd, ← wv_lo hd] at hW
  unfold I.merged I.joined
  rw [cen (by omega), cdp (by omega), hW, Option.bind_some, concat_eq _ _ (by omega), Option.bind_some, topOf_eq _ (by rw [List.length_append]; omega), Option.bind_some, dup_eq, Option.bind_some, w64 (by omega) (by omega)]
  rfl
def good (c : TCell) : Prop := cellOk c ∧ cR c
theorem cell_R {c : TCell} (h : bCell c) (hk : cellOk c) : cR c := by
  obtain ⟨_, _, _, _, _, h6, ⟨h7, h8⟩, h9, h10, h11⟩ := h
  refine ⟨i64_wf h7, u64_wf h8, i64_wf h9, i64_wf h10, fun x hx => i64_wf (h11.2 x hx), ?_⟩
  obtain ⟨_, _, _, _, hA, hN⟩ := hk
  have := (aggN_of hA hN).len
  split at this <;> omega
theorem good_N {c : TCell} (h : good c) : 1 ≤ cN c ∧ cN c ≤ 1000000 := (aggN_of h.1.2.2.2.2.1 h.1.2.2.2.2.2).one
theorem agg_bd {c : TCell} (h : good c) : -9223372036854775808000000 ≤ wv c ∧ wv c ≤ 9223372036854775807000000 := by
  have hA := aggN_of h.1.2.2.2.2.1 h.1.2.2.2.2.2
  have hs := lsum_bd (a := c.2.2.2.2.2.2.2.2.2) h.2.tv
  have h1 := hA.one
  have h2 := hA.len
  have hmn := h.2.mn
  show _ ≤ c.2.2.2.2.2.2.1.1 * 18446744073709551616 + c.2.2.2.2.2.2.1.2 ∧ _
  by_cases c4 : c.2.2.2.2.2.1 ≤ 4
  · obtain ⟨_, e⟩ := hA.few c4
    rw [if_neg (by omega)] at h2
    unfold wv
    omega
  · obtain ⟨l, q1, q2, q3, q4⟩ := hA.many (by omega)
    rw [if_pos (by omega)] at h2
    have hl := h.2.tv l q1
    unfold inI at hmn hl
    have k1 : -9223372036854775808 * (c.2.2.2.2.2.1 - 4) ≤ c.2.2.2.2.2.2.2.1 * (c.2.2.2.2.2.1 - 4) := Int.mul_le_mul_of_nonneg_right hmn.1 (by omega)
    have k2 : l * (c.2.2.2.2.2.1 - 5) ≤ 9223372036854775807 * (c.2.2.2.2.2.1 - 5) := Int.mul_le_mul_of_nonneg_right (by omega) (by omega)
    unfold wv
    omega
theorem good_mrg {c d : TCell} (hc : good c) (hd : good d) (hN : cN c + cN d ≤ 1000000) : good (mrg c d) := by
  refine ⟨⟨hc.1.1, hc.1.2.1, hc.1.2.2.1, ?_, ?_, ?_⟩, mrg_R hc.2 hd.2⟩
  · have h1 := hc.1.2.2.2.1
    have h2 := hd.1.2.2.2.1
    unfold mrg
    simp only []
    split <;> split <;> omega
  · have h1 := aggN_join (aggN_of hc.1.2.2.2.2.1 hc.1.2.2.2.2.2) (aggN_of hd.1.2.2.2.2.1 hd.1.2.2.2.2.2) hN
    have h2 := h1.one
    refine aggOk_of (h := (wd (wv c + wv d)).1) (l := (wd (wv c + wv d)).2) ?_
    -- the sum does not leave the range
    have e : (wd (wv c + wv d)).1 * 18446744073709551616 + (wd (wv c + wv d)).2 = wv c + wv d := by
      have b1 := agg_bd hc
      have b2 := agg_bd hd
      unfold wd
      simp only []
      rw [w64 (by omega) (by omega)]
      omega
    rw [e]
    exact h1
  · have h1 := good_N hc
    have h2 := good_N hd
    show 0 < cN c + cN d
    omega
theorem sAggJoin_eq {c d : TCell} (hc : good c) (hd : good d) :
    S.AggJoin d.2.2.2.2.2.1 d.2.2.2.2.2.2.1.1 d.2.2.2.2.2.2.1.2 d.2.2.2.2.2.2.2.1 d.2.2.2.2.2.2.2.2.1 c.2.2.2.2.2.1 c.2.2.2.2.2.2.1.1 c.2.2.2.2.2.2.1.2 c.2.2.2.2.2.2.2.1 c.2.2.2.2.2.2.2.2.1 d.2.2.2.2.2.2.2.2.2 c.2.2.2.2.2.2.2.2.2 =
    some (if cN (mrg c d) ≤ 1000000 then ((mrg c d).2.2.2.2.2.1, (mrg c d).2.2.2.2.2.2.1.1, (mrg c d).2.2.2.2.2.2.1.2, (mrg c d).2.2.2.2.2.2.2.1, (mrg c d).2.2.2.2.2.2.2.2.1, true, (mrg c d).2.2.2.2.2.2.2.2.2) else (0, 0, 0, 0, 0, false, [])) := by
  have h1 := good_N hc
  have h2 := good_N hd
  have tl1 := hc.2.tl
  have tl2 := hd.2.tl
  have hW := sWideAdd_eq (wv d) (wv c)
  rw [← wv_hi hc.2, ← wv_lo hc.2, ← wv_hi hd.2, ← wv_lo hd.2, Int.add_comm (wv d)] at hW
  unfold S.AggJoin
  unfold cN at h1 h2
  rw [sAggOk_eq _ _ _ _ _ _ (by unfold inI; omega) hd.2.hi hd.2.lo.1 hd.2.lo.2 hd.2.mn hd.2.tv (by omega), Option.bind_some, decide_eq_true hd.1.2.2.2.2.1, Bool.not_true, cond_false]
  rw [sAggOk_eq _ _ _ _ _ _ (by unfold inI; omega) hc.2.hi hc.2.lo.1 hc.2.lo.2 hc.2.mn hc.2.tv (by omega), Option.bind_some, decide_eq_true hc.1.2.2.2.2.1, Bool.not_true, cond_false]
  rw [w64 (by omega) (by omega)]
  have e0 : cN (mrg c d) = c.2.2.2.2.2.1 + d.2.2.2.2.2.1 := rfl
  by_cases h : cN (mrg c d) ≤ 1000000
  · rw [cdn (by omega), if_pos h]
    simp only [hW, Option.bind_some, sTopOf_eq d.2.2.2.2.2.2.2.2.2 c.2.2.2.2.2.2.2.2.2 (by omega), dup_eq, same_self]
    rw [cen (by omega), cen (by omega), sel4, top4_comm]
    congr 1
    refine Prod.ext ?_ (Prod.ext rfl (Prod.ext rfl (Prod.ext ?_ (Prod.ext ?_ rfl))))
    · show d.2.2.2.2.2.1 + c.2.2.2.2.2.1 = c.2.2.2.2.2.1 + d.2.2.2.2.2.1; omega
    · show (if _ then _ else _) = (if _ then _ else _); split <;> split <;> omega
    · show (if _ then _ else _) = (if _ then _ else _); split <;> split <;> omega
  · rw [cdp (by omega), if_neg h]
def pass (p : TCell → TCell → Bool) : List TCell → TCell → TCell × List TCell × Bool
  | [], c => (c, [], false)
  | d :: l, c => if p d c = true then ((pass p l (mrg c d)).1, (pass p l (mrg c d)).2.1, true) else ((pass p l c).1, d :: (pass p l c).2.1, (pass p l c).2.2)
def hitP (b : Bool) (d c : TCell) : Prop := d.1 = c.1 ∧ d.2.1 = c.2.1 ∧ if b = true then d.2.2.1 < c.2.2.2.1 ∧ c.2.2.1 < d.2.2.2.1 else d.2.2.1 = c.2.2.1 ∧ d.2.2.2.1 = c.2.2.2.1
instance (b : Bool) (d c : TCell) : Decidable (hitP b d c) := by unfold hitP; exact inferInstance
def hit (b : Bool) (d c : TCell) : Bool := decide (hitP b d c ∧ d.2.2.2.2.1 = c.2.2.2.2.1)
theorem pass_N (p : TCell → TCell → Bool) : ∀ (l : List TCell) (c : TCell), (∀ d ∈ l, 1 ≤ cN d) → cN c ≤ cN (pass p l c).1
  | [], c, _ => Int.le_refl _
  | d :: l, c, h => by
    have hd := h d List.mem_cons_self
    have hl := fun x hx => h x (List.mem_cons_of_mem _ hx)
    rw [pass]
    split
    · have := pass_N p l (mrg c d) hl
      have e : cN (mrg c d) = cN c + cN d := rfl
      show cN c ≤ cN (pass p l (mrg c d)).1
      omega
    · exact pass_N p l c hl
theorem pass_sub (p : TCell → TCell → Bool) : ∀ (l : List TCell) (c : TCell), (pass p l c).2.1.Sublist l
  | [], c => List.Sublist.refl _
  | d :: l, c => by
    rw [pass]
    split
    · exact (pass_sub p l (mrg c d)).cons _
    · exact (pass_sub p l c).cons_cons _
theorem pass_len (p : TCell → TCell → Bool) : ∀ (l : List TCell) (c : TCell), (pass p l c).2.1.length ≤ l.length ∧ ((pass p l c).2.2 = true → (pass p l c).2.1.length < l.length)
  | [], c => ⟨by simp [pass], fun h => by simp [pass] at h⟩
  | d :: l, c => by
    rw [pass]
    split
    · have := (pass_len p l (mrg c d)).1
      exact ⟨by show (pass p l (mrg c d)).2.1.length ≤ _; simp; omega, fun _ => by show (pass p l (mrg c d)).2.1.length < _; simp; omega⟩
    · have := pass_len p l c
      exact ⟨by show (d :: (pass p l c).2.1).length ≤ _; simp; omega, fun h => by have := this.2 h; show (d :: (pass p l c).2.1).length < _; simp; omega⟩
theorem pass_good (p : TCell → TCell → Bool) : ∀ (l : List TCell) (c : TCell), good c → (∀ d ∈ l, good d) → cN (pass p l c).1 ≤ 1000000 → good (pass p l c).1
  | [], c, hc, _, _ => hc
  | d :: l, c, hc, hl, hN => by
    have hd := hl d List.mem_cons_self
    have hl' := fun x hx => hl x (List.mem_cons_of_mem _ hx)
    rw [pass] at hN ⊢
    split
    · rename_i hp
      rw [if_pos hp] at hN
      have h1 := pass_N p l (mrg c d) (fun x hx => (good_N (hl' x hx)).1)
      have hN' : cN (pass p l (mrg c d)).1 ≤ 1000000 := hN
      exact pass_good p l (mrg c d) (good_mrg hc hd (by have e : cN (mrg c d) = cN c + cN d := rfl; omega)) hl' hN'
    · rename_i hp
      rw [if_neg hp] at hN
      exact pass_good p l c hc hl' hN
theorem sMeet_eq (d c : TCell) : S.l09Meet d.1 d.2.1 d.2.2.1 d.2.2.2.1 d.2.2.2.2.1 d.2.2.2.2.2.1 d.2.2.2.2.2.2.1.1 d.2.2.2.2.2.2.1.2 d.2.2.2.2.2.2.2.1 d.2.2.2.2.2.2.2.2.1 c.1 c.2.1 c.2.2.1 c.2.2.2.1 c.2.2.2.2.1 c.2.2.2.2.2.1 c.2.2.2.2.2.2.1.1 c.2.2.2.2.2.2.1.2 c.2.2.2.2.2.2.2.1 c.2.2.2.2.2.2.2.2.1 d.2.2.2.2.2.2.2.2.2 c.2.2.2.2.2.2.2.2.2 = some (decide (hitP true d c)) := by
  unfold S.l09Meet hitP
  simp only [if_true]
  by_cases h1 : d.1 = c.1
  · rw [cep h1]
    by_cases h2 : d.2.1 = c.2.1
    · rw [cep h2]
      simp only [cds, h1, h2, true_and]
    · rw [cen h2]; exact sfal fun h => h2 h.2.1
  · rw [cen h1]; exact sfal fun h => h1 h.1
theorem sTwin_eq (d c : TCell) : S.l09Twin d.1 d.2.1 d.2.2.1 d.2.2.2.1 d.2.2.2.2.1 d.2.2.2.2.2.1 d.2.2.2.2.2.2.1.1 d.2.2.2.2.2.2.1.2 d.2.2.2.2.2.2.2.1 d.2.2.2.2.2.2.2.2.1 c.1 c.2.1 c.2.2.1 c.2.2.2.1 c.2.2.2.2.1 c.2.2.2.2.2.1 c.2.2.2.2.2.2.1.1 c.2.2.2.2.2.2.1.2 c.2.2.2.2.2.2.2.1 c.2.2.2.2.2.2.2.2.1 d.2.2.2.2.2.2.2.2.2 c.2.2.2.2.2.2.2.2.2 = some (decide (hitP false d c)) := by
  unfold S.l09Twin hitP
  by_cases h1 : d.1 = c.1
  · rw [cep h1]
    by_cases h2 : d.2.1 = c.2.1
    · rw [cep h2]
      by_cases h3 : d.2.2.1 = c.2.2.1
      · rw [cep h3]
        refine sbool ?_
        simp [h1, h2, h3]
      · rw [cen h3]; exact sfal fun h => h3 (by simpa using h.2.2.1)
    · rw [cen h2]; exact sfal fun h => h2 h.2.1
  · rw [cen h1]; exact sfal fun h => h1 h.1
section
variable (e0 : Bool → Bool → Bool → Bool → Int → Int → Int → Int → Int → Int → Int → Int → Int → Int → Int → List TCell → List Int → List Int → Option (Bool × List TCell)) (e1 : Bool → Bool → Bool → Int → Int → Int → Int → Int → Int → Int → Int → Int → Int → Int → List TCell → List Int → List Int → Option (Bool × List TCell)) (F : Option (Bool × List TCell))
  (he0 : ∀ a b c d e f g h i j k l m n o p q r, c = false → e0 a b c d e f g h i j k l m n o p q r = F) (b : Bool) (n : Int) (up : List Int) (list : List TCell) (hl : ∀ d ∈ list, good d) (hn : list.length ≤ 1000000000)
include he0 hl hn
theorem into_step (m i : Nat) (again : Bool) (c : TCell) (rest : List TCell) (hi : i < list.length) (hr : rest.length ≤ i) (hc : good c) :
    S.l09Into_l1 (m + 1) e0 e1 b true again (i : Int) n c.1 c.2.1 c.2.2.1 c.2.2.2.1 c.2.2.2.2.1 c.2.2.2.2.2.1 c.2.2.2.2.2.2.1.1 c.2.2.2.2.2.2.1.2 c.2.2.2.2.2.2.2.1 c.2.2.2.2.2.2.2.2.1 list rest up c.2.2.2.2.2.2.2.2.2 =
    if hit b (nthI list (i : Int) cellD) c = true then
      (if cN (mrg c (nthI list (i : Int) cellD)) ≤ 1000000 then S.l09Into_l1 m e0 e1 b true true ((i + 1 : Nat) : Int) n (mrg c (nthI list (i : Int) cellD)).1 (mrg c (nthI list (i : Int) cellD)).2.1 (mrg c (nthI list (i : Int) cellD)).2.2.1 (mrg c (nthI list (i : Int) cellD)).2.2.2.1 (mrg c (nthI list (i : Int) cellD)).2.2.2.2.1 (mrg c (nthI list (i : Int) cellD)).2.2.2.2.2.1 (mrg c (nthI list (i : Int) cellD)).2.2.2.2.2.2.1.1 (mrg c (nthI list (i : Int) cellD)).2.2.2.2.2.2.1.2 (mrg c (nthI list (i : Int) cellD)).2.2.2.2.2.2.2.1 (mrg c (nthI list (i : Int) cellD)).2.2.2.2.2.2.2.2.1 list rest up (mrg c (nthI list (i : Int) cellD)).2.2.2.2.2.2.2.2.2
      else F)
    else S.l09Into_l1 m e0 e1 b true again ((i + 1 : Nat) : Int) n c.1 c.2.1 c.2.2.1 c.2.2.2.1 c.2.2.2.2.1 c.2.2.2.2.2.1 c.2.2.2.2.2.2.1.1 c.2.2.2.2.2.2.1.2 c.2.2.2.2.2.2.2.1 c.2.2.2.2.2.2.2.2.1 list (rest ++ [nthI list (i : Int) cellD]) up c.2.2.2.2.2.2.2.2.2 := by
  have hd := hl _ (nthI_mem list i cellD hi)
  have hdec : decide ((0 : Int) ≤ (i : Int) ∧ (i : Int) < (list.length : Int)) = true := decide_eq_true (by omega)
  have hw : IntKind.wrap .i64 ((i : Int) + 1) = ((i + 1 : Nat) : Int) := by rw [w64 (by omega) (by omega)]; rfl
  have hj := sAggJoin_eq hc hd
  have hlt : decide ((i : Int) < (list.length : Int)) = true := decide_eq_true (by omega)
  have hcap : decide ((rest.length + (0 + 1)) * 104 ≤ 140737488355328) = true := decide_eq_true (by omega)
  have hm := sMeet_eq (nthI list (i : Int) cellD) c
  have ht := sTwin_eq (nthI list (i : Int) cellD) c
  rw [S.l09Into_l1]
  simp only [hdec, hlt, cond_true, hw, List.length_cons, List.length_nil, hcap]
  unfold hit
  generalize nthI list (i : Int) cellD = d at *
  have join : ∀ (X Y : Option (Bool × List TCell)), (Option.bind (S.AggJoin d.2.2.2.2.2.1 d.2.2.2.2.2.2.1.1 d.2.2.2.2.2.2.1.2 d.2.2.2.2.2.2.2.1 d.2.2.2.2.2.2.2.2.1 c.2.2.2.2.2.1 c.2.2.2.2.2.2.1.1 c.2.2.2.2.2.2.1.2 c.2.2.2.2.2.2.2.1 c.2.2.2.2.2.2.2.2.1 d.2.2.2.2.2.2.2.2.2 c.2.2.2.2.2.2.2.2.2) fun r => bif (!r.2.2.2.2.2.1) then X else Y) = if cN (mrg c d) ≤ 1000000 then Y else X := by
    intro X Y
    rw [hj, Option.bind_some]
    split <;> rfl
  cases b with
  | true =>
    by_cases h1 : hitP true d c
    · have hd1 : decide (hitP true d c) = true := decide_eq_true h1
      by_cases h2 : d.2.2.2.2.1 = c.2.2.2.2.1
      · have hne : (d.2.2.2.2.1 != c.2.2.2.2.1) = false := by simp [h2]
        rw [if_pos (decide_eq_true ⟨h1, h2⟩)]
        simp only [hm, ht, hd1, hne, cond_true, cond_false, hj, Option.bind_some, Bool.not_true, Bool.not_false]
        by_cases h3 : cN (mrg c d) ≤ 1000000
        · simp only [if_pos h3, Bool.not_true, cond_false]
          rfl
        · simp only [if_neg h3, Bool.not_false, cond_true]
          exact he0 _ _ _ _ _ _ _ _ _ _ _ _ _ _ _ _ _ _ rfl
      · have hne : (d.2.2.2.2.1 != c.2.2.2.2.1) = true := by simp [h2]
        have hn : ¬ decide (hitP true d c ∧ d.2.2.2.2.1 = c.2.2.2.2.1) = true := by rw [decide_eq_true_eq]; exact fun h => h2 h.2
        rw [if_neg hn]
        simp only [hm, ht, hd1, hne, cond_true, cond_false, Option.bind_some, Bool.not_true, Bool.not_false]
    · have hd1 : decide (hitP true d c) = false := decide_eq_false h1
      have hn : ¬ decide (hitP true d c ∧ d.2.2.2.2.1 = c.2.2.2.2.1) = true := by rw [decide_eq_true_eq]; exact fun h => h1 h.1
      rw [if_neg hn]
      simp only [hm, ht, hd1, cond_true, cond_false, Option.bind_some, Bool.not_true, Bool.not_false]
  | false =>
    by_cases h1 : hitP false d c
    · have hd1 : decide (hitP false d c) = true := decide_eq_true h1
      by_cases h2 : d.2.2.2.2.1 = c.2.2.2.2.1
      · have hne : (d.2.2.2.2.1 != c.2.2.2.2.1) = false := by simp [h2]
        rw [if_pos (decide_eq_true ⟨h1, h2⟩)]
        simp only [hm, ht, hd1, hne, cond_true, cond_false, hj, Option.bind_some, Bool.not_true, Bool.not_false]
        by_cases h3 : cN (mrg c d) ≤ 1000000
        · simp only [if_pos h3, Bool.not_true, cond_false]
          rfl
        · simp only [if_neg h3, Bool.not_false, cond_true]
          exact he0 _ _ _ _ _ _ _ _ _ _ _ _ _ _ _ _ _ _ rfl
      · have hne : (d.2.2.2.2.1 != c.2.2.2.2.1) = true := by simp [h2]
        have hn : ¬ decide (hitP false d c ∧ d.2.2.2.2.1 = c.2.2.2.2.1) = true := by rw [decide_eq_true_eq]; exact fun h => h2 h.2
        rw [if_neg hn]
        simp only [hm, ht, hd1, hne, cond_true, cond_false, Option.bind_some, Bool.not_true, Bool.not_false]
    · have hd1 : decide (hitP false d c) = false := decide_eq_false h1
      have hn : ¬ decide (hitP false d c ∧ d.2.2.2.2.1 = c.2.2.2.2.1) = true := by rw [decide_eq_true_eq]; exact fun h => h1 h.1
      rw [if_neg hn]
      simp only [hm, ht, hd1, cond_true, cond_false, Option.bind_some, Bool.not_true, Bool.not_false]
theorem into_l1 (m : Nat) : ∀ (k i : Nat) (again : Bool) (c : TCell) (rest : List TCell), i + k = list.length → rest.length ≤ i → good c →
    S.l09Into_l1 (k + 1 + m) e0 e1 b true again (i : Int) n c.1 c.2.1 c.2.2.1 c.2.2.2.1 c.2.2.2.2.1 c.2.2.2.2.2.1 c.2.2.2.2.2.2.1.1 c.2.2.2.2.2.2.1.2 c.2.2.2.2.2.2.2.1 c.2.2.2.2.2.2.2.2.1 list rest up c.2.2.2.2.2.2.2.2.2 =
    if cN (pass (hit b) (list.drop i) c).1 ≤ 1000000 then (fun (c' : TCell) (l' : List TCell) (g : Bool) => e1 b true (again || g) n c'.1 c'.2.1 c'.2.2.1 c'.2.2.2.1 c'.2.2.2.2.1 c'.2.2.2.2.2.1 c'.2.2.2.2.2.2.1.1 c'.2.2.2.2.2.2.1.2 c'.2.2.2.2.2.2.2.1 c'.2.2.2.2.2.2.2.2.1 (rest ++ l') up c'.2.2.2.2.2.2.2.2.2) (pass (hit b) (list.drop i) c).1 (pass (hit b) (list.drop i) c).2.1 (pass (hit b) (list.drop i) c).2.2 else F := by
  intro k
  induction k with
  | zero =>
    intro i again c rest hi hr hc
    have h1 := (good_N hc).2
    rw [show 0 + 1 + m = m + 1 from by omega, S.l09Into_l1, cdn (by omega), List.drop_of_length_le (by omega)]
    simp only [pass, Bool.or_false, List.append_nil]
    rw [if_pos h1]
  | succ k ih =>
    intro i again c rest hi hr hc
    have hd := hl _ (nthI_mem list i cellD (by omega))
    rw [show k + 1 + 1 + m = (k + 1 + m) + 1 from by omega, into_step e0 e1 F he0 b n up list hl hn (k + 1 + m) i again c rest (by omega) hr hc, drop_at list i cellD (by omega), pass]
    by_cases h : hit b (nthI list (i : Int) cellD) c = true
    · rw [if_pos h, if_pos h]
      by_cases h3 : cN (mrg c (nthI list (i : Int) cellD)) ≤ 1000000
      · rw [if_pos h3, ih (i + 1) true (mrg c (nthI list (i : Int) cellD)) rest (by omega) (by omega) (good_mrg hc hd (by have e : cN (mrg c (nthI list (i : Int) cellD)) = cN c + cN (nthI list (i : Int) cellD) := rfl; omega))]
        simp only [Bool.true_or, Bool.or_true]
      · have h4 := pass_N (hit b) (list.drop (i + 1)) (mrg c (nthI list (i : Int) cellD)) (fun x hx => (good_N (hl x (List.mem_of_mem_drop hx))).1)
        rw [if_neg h3, if_neg (show ¬ cN (pass (hit b) (list.drop (i + 1)) (mrg c (nthI list (i : Int) cellD))).1 ≤ 1000000 from by omega)]
    · rw [if_neg h, if_neg h, ih (i + 1) again c _ (by omega) (by simp; omega) hc]
      simp only [List.append_assoc, List.cons_append, List.nil_append]
end
def passes (p : TCell → TCell → Bool) : Nat → List TCell → TCell → TCell × List TCell
  | 0, l, c => (c, l)
  | f + 1, l, c => if (pass p l c).2.2 = true then passes p f (pass p l c).2.1 (pass p l c).1 else ((pass p l c).1, (pass p l c).2.1)
theorem passes_N (p : TCell → TCell → Bool) : ∀ (f : Nat) (l : List TCell) (c : TCell), (∀ d ∈ l, 1 ≤ cN d) → cN c ≤ cN (passes p f l c).1
  | 0, _, _, _ => Int.le_refl _
  | f + 1, l, c, h => by
    have h1 := pass_N p l c h
    rw [passes]
    split
    · have := passes_N p f (pass p l c).2.1 (pass p l c).1 (fun d hd => h d ((pass_sub p l c).subset hd))
      omega
    · exact h1
theorem passes_sub (p : TCell → TCell → Bool) : ∀ (f : Nat) (l : List TCell) (c : TCell), (passes p f l c).2.Sublist l
  | 0, _, _ => List.Sublist.refl _
  | f + 1, l, c => by
    rw [passes]
    split
    · exact (passes_sub p f _ _).trans (pass_sub p l c)
    · exact pass_sub p l c
theorem passes_good (p : TCell → TCell → Bool) : ∀ (f : Nat) (l : List TCell) (c : TCell), good c → (∀ d ∈ l, good d) → cN (passes p f l c).1 ≤ 1000000 → good (passes p f l c).1
  | 0, _, _, hc, _, _ => hc
  | f + 1, l, c, hc, hl, hN => by
    have hs : ∀ d ∈ (pass p l c).2.1, good d := fun d hd => hl d ((pass_sub p l c).subset hd)
    have h1 := passes_N p f (pass p l c).2.1 (pass p l c).1 (fun d hd => (good_N (hs d hd)).1)
    rw [passes] at hN ⊢
    split
    · rename_i h
      rw [if_pos h] at hN
      exact passes_good p f _ _ (pass_good p l c hc hl (by omega)) hs hN
    · rename_i h
      rw [if_neg h] at hN
      exact pass_good p l c hc hl hN
def insC (c : TCell) (l : List TCell) : List TCell := l.takeWhile (fun d => decide (cellLt d c)) ++ c :: l.dropWhile (fun d => decide (cellLt d c))
theorem tw_at {α : Type} (p : α → Bool) (l : List α) (d : α) (i : Nat) (hi : i ≤ l.length) (h1 : ∀ j : Nat, j < i → p (nthI l (j : Int) d) = true) (h2 : i < l.length → p (nthI l (i : Int) d) = false) : l.takeWhile p = l.take i ∧ l.dropWhile p = l.drop i := by
  induction i generalizing l with
  | zero =>
    cases l with
    | nil => simp
    | cons x l =>
      have := h2 (by simp)
      rw [show nthI (x :: l) ((0 : Nat) : Int) d = x from rfl] at this
      simp [List.takeWhile_cons, List.dropWhile_cons, this]
  | succ i ih =>
    cases l with
    | nil => simp at hi
    | cons x l =>
      have h0 := h1 0 (by omega)
      rw [show nthI (x :: l) ((0 : Nat) : Int) d = x from rfl] at h0
      obtain ⟨k1, k2⟩ := ih l (by simpa using hi) (fun j hj => h1 (j + 1) (by omega)) (fun hj => h2 (by simpa using hj))
      simp [List.takeWhile_cons, List.dropWhile_cons, h0, k1, k2]
theorem sPut_eq (c : TCell) (l : List TCell) (hn : l.length ≤ 1000000000) : S.l09Put c.1 c.2.1 c.2.2.1 c.2.2.2.1 c.2.2.2.2.1 c.2.2.2.2.2.1 c.2.2.2.2.2.2.1.1 c.2.2.2.2.2.2.1.2 c.2.2.2.2.2.2.2.1 c.2.2.2.2.2.2.2.2.1 l c.2.2.2.2.2.2.2.2.2 = some (insC c l) := by
  unfold S.l09Put
  have key : ∀ i : Nat, i ≤ l.length → (bif decide ((0 : Int) ≤ (i : Int) ∧ (i : Int) ≤ (l.length : Int) ∧ (l.length : Int) ≤ (l.length : Int)) then
      (let v43 : List TCell := [(c.1, (c.2.1, (c.2.2.1, (c.2.2.2.1, (c.2.2.2.2.1, (c.2.2.2.2.2.1, ((c.2.2.2.2.2.2.1.1, c.2.2.2.2.2.2.1.2), (c.2.2.2.2.2.2.2.1, (c.2.2.2.2.2.2.2.2.1, c.2.2.2.2.2.2.2.2.2)))))))))]
      (bif decide ((v43.length + ((l.take (Int.toNat (l.length : Int))).drop (Int.toNat (i : Int))).length) * 104 ≤ 140737488355328) then
      (let v44 : List TCell := (v43 ++ ((l.take (Int.toNat (l.length : Int))).drop (Int.toNat (i : Int))))
      (bif decide ((0 : Int) ≤ 0 ∧ 0 ≤ (i : Int) ∧ (i : Int) ≤ (l.length : Int)) then
      (bif decide ((([] : List TCell).length + ((l.take (Int.toNat (i : Int))).drop (Int.toNat 0)).length) * 104 ≤ 140737488355328) then
      (let v45 : List TCell := (([] : List TCell) ++ ((l.take (Int.toNat (i : Int))).drop (Int.toNat 0)))
      (bif decide ((v45.length + v44.length) * 104 ≤ 140737488355328) then
      (some (v45 ++ v44))
      else none))
      else none)
      else none))
      else none))
      else none) = some (l.take i ++ c :: l.drop i) := by
    intro i hi
    rw [cdp (by omega)]
    simp only [Int.toNat_natCast, List.take_length, show Int.toNat 0 = 0 from rfl, List.drop_zero, List.nil_append]
    rw [cdp (by simp; omega), cdp (by omega), cdp (by simp; omega), cdp (by simp; omega)]
    rfl
  have hloop := idxLoop (fun m i => S.l09Put_l0 m (fun y30 y31 y32 y33 y34 y35 y36 y37 y38 y39 y40 y41 y42 =>
      (bif decide ((0 : Int) ≤ y30 ∧ y30 ≤ (y41.length : Int) ∧ (y41.length : Int) ≤ (y41.length : Int)) then
      (let v43 : List TCell := [(y31, (y32, (y33, (y34, (y35, (y36, ((y37, y38), (y39, (y40, y42)))))))))]
      (bif decide ((v43.length + ((y41.take (Int.toNat (y41.length : Int))).drop (Int.toNat y30)).length) * 104 ≤ 140737488355328) then
      (let v44 : List TCell := (v43 ++ ((y41.take (Int.toNat (y41.length : Int))).drop (Int.toNat y30)))
      (bif decide ((0 : Int) ≤ 0 ∧ 0 ≤ y30 ∧ y30 ≤ (y41.length : Int)) then
      (bif decide ((([] : List TCell).length + ((y41.take (Int.toNat y30)).drop (Int.toNat 0)).length) * 104 ≤ 140737488355328) then
      (let v45 : List TCell := (([] : List TCell) ++ ((y41.take (Int.toNat y30)).drop (Int.toNat 0)))
      (bif decide ((v45.length + v44.length) * 104 ≤ 140737488355328) then
      (some (v45 ++ v44))
      else none))
      else none)
      else none))
      else none))
      else none)) i c.1 c.2.1 c.2.2.1 c.2.2.2.1 c.2.2.2.2.1 c.2.2.2.2.2.1 c.2.2.2.2.2.2.1.1 c.2.2.2.2.2.2.1.2 c.2.2.2.2.2.2.2.1 c.2.2.2.2.2.2.2.2.1 l c.2.2.2.2.2.2.2.2.2) l.length (fun i => !decide (cellLt (nthI l (i : Int) cellD) c)) (fun i => some (l.take i.toNat ++ c :: l.drop i.toNat)) (some (l.take l.length ++ c :: l.drop l.length)) (by omega) (fun i m hi => ?_) (fun m => ?_)
  · rcases hloop with ⟨i, hi, hp, hb, hr⟩ | ⟨hb, hr⟩
    · refine hr.trans ?_
      obtain ⟨k1, k2⟩ := tw_at (fun d => decide (cellLt d c)) l cellD i (by omega) (fun j hj => by have := hb j hj; simpa using this) (fun _ => by simpa using hp)
      unfold insC
      rw [k1, k2, Int.toNat_natCast]
    · refine hr.trans ?_
      obtain ⟨k1, k2⟩ := tw_at (fun d => decide (cellLt d c)) l cellD l.length (Nat.le_refl _) (fun j hj => by have := hb j hj; simpa using this) (fun h => by omega)
      unfold insC
      rw [k1, k2]
  · have hdec : decide ((0 : Int) ≤ (i : Int) ∧ (i : Int) < (l.length : Int)) = true := decide_eq_true (by omega)
    have hlt : decide ((i : Int) < (l.length : Int)) = true := decide_eq_true (by omega)
    have hw : IntKind.wrap .i64 ((i : Int) + 1) = ((i + 1 : Nat) : Int) := by rw [w64 (by omega) (by omega)]; rfl
    have hs := sLess_eq (nthI l (i : Int) cellD) c
    rw [S.l09Put_l0]
    simp only [hdec, hlt, cond_true, hs, Option.bind_some, hw]
    cases decide (cellLt (nthI l (i : Int) cellD) c) with
    | true => rfl
    | false => exact (key i (by omega)).trans (by rw [Bool.not_false, cond_true, Int.toNat_natCast])
  · rw [S.l09Put_l0, cdn (by omega)]
    exact key l.length (Nat.le_refl _)
section
variable (e20 : Bool → Int → Int → Int → Int → Int → Int → Int → Int → Int → Int → List Int → Option (Bool × List TCell)) (e21 : Int → Int → Int → Int → Int → Int → Int → Int → Int → Int → List TCell → List Int → Option (Bool × List TCell)) (F : Option (Bool × List TCell))
  (he0 : ∀ a b c d e f g h i j k l, a = false → e20 a b c d e f g h i j k l = F) (b : Bool) (n : Int) (up : List Int)
include he0
theorem into_l0 (m : Nat) : ∀ (k : Nat) (l : List TCell) (c : TCell), l.length ≤ k → k ≤ 1000000000 → good c → (∀ d ∈ l, good d) →
    S.l09Into_l0 (k + 2 + m) e20 e21 b true true n c.1 c.2.1 c.2.2.1 c.2.2.2.1 c.2.2.2.2.1 c.2.2.2.2.2.1 c.2.2.2.2.2.2.1.1 c.2.2.2.2.2.2.1.2 c.2.2.2.2.2.2.2.1 c.2.2.2.2.2.2.2.2.1 l up c.2.2.2.2.2.2.2.2.2 =
    if cN (passes (hit b) (k + 1) l c).1 ≤ 1000000 then (fun (c' : TCell) (l' : List TCell) => e21 c'.1 c'.2.1 c'.2.2.1 c'.2.2.2.1 c'.2.2.2.2.1 c'.2.2.2.2.2.1 c'.2.2.2.2.2.2.1.1 c'.2.2.2.2.2.2.1.2 c'.2.2.2.2.2.2.2.1 c'.2.2.2.2.2.2.2.2.1 l' c'.2.2.2.2.2.2.2.2.2) (passes (hit b) (k + 1) l c).1 (passes (hit b) (k + 1) l c).2 else F := by
  intro k
  induction k with
  | zero =>
    intro l c hl hk hc hg
    obtain rfl : l = [] := List.eq_nil_of_length_eq_zero (by omega)
    have hN := (good_N hc).2
    obtain ⟨M, hM⟩ := fu_ge 0 (by omega)
    rw [show 0 + 2 + m = (m + 1) + 1 from by omega, S.l09Into_l0, cond_true, hM]
    refine (into_l1 _ _ F (fun a b c d e f g h i j k l m n o p q r hc => he0 _ _ _ _ _ _ _ _ _ _ _ _ hc) b n up [] (by simp) (by simp) M 0 0 false c [] rfl (Nat.le_refl _) hc).trans ?_
    simp only [List.drop_nil, pass, passes, Bool.or_false, List.append_nil]
    rw [if_pos hN, S.l09Into_l0, cond_false]
    simp only [Bool.false_eq_true, if_false]
    rw [if_pos hN]
  | succ k ih =>
    intro l c hl hk hc hg
    obtain ⟨M, hM⟩ := fu_ge l.length (by omega)
    rw [show k + 1 + 2 + m = (k + 2 + m) + 1 from by omega, S.l09Into_l0, cond_true, hM]
    refine (into_l1 _ _ F (fun a b c d e f g h i j k l m n o p q r hc => he0 _ _ _ _ _ _ _ _ _ _ _ _ hc) b n up l hg (by omega) M l.length 0 false c [] (by omega) (Nat.le_refl _) hc).trans ?_
    have hs : ∀ d ∈ (pass (hit b) l c).2.1, good d := fun d hd => hg d ((pass_sub (hit b) l c).subset hd)
    have hpl := pass_len (hit b) l c
    have h1 := passes_N (hit b) (k + 1) (pass (hit b) l c).2.1 (pass (hit b) l c).1 (fun d hd => (good_N (hs d hd)).1)
    simp only [List.drop_zero, Bool.false_or, List.nil_append]
    rw [passes]
    by_cases h3 : cN (pass (hit b) l c).1 ≤ 1000000
    · rw [if_pos h3]
      have hgc := pass_good (hit b) l c hc hg h3
      cases hp : (pass (hit b) l c).2.2 with
      | true =>
        have := hpl.2 hp
        simp only [if_true]
        exact ih _ _ (by omega) (by omega) hgc hs
      | false =>
        simp only [Bool.false_eq_true, if_false]
        rw [if_pos h3, show k + 2 + m = (k + 1 + m) + 1 from by omega, S.l09Into_l0, cond_false]
    · rw [if_neg h3]
      split
      · rw [if_neg (show ¬ cN (passes (hit b) (k + 1) (pass (hit b) l c).2.1 (pass (hit b) l c).1).1 ≤ 1000000 from by omega)]
      · first | rfl | rw [if_neg h3]
end
def intoL (b : Bool) (l : List TCell) (c : TCell) : TCell × List TCell := passes (hit b) (l.length + 1) l c
theorem sInto_eq (b : Bool) (n : Int) (up : List Int) (l : List TCell) (c : TCell) (hn : l.length ≤ 1000000) (hc : good c) (hl : ∀ d ∈ l, good d) :
    S.l09Into n c.1 c.2.1 c.2.2.1 c.2.2.2.1 c.2.2.2.2.1 c.2.2.2.2.2.1 c.2.2.2.2.2.2.1.1 c.2.2.2.2.2.2.1.2 c.2.2.2.2.2.2.2.1 c.2.2.2.2.2.2.2.2.1 b true up l c.2.2.2.2.2.2.2.2.2 = some (if cN (intoL b l c).1 ≤ 1000000 then (true, insC (intoL b l c).1 (intoL b l c).2) else (false, [])) := by
  unfold S.l09Into
  obtain ⟨M, hM⟩ := fu_ge (l.length + 1) (by omega)
  rw [hM, show l.length + 1 + 1 + M = l.length + 2 + M from by omega]
  refine Eq.trans (into_l0 _ _ (some (false, [])) ?_ b n up M l.length l c (Nat.le_refl _) (by omega) hc hl) ?_
  · intro a b c d e f g h i j k l ha
    rw [ha]
  have hs := (passes_sub (hit b) (l.length + 1) l c).length_le
  unfold intoL
  split
  · simp only []
    rw [sPut_eq _ _ (by omega), Option.bind_some]
  · rfl
def runS {α σ : Type} (p : α → σ → Bool) (u : α → σ → σ) : List α → σ → σ × List α
  | [], c => (c, [])
  | x :: l, c => if p x c = true then runS p u l (u x c) else ((runS p u l c).1, x :: (runS p u l c).2)
theorem runS_sub {α σ : Type} (p : α → σ → Bool) (u : α → σ → σ) : ∀ (l : List α) (c : σ), (runS p u l c).2.Sublist l
  | [], _ => List.Sublist.refl _
  | x :: l, c => by
    rw [runS]
    split
    · exact (runS_sub p u l _).cons _
    · exact (runS_sub p u l c).cons_cons _
theorem delLoopS {α σ γ : Type} (F : Nat → Int → Int → σ → List α → Option γ) (z : List α) (p : α → σ → Bool) (u : α → σ → σ) (Inv : Nat → σ → Prop) (d : α) (E : Int → σ → List α → Option γ) (hn : z.length ≤ 1000000000000)
    (hI : ∀ (j : Nat) (c : σ), j < z.length → Inv j c → Inv (j + 1) c ∧ Inv (j + 1) (u (nthI z (j : Int) d) c))
    (hs : ∀ (i j m : Nat) (c : σ) (s : List α), i < j → j < z.length → s.length = z.length → nthI s (j : Int) d = nthI z (j : Int) d → Inv j c → F (m + 1) (i : Int) (j : Int) c s = if p (nthI z (j : Int) d) c = true then F m (i : Int) ((j + 1 : Nat) : Int) (u (nthI z (j : Int) d) c) s else F m ((i + 1 : Nat) : Int) ((j + 1 : Nat) : Int) c (s.set i (nthI z (j : Int) d)))
    (he : ∀ (i m : Nat) (c : σ) (s : List α), i ≤ z.length → s.length = z.length → F (m + 1) (i : Int) (z.length : Int) c s = E (i : Int) c s)
    (i0 : Nat) (h0 : i0 < z.length) (c0 : σ) (hc0 : Inv (i0 + 1) c0) :
    ∃ (i : Nat) (s : List α), i ≤ z.length ∧ s.length = z.length ∧ s.take i = z.take i0 ++ (runS p u (z.drop (i0 + 1)) c0).2 ∧ F fu (i0 : Int) ((i0 + 1 : Nat) : Int) c0 z = E (i : Int) (runS p u (z.drop (i0 + 1)) c0).1 s := by
  obtain ⟨M, hM⟩ := fu_ge (z.length - (i0 + 1)) (by omega)
  have nth : ∀ (s : List α) (j : Nat), j < s.length → s[j]? = some (nthI s (j : Int) d) := by
    intro s j hj
    rw [nthI_nat, List.getD_eq_getElem?_getD, List.getElem?_eq_getElem hj]
    rfl
  have h1 : ∀ k i j : Nat, ∀ (c : σ) (s : List α), j + k = z.length → i < j → s.length = z.length → s.drop j = z.drop j → Inv j c →
      ∃ (i' : Nat) (s' : List α), i' ≤ z.length ∧ s'.length = z.length ∧ s'.take i' = s.take i ++ (runS p u (z.drop j) c).2 ∧ F (k + 1 + M) (i : Int) (j : Int) c s = E (i' : Int) (runS p u (z.drop j) c).1 s' := by
    intro k
    induction k with
    | zero =>
      intro i j c s hj hij hl hd hc
      obtain rfl : j = z.length := by omega
      rw [List.drop_of_length_le (Nat.le_refl _)]
      exact ⟨i, s, by omega, hl, by simp [runS], by rw [show 0 + 1 + M = M + 1 from by omega, he i _ c s (by omega) hl]; rfl⟩
    | succ k ih =>
      intro i j c s hj hij hl hd hc
      have hx : nthI s (j : Int) d = nthI z (j : Int) d := by
        have h2 := nth s j (by omega)
        have h3 := nth z j (by omega)
        have h4 : s[j]? = z[j]? := by
          have := congrArg (fun l => l[0]?) hd
          simpa using this
        rw [h2, h3] at h4
        injection h4
      have hdr : z.drop (j + 1) = s.drop (j + 1) := by
        have := congrArg (List.drop 1) hd
        rw [List.drop_drop, List.drop_drop] at this
        exact this.symm
      obtain ⟨i1, i2⟩ := hI j c (by omega) hc
      rw [show k + 1 + 1 + M = (k + 1 + M) + 1 from by omega, hs i j _ c s hij (by omega) hl hx hc, drop_at z j d (by omega), runS]
      by_cases hp : p (nthI z (j : Int) d) c = true
      · rw [if_pos hp, if_pos hp]
        exact ih i (j + 1) _ s (by omega) (by omega) hl hdr.symm i2
      · rw [if_neg hp, if_neg hp]
        obtain ⟨i', s', q1, q2, q3, q4⟩ := ih (i + 1) (j + 1) c (s.set i (nthI z (j : Int) d)) (by omega) (by omega) (by rw [List.length_set]; exact hl) (by rw [List.drop_set_of_lt (by omega)]; exact hdr.symm) i1
        refine ⟨i', s', q1, q2, ?_, q4⟩
        rw [q3, set_take s i _ (by omega), List.append_assoc]
        rfl
  rw [hM]
  exact h1 (z.length - (i0 + 1)) i0 (i0 + 1) c0 z (by omega) (by omega) rfl rfl hc0
abbrev HCell := Int × Int × Int × Int × Int × Int × (Int × Int) × Int × Int × HD × List Int
def nmC (y : HCell) : TCell := (y.1, y.2.1, y.2.2.1, y.2.2.2.1, y.2.2.2.2.1, y.2.2.2.2.2.1, y.2.2.2.2.2.2.1, y.2.2.2.2.2.2.2.1, y.2.2.2.2.2.2.2.2.1, y.2.2.2.2.2.2.2.2.2.2)
abbrev hcellD : HCell := ((0 : Int), ((0 : Int), ((0 : Int), ((0 : Int), ((0 : Int), ((0 : Int), (((0 : Int), (0 : Int)), ((0 : Int), ((0 : Int), (((none, 0, 0) : HD), []))))))))))
theorem nmC_nth (z : List HCell) (j : Nat) (hj : j < z.length) : nthI (z.map nmC) (j : Int) cellD = nmC (nthI z (j : Int) hcellD) := by
  rw [nthI_nat, nthI_nat, List.getD_eq_getElem?_getD, List.getD_eq_getElem?_getD, List.getElem?_map, List.getElem?_eq_getElem hj]
  rfl
theorem runS_pass (p : TCell → TCell → Bool) : ∀ (z : List HCell) (c : TCell), (runS (fun (y : HCell) c => p (nmC y) c) (fun y c => mrg c (nmC y)) z c).1 = (pass p (z.map nmC) c).1 ∧ (runS (fun (y : HCell) c => p (nmC y) c) (fun y c => mrg c (nmC y)) z c).2.map nmC = (pass p (z.map nmC) c).2.1
  | [], _ => ⟨rfl, rfl⟩
  | y :: z, c => by
    rw [List.map_cons, pass, runS]
    by_cases h : p (nmC y) c = true
    · rw [if_pos h, if_pos h]; exact runS_pass p z _
    · rw [if_neg h, if_neg h]
      obtain ⟨h1, h2⟩ := runS_pass p z c
      exact ⟨h1, by rw [List.map_cons, h2]⟩
theorem pass_first (p : TCell → TCell → Bool) (c : TCell) : ∀ (l : List TCell) (i : Nat), i < l.length → (∀ j : Nat, j < i → p (nthI l (j : Int) cellD) c = false) → p (nthI l (i : Int) cellD) c = true →
    pass p l c = ((pass p (l.drop (i + 1)) (mrg c (nthI l (i : Int) cellD))).1, l.take i ++ (pass p (l.drop (i + 1)) (mrg c (nthI l (i : Int) cellD))).2.1, true)
  | [], i, h, _, _ => by simp at h
  | x :: l, 0, _, _, h2 => by
    rw [show nthI (x :: l) ((0 : Nat) : Int) cellD = x from rfl] at h2 ⊢
    rw [pass, if_pos h2]
    rfl
  | x :: l, i + 1, h, h1, h2 => by
    have h0 := h1 0 (by omega)
    rw [show nthI (x :: l) ((0 : Nat) : Int) cellD = x from rfl] at h0
    have e : nthI (x :: l) ((i + 1 : Nat) : Int) cellD = nthI l (i : Int) cellD := rfl
    rw [e] at h2 ⊢
    rw [pass, if_neg (by rw [h0]; simp), pass_first p c l i (by simpa using h) (fun j hj => h1 (j + 1) (by omega)) h2]
    rfl
theorem pass_none (p : TCell → TCell → Bool) (c : TCell) : ∀ (l : List TCell), (∀ j : Nat, j < l.length → p (nthI l (j : Int) cellD) c = false) → pass p l c = (c, l, false)
  | [], _ => rfl
  | x :: l, h => by
    have h0 := h 0 (by simp)
    rw [show nthI (x :: l) ((0 : Nat) : Int) cellD = x from rfl] at h0
    rw [pass, if_neg (by rw [h0]; simp), pass_none p c l (fun j hj => h (j + 1) (by simpa using hj))]
theorem overlaps_eq (a b c d : Int) : I.Win_overlaps a b c d = some (decide (a < d ∧ c < b)) := by unfold I.Win_overlaps; simp only [cds]
def room (l : List TCell) (c : TCell) : Prop := cR c ∧ 1 ≤ cN c ∧ cN c + 1000000 * (l.length : Int) ≤ 1000000000000
theorem sessClo_eq {o c : TCell} (g : Bool) (ho : good o) (hc : cR c) (hN : 1 ≤ cN c ∧ cN c ≤ 1000000000000) :
    I.addSession_1 o.1 o.2.1 o.2.2.1 o.2.2.2.1 o.2.2.2.2.1 o.2.2.2.2.2.1 o.2.2.2.2.2.2.1.1 o.2.2.2.2.2.2.1.2 o.2.2.2.2.2.2.2.1 o.2.2.2.2.2.2.2.2.1 c.1 c.2.1 c.2.2.1 c.2.2.2.1 c.2.2.2.2.1 c.2.2.2.2.2.1 c.2.2.2.2.2.2.1.1 c.2.2.2.2.2.2.1.2 c.2.2.2.2.2.2.2.1 c.2.2.2.2.2.2.2.2.1 g c.2.2.2.2.2.2.2.2.2 o.2.2.2.2.2.2.2.2.2 =
    some (if hit true o c = true then (true, (mrg c o).1, (mrg c o).2.1, (mrg c o).2.2.1, (mrg c o).2.2.2.1, (mrg c o).2.2.2.2.1, (mrg c o).2.2.2.2.2.1, (mrg c o).2.2.2.2.2.2.1.1, (mrg c o).2.2.2.2.2.2.1.2, (mrg c o).2.2.2.2.2.2.2.1, (mrg c o).2.2.2.2.2.2.2.2.1, true, (mrg c o).2.2.2.2.2.2.2.2.2)
      else (false, c.1, c.2.1, c.2.2.1, c.2.2.2.1, c.2.2.2.2.1, c.2.2.2.2.2.1, c.2.2.2.2.2.2.1.1, c.2.2.2.2.2.2.1.2, c.2.2.2.2.2.2.2.1, c.2.2.2.2.2.2.2.2.1, g, c.2.2.2.2.2.2.2.2.2)) := by
  have hoN := good_N ho
  unfold I.addSession_1
  have hh : hit true o c = decide (o.1 = c.1 ∧ o.2.1 = c.2.1 ∧ o.2.2.2.2.1 = c.2.2.2.2.1 ∧ o.2.2.1 < c.2.2.2.1 ∧ c.2.2.1 < o.2.2.2.1) := by
    unfold hit hitP
    rw [decide_eq_decide]
    simp only [if_true]
    constructor
    · rintro ⟨⟨h1, h2, h3, h4⟩, h5⟩; exact ⟨h1, h2, h5, h3, h4⟩
    · rintro ⟨h1, h2, h5, h3, h4⟩; exact ⟨⟨h1, h2, h3, h4⟩, h5⟩
  rw [hh]
  by_cases h1 : o.1 = c.1
  · rw [cnn h1]
    by_cases h2 : o.2.1 = c.2.1
    · rw [cnn h2]
      by_cases h3 : o.2.2.2.2.1 = c.2.2.2.2.1
      · rw [cnn h3]
        unfold I.Cell_win
        simp only [Option.bind_some, overlaps_eq]
        by_cases h4 : o.2.2.1 < c.2.2.2.1 ∧ c.2.2.1 < o.2.2.2.1
        · rw [decide_eq_true h4, Bool.not_true, cond_false, iMerged_eq hc ho.2 hN ⟨hoN.1, by omega⟩, Option.bind_some, if_pos (decide_eq_true ⟨h1, h2, h3, h4⟩)]
        · rw [decide_eq_false h4, Bool.not_false, cond_true, if_neg (by rw [decide_eq_true_eq]; exact fun h => h4 h.2.2.2)]
      · rw [cnp h3, if_neg (by rw [decide_eq_true_eq]; exact fun h => h3 h.2.2.1)]
    · rw [cnp h2, if_neg (by rw [decide_eq_true_eq]; exact fun h => h2 h.2.1)]
  · rw [cnp h1, if_neg (by rw [decide_eq_true_eq]; exact fun h => h1 h.1)]
theorem sessDel_eq (z : List HCell) (c : TCell) (hz : ∀ y ∈ z, good (nmC y)) (hn : z.length ≤ 1000000) (hc : room (z.map nmC) c) :
    ∃ ys : List HCell, ys.Sublist z ∧ ys.map nmC = (pass (hit true) (z.map nmC) c).2.1 ∧ (fun c' : TCell => G.slices.DeleteFunc_Cell c.1 c.2.1 c.2.2.1 c.2.2.2.1 c.2.2.2.2.1 c.2.2.2.2.2.1 c.2.2.2.2.2.2.1.1 c.2.2.2.2.2.2.1.2 c.2.2.2.2.2.2.2.1 c.2.2.2.2.2.2.2.2.1 false z c.2.2.2.2.2.2.2.2.2 =
      some (c'.1, c'.2.1, c'.2.2.1, c'.2.2.2.1, c'.2.2.2.2.1, c'.2.2.2.2.2.1, c'.2.2.2.2.2.2.1.1, c'.2.2.2.2.2.2.1.2, c'.2.2.2.2.2.2.2.1, c'.2.2.2.2.2.2.2.2.1, (pass (hit true) (z.map nmC) c).2.2, ys, c'.2.2.2.2.2.2.2.2.2)) (pass (hit true) (z.map nmC) c).1 := by
  obtain ⟨hR, hN1, hN2⟩ := hc
  rw [List.length_map] at hN2
  have hget : ∀ j : Nat, j < z.length → good (nmC (nthI z (j : Int) hcellD)) := fun j hj => hz _ (nthI_mem z j hcellD hj)
  have hml : (List.map nmC z).length = z.length := List.length_map ..
  have hidx := idxLoop (fun m i => G.slices.IndexFunc_Cell_l0 m (fun y33 y34 y35 y36 y37 y38 y39 y40 y41 y42 y43 y44 y45 =>
      (some (y33, y34, y35, y36, y37, y38, y39, y40, y41, y42, y43, y44, y45))) (fun y46 y47 y48 y49 y50 y51 y52 y53 y54 y55 y56 y57 =>
      (some ((-1), y46, y47, y48, y49, y50, y51, y52, y53, y54, y55, y56, y57))) ((List.map nmC z).length : Int) i c.1 c.2.1 c.2.2.1 c.2.2.2.1 c.2.2.2.2.1 c.2.2.2.2.2.1 c.2.2.2.2.2.2.1.1 c.2.2.2.2.2.2.1.2 c.2.2.2.2.2.2.2.1 c.2.2.2.2.2.2.2.2.1 false (List.map nmC z) c.2.2.2.2.2.2.2.2.2) z.length
    (fun i => hit true (nthI (List.map nmC z) (i : Int) cellD) c) (fun i => some (i, (mrg c (nthI (List.map nmC z) i cellD)).1, (mrg c (nthI (List.map nmC z) i cellD)).2.1, (mrg c (nthI (List.map nmC z) i cellD)).2.2.1, (mrg c (nthI (List.map nmC z) i cellD)).2.2.2.1, (mrg c (nthI (List.map nmC z) i cellD)).2.2.2.2.1, (mrg c (nthI (List.map nmC z) i cellD)).2.2.2.2.2.1, (mrg c (nthI (List.map nmC z) i cellD)).2.2.2.2.2.2.1.1, (mrg c (nthI (List.map nmC z) i cellD)).2.2.2.2.2.2.1.2, (mrg c (nthI (List.map nmC z) i cellD)).2.2.2.2.2.2.2.1, (mrg c (nthI (List.map nmC z) i cellD)).2.2.2.2.2.2.2.2.1, true, (mrg c (nthI (List.map nmC z) i cellD)).2.2.2.2.2.2.2.2.2))
    (some ((-1), c.1, c.2.1, c.2.2.1, c.2.2.2.1, c.2.2.2.2.1, c.2.2.2.2.2.1, c.2.2.2.2.2.2.1.1, c.2.2.2.2.2.2.1.2, c.2.2.2.2.2.2.2.1, c.2.2.2.2.2.2.2.2.1, false, c.2.2.2.2.2.2.2.2.2)) (by omega) (fun i m hi => ?_) (fun m => ?_)
  · have hX : G.slices.DeleteFunc_Cell c.1 c.2.1 c.2.2.1 c.2.2.2.1 c.2.2.2.2.1 c.2.2.2.2.2.1 c.2.2.2.2.2.2.1.1 c.2.2.2.2.2.2.1.2 c.2.2.2.2.2.2.2.1 c.2.2.2.2.2.2.2.2.1 false z c.2.2.2.2.2.2.2.2.2 =
      (Option.bind (G.slices.IndexFunc_Cell c.1 c.2.1 c.2.2.1 c.2.2.2.1 c.2.2.2.2.1 c.2.2.2.2.2.1 c.2.2.2.2.2.2.1.1 c.2.2.2.2.2.2.1.2 c.2.2.2.2.2.2.2.1 c.2.2.2.2.2.2.2.2.1 false c.2.2.2.2.2.2.2.2.2 (List.map nmC z)) fun r14 =>
      (bif (r14.1 == (-1)) then
      (some (r14.2.1, r14.2.2.1, r14.2.2.2.1, r14.2.2.2.2.1, r14.2.2.2.2.2.1, r14.2.2.2.2.2.2.1, r14.2.2.2.2.2.2.2.1, r14.2.2.2.2.2.2.2.2.1, r14.2.2.2.2.2.2.2.2.2.1, r14.2.2.2.2.2.2.2.2.2.2.1, r14.2.2.2.2.2.2.2.2.2.2.2.1, z, r14.2.2.2.2.2.2.2.2.2.2.2.2))
      else
      (G.slices.DeleteFunc_Cell_l0 fu (fun y39 y40 y41 y42 y43 y44 y45 y46 y47 y48 y49 y50 y51 y52 =>
      (bif decide ((0 : Int) ≤ y39 ∧ y39 ≤ (y51.length : Int) ∧ (y51.length : Int) ≤ (y51.length : Int)) then
      (let v53 : List HCell := (clr y51 (Int.toNat y39) (Int.toNat (y51.length : Int) - Int.toNat y39) hcellD)
      (bif decide ((0 : Int) ≤ 0 ∧ 0 ≤ y39 ∧ y39 ≤ (v53.length : Int)) then
      (some (y40, y41, y42, y43, y44, y45, y46, y47, y48, y49, y50, (List.take (Int.toNat y39) v53), y52))
      else none))
      else none)) r14.1 (IntKind.wrap .i64 (r14.1 + 1)) r14.2.1 r14.2.2.1 r14.2.2.2.1 r14.2.2.2.2.1 r14.2.2.2.2.2.1 r14.2.2.2.2.2.2.1 r14.2.2.2.2.2.2.2.1 r14.2.2.2.2.2.2.2.2.1 r14.2.2.2.2.2.2.2.2.2.1 r14.2.2.2.2.2.2.2.2.2.2.1 r14.2.2.2.2.2.2.2.2.2.2.2.1 z r14.2.2.2.2.2.2.2.2.2.2.2.2))) := rfl
    rw [hX]
    unfold G.slices.IndexFunc_Cell
    rcases hidx with ⟨i, hi, hp, hb, hr⟩ | ⟨hb, hr⟩
    · have hpf := pass_first (hit true) c (List.map nmC z) i (by omega) hb hp
      have hgi := hget i hi
      rw [← nmC_nth z i hi] at hgi
      obtain ⟨c0, hc0⟩ : ∃ c0, c0 = mrg c (nthI (List.map nmC z) (i : Int) cellD) := ⟨_, rfl⟩
      have hR0 : cR c0 := by rw [hc0]; exact mrg_R hR hgi.2
      have hN0 : cN c0 = cN c + cN (nthI (List.map nmC z) (i : Int) cellD) := by rw [hc0]; rfl
      have hgN := good_N hgi
      have hdl := delLoopS (fun m i j (c : TCell) s => G.slices.DeleteFunc_Cell_l0 m (fun y39 y40 y41 y42 y43 y44 y45 y46 y47 y48 y49 y50 y51 y52 =>
        (bif decide ((0 : Int) ≤ y39 ∧ y39 ≤ (y51.length : Int) ∧ (y51.length : Int) ≤ (y51.length : Int)) then
        (let v53 : List HCell := (clr y51 (Int.toNat y39) (Int.toNat (y51.length : Int) - Int.toNat y39) hcellD)
        (bif decide ((0 : Int) ≤ 0 ∧ 0 ≤ y39 ∧ y39 ≤ (v53.length : Int)) then
        (some (y40, y41, y42, y43, y44, y45, y46, y47, y48, y49, y50, (List.take (Int.toNat y39) v53), y52))
        else none))
        else none)) i j c.1 c.2.1 c.2.2.1 c.2.2.2.1 c.2.2.2.2.1 c.2.2.2.2.2.1 c.2.2.2.2.2.2.1.1 c.2.2.2.2.2.2.1.2 c.2.2.2.2.2.2.2.1 c.2.2.2.2.2.2.2.2.1 true s c.2.2.2.2.2.2.2.2.2) z (fun (y : HCell) c => hit true (nmC y) c) (fun y c => mrg c (nmC y))
        (fun j c => cR c ∧ 1 ≤ cN c ∧ cN c + 1000000 * ((z.length : Int) - (j : Int)) ≤ 1000000000000) hcellD
        (fun i c s => some (c.1, c.2.1, c.2.2.1, c.2.2.2.1, c.2.2.2.2.1, c.2.2.2.2.2.1, c.2.2.2.2.2.2.1.1, c.2.2.2.2.2.2.1.2, c.2.2.2.2.2.2.2.1, c.2.2.2.2.2.2.2.2.1, true, s.take i.toNat, c.2.2.2.2.2.2.2.2.2)) (by omega)
        (fun j c hj hI => ?_) (fun i j m c s hij hj hl hx hI => ?_) (fun i m c s hi hl => ?_) i hi c0 ⟨hR0, by omega, by omega⟩
      · obtain ⟨i', s', h1, h2, h3, h4⟩ := hdl
        obtain ⟨k1, k2⟩ := runS_pass (hit true) (z.drop (i + 1)) c0
        rw [← List.map_drop] at hpf
        rw [← hc0] at hpf
        refine ⟨s'.take i', ?_, ?_, ?_⟩
        · rw [h3]
          conv => rhs; rw [← List.take_append_drop i z]
          refine (List.Sublist.refl _).append ((runS_sub _ _ _ _).trans ?_)
          rw [show z.drop (i + 1) = (z.drop i).drop 1 from by rw [List.drop_drop]]
          exact List.drop_sublist _ _
        · rw [h3, hpf, List.map_append, k2, List.map_take]
        · rw [hpf]
          show _ = _
          rw [hr]
          simp only [← hc0]
          rw [Option.bind_some, cen (by omega), w64 (by omega) (by omega)]
          refine h4.trans ?_
          rw [Int.toNat_natCast, k1]
      · obtain ⟨q1, q2, q3⟩ := hI
        have hgj := good_N (hget j hj)
        have e : cN (mrg c (nmC (nthI z (j : Int) hcellD))) = cN c + cN (nmC (nthI z (j : Int) hcellD)) := rfl
        refine ⟨⟨q1, q2, by omega⟩, mrg_R q1 (hget j hj).2, by omega, by omega⟩
      · obtain ⟨q1, q2, q3⟩ := hI
        have hdec : decide ((0 : Int) ≤ (j : Int) ∧ (j : Int) < (s.length : Int)) = true := decide_eq_true (by omega)
        have hdec2 : decide ((0 : Int) ≤ (i : Int) ∧ (i : Int) < (s.length : Int)) = true := decide_eq_true (by omega)
        have hlt : decide ((j : Int) < (s.length : Int)) = true := decide_eq_true (by omega)
        have hw1 : IntKind.wrap .i64 ((i : Int) + 1) = ((i + 1 : Nat) : Int) := by rw [w64 (by omega) (by omega)]; rfl
        have hw2 : IntKind.wrap .i64 ((j : Int) + 1) = ((j + 1 : Nat) : Int) := by rw [w64 (by omega) (by omega)]; rfl
        have hcl := sessClo_eq (o := nmC (nthI z (j : Int) hcellD)) (c := c) true (hget j hj) q1 ⟨q2, by omega⟩
        show G.slices.DeleteFunc_Cell_l0 (m + 1) _ _ _ _ _ _ _ _ _ _ _ _ _ _ _ _ = _
        rw [G.slices.DeleteFunc_Cell_l0]
        simp only [hdec, hdec2, hlt, cond_true, hw1, hw2, Int.toNat_natCast]
        rw [hx]
        refine (congrArg (fun o => Option.bind o _) hcl).trans ?_
        rw [Option.bind_some]
        by_cases h : hit true (nmC (nthI z (j : Int) hcellD)) c = true
        · simp only [if_pos h, Bool.not_true, cond_false]
        · simp only [if_neg h, Bool.not_false, cond_true]
      · have hcl : (clr s i (s.length - i) hcellD).length = s.length := clr_len (by omega)
        have hct : (clr s i (s.length - i) hcellD).take i = s.take i := by
          unfold clr
          rw [List.append_assoc, List.take_append_of_le_length (by rw [List.length_take]; omega), List.take_take, Nat.min_self]
        have hdec : decide ((0 : Int) ≤ (i : Int) ∧ (i : Int) ≤ (s.length : Int) ∧ (s.length : Int) ≤ (s.length : Int)) = true := decide_eq_true (by omega)
        have hdec2 : decide ((0 : Int) ≤ 0 ∧ (0 : Int) ≤ (i : Int) ∧ (i : Int) ≤ (s.length : Int)) = true := decide_eq_true (by omega)
        show G.slices.DeleteFunc_Cell_l0 (m + 1) _ _ _ _ _ _ _ _ _ _ _ _ _ _ _ _ = _
        rw [G.slices.DeleteFunc_Cell_l0, cdn (by omega)]
        simp only [hdec, cond_true, Int.toNat_natCast, hcl, hdec2, hct]
    · have hpn := pass_none (hit true) c (List.map nmC z) (fun j hj => hb j (by omega))
      refine ⟨z, List.Sublist.refl _, by rw [hpn], ?_⟩
      rw [hpn]
      show _ = _
      rw [hr, Option.bind_some, cep rfl]
  · have hdec : decide ((0 : Int) ≤ (i : Int) ∧ (i : Int) < ((List.map nmC z).length : Int)) = true := decide_eq_true (by omega)
    have hlt : decide ((i : Int) < ((List.map nmC z).length : Int)) = true := decide_eq_true (by omega)
    have hw1 : IntKind.wrap .i64 ((i : Int) + 1) = ((i + 1 : Nat) : Int) := by rw [w64 (by omega) (by omega)]; rfl
    have hgi := hget i hi
    rw [← nmC_nth z i hi] at hgi
    have hcl := sessClo_eq (o := nthI (List.map nmC z) (i : Int) cellD) (c := c) false hgi hR ⟨hN1, by omega⟩
    show G.slices.IndexFunc_Cell_l0 (m + 1) _ _ _ _ _ _ _ _ _ _ _ _ _ _ _ _ _ = _
    rw [G.slices.IndexFunc_Cell_l0]
    simp only [hdec, hlt, cond_true, hw1]
    refine (congrArg (fun o => Option.bind o _) hcl).trans ?_
    rw [Option.bind_some]
    cases h : hit true (nthI (List.map nmC z) (i : Int) cellD) c with
    | true => simp only [if_true, cond_true]
    | false => simp only [Bool.false_eq_true, if_false, cond_false]
  · show G.slices.IndexFunc_Cell_l0 (m + 1) _ _ _ _ _ _ _ _ _ _ _ _ _ _ _ _ _ = _
    rw [G.slices.IndexFunc_Cell_l0, cdn (by omega)]
theorem att_nm (hs : List HD) (a : List TCell) (hl : hs.length = a.length) : List.map nmC (List.zipWith (Sh.att sh1) hs a) = a := zip_bare sh1 hs a hl
theorem att_z (hs : List HD) (a : List TCell) (hl : hs.length = a.length) : ∃ z : List HCell, z = List.zipWith (Sh.att sh1) hs a ∧ z.map nmC = a ∧ z.length = a.length := by
  obtain ⟨z, hz⟩ : ∃ z : List HCell, z = List.zipWith (Sh.att sh1) hs a := ⟨_, rfl⟩
  have h1 : z.map nmC = a := by rw [hz]; exact att_nm hs a hl
  exact ⟨z, hz, h1, by rw [← List.length_map (f := nmC), h1]⟩
theorem pass_R (p : TCell → TCell → Bool) : ∀ (l : List TCell) (c : TCell) (b : Int), (∀ d ∈ l, good d) → cR c → 1 ≤ cN c → cN c + 1000000 * (l.length : Int) ≤ b → cR (pass p l c).1 ∧ 1 ≤ cN (pass p l c).1 ∧ cN (pass p l c).1 + 1000000 * ((pass p l c).2.1.length : Int) ≤ b
  | [], _, _, _, h1, h2, h3 => ⟨h1, h2, h3⟩
  | d :: l, c, b, hl, h1, h2, h3 => by
    have hd := hl d List.mem_cons_self
    have hN := good_N hd
    have e : cN (mrg c d) = cN c + cN d := rfl
    rw [List.length_cons] at h3
    rw [pass]
    split
    · exact pass_R p l (mrg c d) b (fun x hx => hl x (List.mem_cons_of_mem _ hx)) (mrg_R h1 hd.2) (by omega) (by omega)
    · obtain ⟨q1, q2, q3⟩ := pass_R p l c (b - 1000000) (fun x hx => hl x (List.mem_cons_of_mem _ hx)) h1 h2 (by omega)
      exact ⟨q1, q2, by show cN (pass p l c).1 + 1000000 * ((d :: (pass p l c).2.1).length : Int) ≤ _; rw [List.length_cons]; omega⟩
section
variable (e : Int → Int → Int → Int → Int → Int → Int → Int → Int → Int → List TCell → List Int → Option (Bool × List TCell))
theorem sess_l0 (m : Nat) : ∀ (k : Nat) (l : List TCell) (c : TCell), l.length ≤ k → k ≤ 1000000 → (∀ d ∈ l, good d) → cR c → 1 ≤ cN c → cN c + 1000000 * (l.length : Int) ≤ 1000000000000 →
    I.addSession_l0 (k + 2 + m) e c.1 c.2.1 c.2.2.1 c.2.2.2.1 c.2.2.2.2.1 c.2.2.2.2.2.1 c.2.2.2.2.2.2.1.1 c.2.2.2.2.2.2.1.2 c.2.2.2.2.2.2.2.1 c.2.2.2.2.2.2.2.2.1 true l c.2.2.2.2.2.2.2.2.2 =
    (fun (c' : TCell) (l' : List TCell) => e c'.1 c'.2.1 c'.2.2.1 c'.2.2.2.1 c'.2.2.2.2.1 c'.2.2.2.2.2.1 c'.2.2.2.2.2.2.1.1 c'.2.2.2.2.2.2.1.2 c'.2.2.2.2.2.2.2.1 c'.2.2.2.2.2.2.2.2.1 l' c'.2.2.2.2.2.2.2.2.2) (passes (hit true) (k + 1) l c).1 (passes (hit true) (k + 1) l c).2 := by
  intro k
  induction k with
  | zero =>
    intro l c hlk hk hl h1 h2 h3
    obtain rfl : l = [] := List.eq_nil_of_length_eq_zero (by omega)
    rw [show 0 + 2 + m = (m + 1) + 1 from by omega, I.addSession_l0, cond_true]
    refine anyH_eq fun hs hhl hnd => ?_
    obtain ⟨z, hz1, hz, hzl⟩ := att_z hs [] hhl
    obtain ⟨ys, hys, hym, hdel⟩ := sessDel_eq z c (fun y hy => by rw [List.eq_nil_of_length_eq_zero hzl] at hy; cases hy) (by rw [hzl]; simp) (by rw [hz]; exact ⟨h1, h2, h3⟩)
    rw [hz] at hym hdel
    simp only [pass] at hym hdel
    subst hz1
    refine (congrArg (fun o => Option.bind o _) hdel).trans ?_
    rw [Option.bind_some]
    refine (thaw_eq (thaw_part (s := sh1) rfl hhl hnd (List.Perm.refl _) hys)).trans ?_
    show I.addSession_l0 (m + 1) e _ _ _ _ _ _ _ _ _ _ false (List.map nmC ys) _ = _
    rw [hym, I.addSession_l0, cond_false]
    rfl
  | succ k ih =>
    intro l c hlk hk hl h1 h2 h3
    rw [show k + 1 + 2 + m = (k + 2 + m) + 1 from by omega, I.addSession_l0, cond_true]
    refine anyH_eq fun hs hhl hnd => ?_
    obtain ⟨z, hz1, hz, hzl⟩ := att_z hs l hhl
    obtain ⟨ys, hys, hym, hdel⟩ := sessDel_eq z c (fun y hy => hl _ (by rw [← hz]; exact List.mem_map_of_mem hy)) (by rw [hzl]; omega) (by rw [hz]; exact ⟨h1, h2, h3⟩)
    rw [hz] at hym hdel
    subst hz1
    refine (congrArg (fun o => Option.bind o _) hdel).trans ?_
    rw [Option.bind_some]
    refine (thaw_eq (thaw_part (s := sh1) rfl hhl hnd (List.Perm.refl _) hys)).trans ?_
    have hpl := pass_len (hit true) l c
    have hs : ∀ d ∈ (pass (hit true) l c).2.1, good d := fun d hd => hl d ((pass_sub (hit true) l c).subset hd)
    obtain ⟨r1, r2, r3⟩ := pass_R (hit true) l c 1000000000000 hl h1 h2 h3
    show I.addSession_l0 (k + 2 + m) e _ _ _ _ _ _ _ _ _ _ (pass (hit true) l c).2.2 (List.map nmC ys) _ = _
    rw [hym, passes]
    cases hp : (pass (hit true) l c).2.2 with
    | true =>
      have := hpl.2 hp
      simp only [if_true]
      exact ih _ _ (by omega) (by omega) hs r1 r2 r3
    | false =>
      simp only [Bool.false_eq_true, if_false]
      rw [show k + 2 + m = (k + 1 + m) + 1 from by omega, I.addSession_l0, cond_false]
end
theorem cellLt_trans {a b c : TCell} (h1 : cellLt a b) (h2 : cellLt b c) : cellLt a c := by
  unfold cellLt at *
  split at h1 <;> split at h2 <;> (repeat' split at h1) <;> (repeat' split at h2) <;> (repeat' split) <;> first | omega | simp_all <;> omega
theorem bsLoop {γ : Type} (F : Nat → Int → Int → Option γ) (n : Nat) (p : Nat → Bool) (E : Int → Option γ) (hn : n ≤ 1000000000)
    (hp : ∀ i j : Nat, i ≤ j → j < n → p j = true → p i = true)
    (hs : ∀ (i j m : Nat), i < j → j ≤ n → F (m + 1) (i : Int) (j : Int) = if p ((i + j) / 2) = true then F m (((i + j) / 2 + 1 : Nat) : Int) (j : Int) else F m (i : Int) (((i + j) / 2 : Nat) : Int))
    (he : ∀ (i m : Nat), i ≤ n → F (m + 1) (i : Int) (i : Int) = E (i : Int)) :
    ∃ i, i ≤ n ∧ (∀ j, j < i → p j = true) ∧ (∀ j, i ≤ j → j < n → p j = false) ∧ F fu 0 (n : Int) = E (i : Int) := by
  obtain ⟨M, hM⟩ := fu_ge n (by omega)
  have h1 : ∀ k i j : Nat, j - i ≤ k → i ≤ j → j ≤ n → (∀ q, q < i → p q = true) → (∀ q, j ≤ q → q < n → p q = false) → ∃ r, r ≤ n ∧ (∀ q, q < r → p q = true) ∧ (∀ q, r ≤ q → q < n → p q = false) ∧ F (k + 1 + M) (i : Int) (j : Int) = E (r : Int) := by
    intro k
    induction k with
    | zero =>
      intro i j hk hij hjn h1 h2
      obtain rfl : i = j := by omega
      exact ⟨i, hjn, h1, h2, by rw [show 0 + 1 + M = M + 1 from by omega, he i M hjn]⟩
    | succ k ih =>
      intro i j hk hij hjn h1 h2
      rcases Nat.lt_or_ge i j with h | h
      · rw [show k + 1 + 1 + M = (k + 1 + M) + 1 from by omega, hs i j _ h hjn]
        by_cases hq : p ((i + j) / 2) = true
        · rw [if_pos hq]
          exact ih _ j (by omega) (by omega) hjn (fun q hq2 => hp q ((i + j) / 2) (by omega) (by omega) hq) h2
        · rw [if_neg hq]
          refine ih i _ (by omega) (by omega) (by omega) h1 (fun q hq2 hqn => ?_)
          cases hpq : p q with
          | false => rfl
          | true => exact absurd (hp ((i + j) / 2) q hq2 hqn hpq) hq
      · obtain rfl : i = j := by omega
        exact ⟨i, hjn, h1, h2, by rw [show k + 1 + 1 + M = (k + 1 + M) + 1 from by omega, he i _ hjn]⟩
  rw [hM]
  exact h1 n 0 n (by omega) (by omega) (Nat.le_refl _) (fun q hq => by omega) (fun q hq hqn => by omega)
def keyEq (a b : TCell) : Prop := a.1 = b.1 ∧ a.2.1 = b.2.1 ∧ a.2.2.1 = b.2.2.1 ∧ a.2.2.2.1 = b.2.2.2.1 ∧ a.2.2.2.2.1 = b.2.2.2.2.1
instance (a b : TCell) : Decidable (keyEq a b) := by unfold keyEq; exact inferInstance
theorem cellCmp_zero (a b : TCell) : cellCmp a b = 0 ↔ keyEq a b := by
  unfold cellCmp keyEq
  rw [orF_two, orF_four]
  by_cases c1 : a.1 = b.1 <;> by_cases c2 : a.2.1 = b.2.1 <;> by_cases c3 : a.2.2.1 = b.2.2.1 <;> by_cases c4 : a.2.2.2.1 = b.2.2.2.1 <;> simp [c1, c2, c3, c4, cmpF_zero]
theorem lt_or {a b : TCell} (h1 : ¬ cellLt a b) (h2 : ¬ keyEq a b) : cellLt b a := by
  unfold cellLt keyEq at *
  (repeat' split at h1) <;> (repeat' split) <;> omega
theorem lt_key {a b c : TCell} (h : keyEq b c) : cellLt a b ↔ cellLt a c := by
  obtain ⟨h1, h2, h3, h4, h5⟩ := h
  unfold cellLt
  rw [h1, h2, h3, h4, h5]
theorem lt_ne {a b : TCell} (h : cellLt a b) : ¬ keyEq a b := by
  rintro ⟨h1, h2, h3, h4, h5⟩
  unfold cellLt at h
  rw [h1, h2, h3, h4, h5] at h
  simp at h
theorem lt_asym {a b : TCell} (h : cellLt a b) : ¬ cellLt b a := fun h2 => lt_ne (cellLt_trans h h2) ⟨rfl, rfl, rfl, rfl, rfl⟩
theorem key_symm {a b : TCell} (h : keyEq a b) : keyEq b a := ⟨h.1.symm, h.2.1.symm, h.2.2.1.symm, h.2.2.2.1.symm, h.2.2.2.2.symm⟩
theorem pw_nth {l : List TCell} (h : l.Pairwise cellLt) (i j : Nat) (hij : i < j) (hj : j < l.length) : cellLt (nthI l (i : Int) cellD) (nthI l (j : Int) cellD) := by
  have := List.pairwise_iff_getElem.1 h i j (by omega) hj hij
  rw [nthI_nat, nthI_nat, List.getD_eq_getElem?_getD, List.getD_eq_getElem?_getD, List.getElem?_eq_getElem hj, List.getElem?_eq_getElem (show i < l.length from by omega)]
  exact this
theorem bs_eq (l : List TCell) (c : TCell) (h : l.Pairwise cellLt) (hn : l.length ≤ 1000000) :
    ∃ k : Nat, k ≤ l.length ∧ l.takeWhile (fun d => decide (cellLt d c)) = l.take k ∧ l.dropWhile (fun d => decide (cellLt d c)) = l.drop k ∧ (∀ j : Nat, j < k → cellLt (nthI l (j : Int) cellD) c) ∧ (∀ j : Nat, k ≤ j → j < l.length → ¬ cellLt (nthI l (j : Int) cellD) c) ∧
    G.slices.BinarySearchFunc_Cell c.1 c.2.1 c.2.2.1 c.2.2.2.1 c.2.2.2.2.1 c.2.2.2.2.2.1 c.2.2.2.2.2.2.1.1 c.2.2.2.2.2.2.1.2 c.2.2.2.2.2.2.2.1 c.2.2.2.2.2.2.2.2.1 l c.2.2.2.2.2.2.2.2.2 = some ((k : Int), decide (k < l.length ∧ keyEq (nthI l (k : Int) cellD) c)) := by
  have hb := bsLoop (fun m i j => G.slices.BinarySearchFunc_Cell_l0 m (fun y37 y38 y39 y40 y41 y42 y43 y44 y45 y46 y47 y48 y49 y50 =>
      (bif (decide (y38 < y37)) then
      (bif decide ((0 : Int) ≤ y38 ∧ y38 < (y49.length : Int)) then
      (Option.bind (I.compareCells ((nthI y49 y38 cellD).1) ((nthI y49 y38 cellD).2.1) ((nthI y49 y38 cellD).2.2.1) ((nthI y49 y38 cellD).2.2.2.1) ((nthI y49 y38 cellD).2.2.2.2.1) ((nthI y49 y38 cellD).2.2.2.2.2.1) ((nthI y49 y38 cellD).2.2.2.2.2.2.1.1) ((nthI y49 y38 cellD).2.2.2.2.2.2.1.2) ((nthI y49 y38 cellD).2.2.2.2.2.2.2.1) ((nthI y49 y38 cellD).2.2.2.2.2.2.2.2.1) y39 y40 y41 y42 y43 y44 y45 y46 y47 y48 ((nthI y49 y38 cellD).2.2.2.2.2.2.2.2.2) y50) fun r52 =>
      (some (y38, (r52 == 0))))
      else
      none)
      else
      (some (y38, false)))) (l.length : Int) i j c.1 c.2.1 c.2.2.1 c.2.2.2.1 c.2.2.2.2.1 c.2.2.2.2.2.1 c.2.2.2.2.2.2.1.1 c.2.2.2.2.2.2.1.2 c.2.2.2.2.2.2.2.1 c.2.2.2.2.2.2.2.2.1 l c.2.2.2.2.2.2.2.2.2) l.length (fun j => decide (cellLt (nthI l (j : Int) cellD) c)) (fun i => some (i, decide (i < (l.length : Int) ∧ keyEq (nthI l i cellD) c))) (by omega) (fun i j hij hj hp => ?_) (fun i j m hij hj => ?_) (fun i m hi => ?_)
  · obtain ⟨k, h1, h2, h3, h4⟩ := hb
    obtain ⟨t1, t2⟩ := tw_at (fun d => decide (cellLt d c)) l cellD k h1 h2 (fun hk => h3 k (Nat.le_refl _) hk)
    refine ⟨k, h1, t1, t2, fun j hj => of_decide_eq_true (h2 j hj), fun j hj hn => of_decide_eq_false (h3 j hj hn), ?_⟩
    unfold G.slices.BinarySearchFunc_Cell
    refine h4.trans ?_
    congr 2
    exact decide_eq_decide.2 ⟨fun h => ⟨by omega, h.2⟩, fun h => ⟨by omega, h.2⟩⟩
  · rcases Nat.lt_or_ge i j with h1 | h1
    · exact decide_eq_true (cellLt_trans (pw_nth h i j h1 hj) (of_decide_eq_true hp))
    · obtain rfl : i = j := by omega
      exact hp
  · have e : IntKind.wrap .i64 (Int.fdiv (IntKind.wrap .u64 (IntKind.wrap .i64 ((i : Int) + (j : Int)))) (2 ^ min (Int.toNat 1) (IntKind.bits .u64))) = (((i + j) / 2 : Nat) : Int) := by
      rw [show (2 : Int) ^ min (Int.toNat 1) (IntKind.bits .u64) = 2 from by decide, w64 (n := (i : Int) + (j : Int)) (by omega) (by omega), u64w (by omega) (by omega), Int.fdiv_eq_ediv_of_nonneg _ (by decide), w64 (by omega) (by omega)]
      omega
    have hd1 : decide ((i : Int) < (j : Int)) = true := decide_eq_true (by omega)
    have hd2 : decide ((0 : Int) ≤ 1) = true := rfl
    have hd3 : decide ((0 : Int) ≤ (((i + j) / 2 : Nat) : Int) ∧ (((i + j) / 2 : Nat) : Int) < (l.length : Int)) = true := decide_eq_true (by omega)
    have hw : IntKind.wrap .i64 ((((i + j) / 2 : Nat) : Int) + 1) = (((i + j) / 2 + 1 : Nat) : Int) := by rw [w64 (by omega) (by omega)]; rfl
    have hc := iCompareCells_eq (nthI l (((i + j) / 2 : Nat) : Int) cellD) c
    rw [G.slices.BinarySearchFunc_Cell_l0]
    simp only [e, hd1, hd2, hd3, hw, cond_true]
    refine (congrArg (fun o => Option.bind o _) hc).trans ?_
    rw [Option.bind_some]
    by_cases h1 : cellLt (nthI l (((i + j) / 2 : Nat) : Int) cellD) c
    · rw [cdp ((cellCmp_neg _ _).2 h1), if_pos (decide_eq_true h1)]
    · rw [cdn (fun h2 => h1 ((cellCmp_neg _ _).1 h2)), if_neg (by simpa using h1)]
  · rw [G.slices.BinarySearchFunc_Cell_l0, cdn (by omega)]
    by_cases h1 : i < l.length
    · have hc := iCompareCells_eq (nthI l (i : Int) cellD) c
      rw [cdp (by omega), cdp (by omega)]
      refine (congrArg (fun o => Option.bind o _) hc).trans ?_
      rw [Option.bind_some]
      congr 2
      have h2 : ((i : Int) < (l.length : Int) ∧ keyEq (nthI l (i : Int) cellD) c) ↔ cellCmp (nthI l (i : Int) cellD) c = 0 := by rw [cellCmp_zero]; exact ⟨fun h => h.2, fun h => ⟨by omega, h⟩⟩
      rw [decide_eq_decide.2 h2]
      cases hz : (cellCmp (nthI l (i : Int) cellD) c == 0)
      · exact (decide_eq_false (by simpa using hz)).symm
      · exact (decide_eq_true (by simpa using hz)).symm
    · rw [cdn (by omega)]
      congr 2
      exact (decide_eq_false (fun h => by omega)).symm
theorem ins_at (l : List TCell) (c : TCell) (k : Nat) (h1 : k ≤ l.length) (h2 : l.length ≤ 1000000) (t1 : l.takeWhile (fun d => decide (cellLt d c)) = l.take k) (t2 : l.dropWhile (fun d => decide (cellLt d c)) = l.drop k) : X.insert (k : Int) l [c] = some (insC c l) := by
  unfold X.insert insC
  rw [cdp (by simp only [List.length_cons, List.length_nil]; omega), t1, t2, Int.toNat_natCast, List.append_assoc]
  rfl
theorem iFull_eq (a b c d e f g h i j : Int) : I.Cell_isFull a b c d e f g h i j = some (decide (1000000 < f)) := rfl
theorem pass_flag (p : TCell → TCell → Bool) : ∀ (l : List TCell) (c : TCell), (pass p l c).2.2 = false → (pass p l c).1 = c ∧ (pass p l c).2.1 = l ∧ ∀ d ∈ l, p d c = false
  | [], c, _ => ⟨rfl, rfl, fun _ h => by cases h⟩
  | d :: l, c, h => by
    rw [pass] at h ⊢
    by_cases hp : p d c = true
    · rw [if_pos hp] at h; exact absurd h (by simp)
    · rw [if_neg hp] at h ⊢
      obtain ⟨q1, q2, q3⟩ := pass_flag p l c h
      refine ⟨q1, by show d :: (pass p l c).2.1 = _; rw [q2], fun x hx => ?_⟩
      rcases List.mem_cons.1 hx with rfl | hx
      · simpa using hp
      · exact q3 x hx
theorem passes_none (p : TCell → TCell → Bool) : ∀ (f : Nat) (l : List TCell) (c : TCell), l.length < f → ∀ d ∈ (passes p f l c).2, p d (passes p f l c).1 = false
  | 0, l, c, h => by omega
  | f + 1, l, c, h => by
    rw [passes]
    have hpl := pass_len p l c
    cases hp : (pass p l c).2.2 with
    | true =>
      have := hpl.2 hp
      simp only [if_true]
      exact passes_none p f _ _ (by omega)
    | false =>
      obtain ⟨q1, q2, q3⟩ := pass_flag p l c hp
      simp only [Bool.false_eq_true, if_false]
      rw [q1, q2]
      exact q3
structure cS (l : List TCell) : Prop where
  g : ∀ d ∈ l, good d
  s : l.Pairwise cellLt
theorem mrg_key {c d : TCell} (h : d.2.2.1 = c.2.2.1) (h2 : d.2.2.2.1 = c.2.2.2.1) : keyEq (mrg c d) c := by
  refine ⟨rfl, rfl, ?_, ?_, rfl⟩
  · show (if _ then _ else _) = _; rw [if_neg (by omega)]
  · show (if _ then _ else _) = _; rw [if_neg (by omega)]
theorem hit_key {d c : TCell} : hit false d c = true ↔ keyEq d c := by
  unfold hit hitP keyEq
  rw [decide_eq_true_eq]
  simp only [Bool.false_eq_true, if_false]
  constructor
  · rintro ⟨⟨h1, h2, h3, h4⟩, h5⟩; exact ⟨h1, h2, h3, h4, h5⟩
  · rintro ⟨h1, h2, h3, h4, h5⟩; exact ⟨⟨h1, h2, h3, h4⟩, h5⟩
theorem key_hit (b : Bool) {d c : TCell} (hc : c.2.2.1 < c.2.2.2.1) (h : keyEq d c) : hit b d c = true := by
  cases b with
  | false => exact hit_key.2 h
  | true =>
    obtain ⟨h1, h2, h3, h4, h5⟩ := h
    unfold hit hitP
    rw [decide_eq_true_eq]
    simp only [if_true]
    exact ⟨⟨h1, h2, by omega, by omega⟩, h5⟩
theorem ins_cS (c : TCell) (l : List TCell) (hl : cS l) (hc : good c) (hk : ∀ d ∈ l, ¬ keyEq d c) : cS (insC c l) := by
  have hs := List.takeWhile_append_dropWhile (p := fun d => decide (cellLt d c)) (l := l)
  have hsp := hl.s
  rw [← hs] at hsp
  obtain ⟨p1, p2, p3⟩ := List.pairwise_append.1 hsp
  have hlt : ∀ d ∈ l.takeWhile (fun d => decide (cellLt d c)), cellLt d c := by
    intro d hd
    have := List.all_takeWhile (p := fun d => decide (cellLt d c)) (l := l)
    exact of_decide_eq_true (List.all_eq_true.1 this d hd)
  have hmt : ∀ d ∈ l.takeWhile (fun d => decide (cellLt d c)), d ∈ l := fun d hd => (List.takeWhile_sublist _).subset hd
  have hmd : ∀ d ∈ l.dropWhile (fun d => decide (cellLt d c)), d ∈ l := fun d hd => (List.dropWhile_sublist _).subset hd
  have hgt : ∀ d ∈ l.dropWhile (fun d => decide (cellLt d c)), cellLt c d := by
    cases hdw : l.dropWhile (fun d => decide (cellLt d c)) with
    | nil => intro d hd; cases hd
    | cons x t =>
      have hx0 : ¬ cellLt x c := by
        have := List.head?_dropWhile_not (fun d => decide (cellLt d c)) l
        rw [hdw] at this
        simpa using this
      rw [hdw] at p2 hmd
      have hx : cellLt c x := lt_or hx0 (hk x (hmd x List.mem_cons_self))
      intro d hd
      rcases List.mem_cons.1 hd with rfl | hd
      · exact hx
      · exact cellLt_trans hx ((List.pairwise_cons.1 p2).1 d hd)
  refine ⟨fun d hd => ?_, ?_⟩
  · rcases List.mem_append.1 hd with hd | hd
    · exact hl.g d (hmt d hd)
    · rcases List.mem_cons.1 hd with rfl | hd
      · exact hc
      · exact hl.g d (hmd d hd)
  · refine List.pairwise_append.2 ⟨p1, List.pairwise_cons.2 ⟨hgt, p2⟩, fun a ha b hb => ?_⟩
    rcases List.mem_cons.1 hb with rfl | hb
    · exact hlt a ha
    · exact p3 a ha b hb
theorem ins_len (c : TCell) (l : List TCell) : (insC c l).length = l.length + 1 := by
  have := congrArg List.length (List.takeWhile_append_dropWhile (p := fun d => decide (cellLt d c)) (l := l))
  unfold insC
  rw [List.length_append] at this ⊢
  rw [List.length_cons]
  omega
theorem into_cS (b : Bool) (l : List TCell) (c : TCell) (hl : cS l) (hc : good c) (hN : cN (intoL b l c).1 ≤ 1000000) : cS (insC (intoL b l c).1 (intoL b l c).2) ∧ (insC (intoL b l c).1 (intoL b l c).2).length ≤ l.length + 1 := by
  have hg := passes_good (hit b) (l.length + 1) l c hc hl.g hN
  have hsub := passes_sub (hit b) (l.length + 1) l c
  have hno := passes_none (hit b) (l.length + 1) l c (by omega)
  refine ⟨ins_cS _ _ ⟨fun d hd => hl.g d (hsub.subset hd), hl.s.sublist hsub⟩ hg (fun d hd hk => ?_), ?_⟩
  · have h1 := hno d hd
    have h2 := key_hit b hg.1.2.2.2.1.2.1 hk
    rw [h1] at h2; cases h2
  · have := hsub.length_le
    rw [ins_len]
    unfold intoL
    omega
theorem iSession_eq (l : List TCell) (c : TCell) (hl : cS l) (hc : good c) (hn : l.length ≤ 100000) :
    I.addSession c.1 c.2.1 c.2.2.1 c.2.2.2.1 c.2.2.2.2.1 c.2.2.2.2.2.1 c.2.2.2.2.2.2.1.1 c.2.2.2.2.2.2.1.2 c.2.2.2.2.2.2.2.1 c.2.2.2.2.2.2.2.2.1 l c.2.2.2.2.2.2.2.2.2 = some (decide (cN (intoL true l c).1 ≤ 1000000), insC (intoL true l c).1 (intoL true l c).2) := by
  have hcN := good_N hc
  obtain ⟨M, hM⟩ := fu_ge (l.length + 1) (by omega)
  unfold I.addSession
  rw [hM, show l.length + 1 + 1 + M = l.length + 2 + M from by omega, sess_l0 _ M l.length l c (Nat.le_refl _) (by omega) hl.g hc.2 hcN.1 (by omega)]
  have hsub := passes_sub (hit true) (l.length + 1) l c
  have hlen := hsub.length_le
  obtain ⟨k, h1, t1, t2, _, _, h3⟩ := bs_eq (passes (hit true) (l.length + 1) l c).2 (passes (hit true) (l.length + 1) l c).1 (hl.s.sublist hsub) (by omega)
  have hi := ins_at _ _ k h1 (by omega) t1 t2
  unfold intoL
  generalize passes (hit true) (l.length + 1) l c = P at *
  simp only [h3, Option.bind_some, iFull_eq]
  refine (congrArg (fun o => Option.bind o _) hi).trans ?_
  rw [Option.bind_some]
  congr 2
  by_cases h : P.1.2.2.2.2.2.1 ≤ 1000000
  · rw [decide_eq_true h, decide_eq_false (by omega)]; rfl
  · rw [decide_eq_false h, decide_eq_true (by omega)]; rfl
theorem mrg_symm {c d : TCell} (h : keyEq d c) : mrg d c = mrg c d := by
  obtain ⟨h1, h2, h3, h4, h5⟩ := h
  unfold mrg
  rw [top4_comm d.2.2.2.2.2.2.2.2.2, h1, h2, h3, h4, h5, Int.add_comm (wv d), Int.add_comm d.2.2.2.2.2.1]
  refine Prod.ext rfl (Prod.ext rfl (Prod.ext ?_ (Prod.ext ?_ (Prod.ext rfl (Prod.ext rfl (Prod.ext rfl (Prod.ext ?_ (Prod.ext ?_ rfl))))))))
  · rfl
  · rfl
  · show (if _ then _ else _) = (if _ then _ else _); split <;> split <;> omega
  · show (if _ then _ else _) = (if _ then _ else _); split <;> split <;> omega
theorem plain_into (l : List TCell) (c : TCell) (hl : cS l) (k : Nat) (hk : k ≤ l.length) (hlt : ∀ j : Nat, j < k → cellLt (nthI l (j : Int) cellD) c) (hge : ∀ j : Nat, k ≤ j → j < l.length → ¬ cellLt (nthI l (j : Int) cellD) c) :
    intoL false l c = if k < l.length ∧ keyEq (nthI l (k : Int) cellD) c then (mrg c (nthI l (k : Int) cellD), l.take k ++ l.drop (k + 1)) else (c, l) := by
  have hne : ∀ j : Nat, j < l.length → j ≠ k → ¬ keyEq (nthI l (j : Int) cellD) c ∨ ¬ keyEq (nthI l (k : Int) cellD) c := by
    intro j hj hjk
    rcases Nat.lt_or_ge j k with h | h
    · exact Or.inl (lt_ne (hlt j h))
    · refine Or.inl fun hq => ?_
      have h1 := pw_nth hl.s k j (by omega) hj
      exact hge k (Nat.le_refl _) (by omega) ((lt_key hq).1 h1)
  have hfalse : ∀ d c' : TCell, ¬ keyEq d c' → hit false d c' = false := fun d c' h => by
    cases hh : hit false d c' with
    | false => rfl
    | true => exact absurd (hit_key.1 hh) h
  unfold intoL
  by_cases h : k < l.length ∧ keyEq (nthI l (k : Int) cellD) c
  · rw [if_pos h]
    have hother : ∀ j : Nat, j < l.length → j ≠ k → ¬ keyEq (nthI l (j : Int) cellD) c := fun j hj hjk => (hne j hj hjk).resolve_right (fun h2 => h2 h.2)
    have hkey := mrg_key (c := c) h.2.2.2.1 h.2.2.2.2.1
    have hp1 : pass (hit false) (l.drop (k + 1)) (mrg c (nthI l (k : Int) cellD)) = (mrg c (nthI l (k : Int) cellD), l.drop (k + 1), false) := by
      refine pass_none _ _ _ (fun j hj => hfalse _ _ fun hq => ?_)
      rw [List.length_drop] at hj
      have e : nthI (l.drop (k + 1)) (j : Int) cellD = nthI l ((k + 1 + j : Nat) : Int) cellD := by
        rw [nthI_nat, nthI_nat, List.getD_eq_getElem?_getD, List.getD_eq_getElem?_getD, List.getElem?_drop]
      rw [e] at hq
      refine hother (k + 1 + j) (by omega) (by omega) ?_
      exact ⟨hq.1.trans hkey.1, hq.2.1.trans hkey.2.1, hq.2.2.1.trans hkey.2.2.1, hq.2.2.2.1.trans hkey.2.2.2.1, hq.2.2.2.2.trans hkey.2.2.2.2⟩
    have hp := pass_first (hit false) c l k h.1 (fun j hj => hfalse _ _ (hother j (by omega) (by omega))) (hit_key.2 h.2)
    rw [hp1] at hp
    have hp2 : pass (hit false) (l.take k ++ l.drop (k + 1)) (mrg c (nthI l (k : Int) cellD)) = (mrg c (nthI l (k : Int) cellD), l.take k ++ l.drop (k + 1), false) := by
      refine pass_none _ _ _ (fun j hj => hfalse _ _ fun hq => ?_)
      have hq' : keyEq (nthI (l.take k ++ l.drop (k + 1)) (j : Int) cellD) c := ⟨hq.1.trans hkey.1, hq.2.1.trans hkey.2.1, hq.2.2.1.trans hkey.2.2.1, hq.2.2.2.1.trans hkey.2.2.2.1, hq.2.2.2.2.trans hkey.2.2.2.2⟩
      rw [List.length_append, List.length_take, List.length_drop] at hj
      rcases Nat.lt_or_ge j k with h1 | h1
      · have e : nthI (l.take k ++ l.drop (k + 1)) (j : Int) cellD = nthI l (j : Int) cellD := by
          rw [nthI_nat, nthI_nat, List.getD_eq_getElem?_getD, List.getD_eq_getElem?_getD, List.getElem?_append_left (by rw [List.length_take]; omega), List.getElem?_take_of_lt h1]
        rw [e] at hq'
        exact hother j (by omega) (by omega) hq'
      · have e : nthI (l.take k ++ l.drop (k + 1)) (j : Int) cellD = nthI l ((j + 1 : Nat) : Int) cellD := by
          rw [nthI_nat, nthI_nat, List.getD_eq_getElem?_getD, List.getD_eq_getElem?_getD, List.getElem?_append_right (by rw [List.length_take]; omega), List.length_take, List.getElem?_drop]
          congr 2; omega
        rw [e] at hq'
        exact hother (j + 1) (by omega) (by omega) hq'
    obtain ⟨n, hn⟩ : ∃ n, l.length = n + 1 := ⟨l.length - 1, by omega⟩
    rw [passes, hp]
    simp only [if_true]
    rw [hn, passes, hp2]
    simp only [Bool.false_eq_true, if_false]
  · rw [if_neg h]
    have hp := pass_none (hit false) c l (fun j hj => hfalse _ _ fun hq => by
      by_cases hjk : j = k
      · subst hjk; exact h ⟨hj, hq⟩
      · rcases Nat.lt_or_ge j k with h1 | h1
        · exact lt_ne (hlt j h1) hq
        · exact hge k (Nat.le_refl _) (by omega) ((lt_key hq).1 (pw_nth hl.s k j (by omega) hj)))
    rw [passes, hp]
    simp only [Bool.false_eq_true, if_false]
theorem iPlain_eq (l : List TCell) (c : TCell) (hl : cS l) (hc : good c) (hn : l.length ≤ 100000) :
    I.addPlain c.1 c.2.1 c.2.2.1 c.2.2.2.1 c.2.2.2.2.1 c.2.2.2.2.2.1 c.2.2.2.2.2.2.1.1 c.2.2.2.2.2.2.1.2 c.2.2.2.2.2.2.2.1 c.2.2.2.2.2.2.2.2.1 l c.2.2.2.2.2.2.2.2.2 = some (decide (cN (intoL false l c).1 ≤ 1000000), insC (intoL false l c).1 (intoL false l c).2) := by
  have hcN := good_N hc
  obtain ⟨k, h1, t1, t2, hlt, hge, h3⟩ := bs_eq l c hl.s (by omega)
  have hin := plain_into l c hl k h1 hlt hge
  unfold I.addPlain
  rw [h3, Option.bind_some, hin]
  by_cases h : k < l.length ∧ keyEq (nthI l (k : Int) cellD) c
  · rw [decide_eq_true h, if_pos h, Bool.not_true, cond_false]
    have hd := hl.g _ (nthI_mem l k cellD h.1)
    have hdN := good_N hd
    have hm := iMerged_eq hd.2 hc.2 ⟨hdN.1, by omega⟩ ⟨hcN.1, by omega⟩
    have hsy := mrg_symm h.2
    rw [hsy] at hm
    have hdec : decide ((0 : Int) ≤ (k : Int) ∧ (k : Int) < (l.length : Int)) = true := decide_eq_true (by omega)
    have hkey := mrg_key (c := c) h.2.2.2.1 h.2.2.2.2.1
    have hset : insC (mrg c (nthI l (k : Int) cellD)) (l.take k ++ l.drop (k + 1)) = l.set k (mrg c (nthI l (k : Int) cellD)) := by
      have k1 : ∀ j : Nat, j < k → (fun d => decide (cellLt d (mrg c (nthI l (k : Int) cellD)))) (nthI (l.take k ++ l.drop (k + 1)) (j : Int) cellD) = true := by
        intro j hj
        have e : nthI (l.take k ++ l.drop (k + 1)) (j : Int) cellD = nthI l (j : Int) cellD := by
          rw [nthI_nat, nthI_nat, List.getD_eq_getElem?_getD, List.getD_eq_getElem?_getD, List.getElem?_append_left (by rw [List.length_take]; omega), List.getElem?_take_of_lt hj]
        rw [e]
        exact decide_eq_true ((lt_key hkey).2 (hlt j hj))
      have k2 : k < (l.take k ++ l.drop (k + 1)).length → (fun d => decide (cellLt d (mrg c (nthI l (k : Int) cellD)))) (nthI (l.take k ++ l.drop (k + 1)) (k : Int) cellD) = false := by
        intro hj
        rw [List.length_append, List.length_take, List.length_drop] at hj
        have e : nthI (l.take k ++ l.drop (k + 1)) (k : Int) cellD = nthI l ((k + 1 : Nat) : Int) cellD := by
          rw [nthI_nat, nthI_nat, List.getD_eq_getElem?_getD, List.getD_eq_getElem?_getD, List.getElem?_append_right (by rw [List.length_take]; omega), List.length_take, List.getElem?_drop]
          congr 2; omega
        rw [e]
        exact decide_eq_false fun hq => hge (k + 1) (by omega) (by omega) ((lt_key hkey).1 hq)
      obtain ⟨q1, q2⟩ := tw_at (fun d => decide (cellLt d (mrg c (nthI l (k : Int) cellD)))) (l.take k ++ l.drop (k + 1)) cellD k (by rw [List.length_append, List.length_take]; omega) k1 k2
      unfold insC
      rw [q1, q2, List.take_append_of_le_length (by rw [List.length_take]; omega), List.take_take, Nat.min_self, List.drop_append_of_le_length (by rw [List.length_take]; omega), List.drop_of_length_le (by rw [List.length_take]; omega), List.nil_append, List.set_eq_take_append_cons_drop, if_pos h.1]
    have hdec2 : decide ((0 : Int) ≤ (k : Int) ∧ (k : Int) < ((l.set k (mrg c (nthI l (k : Int) cellD))).length : Int)) = true := decide_eq_true (by rw [List.length_set]; omega)
    have hns := nthI_set l k (mrg c (nthI l (k : Int) cellD)) cellD h.1
    rw [hset]
    generalize hM : mrg c (nthI l (k : Int) cellD) = c' at *
    simp only [hdec, cond_true, Int.toNat_natCast]
    refine (congrArg (fun o => Option.bind o _) hm).trans ?_
    simp only [Option.bind_some]
    refine (congrArg (fun b => bif b then _ else none) hdec2).trans ?_
    rw [cond_true]
    show (Option.bind (some (decide (1000000 < (nthI (l.set k c') (k : Int) cellD).2.2.2.2.2.1))) fun r18 => some ((!r18), l.set k c')) = _
    rw [hns, Option.bind_some]
    congr 2
    by_cases h5 : c'.2.2.2.2.2.1 ≤ 1000000
    · rw [decide_eq_true h5, decide_eq_false (by omega)]; rfl
    · rw [decide_eq_false h5, decide_eq_true (by omega)]; rfl
  · rw [decide_eq_false h, if_neg h, Bool.not_false, cond_true]
    have hi := ins_at l c k h1 (by omega) t1 t2
    refine (congrArg (fun o => Option.bind o _) hi).trans ?_
    rw [Option.bind_some]
    congr 2
    exact (decide_eq_true hcN.2).symm
theorem top4_one (v : Int) : top4 [v] = [v] := by
  have h : desc [v] = [v] := (desc_uniq (List.Perm.refl _) (List.pairwise_singleton _ _)).symm
  unfold top4
  rw [h]; rfl
theorem wd_zero : wd 0 = (0, 0) := by decide
theorem iAggOf_one (v : Int) (hv : inI v) : I.aggOf [v] = some (1, (wd v).1, (wd v).2, v, v, [v]) := by
  obtain ⟨M, hM⟩ := fu_ge 1 (by omega)
  have hmn : G.slices.Min_int [v] = some v := by
    unfold G.slices.Min_int
    rw [hM, show 1 + 1 + M = (M + 1) + 1 from by omega, cdn (by simp), cdp (by simp), G.slices.Min_int_l0, cdn (by simp)]
    rfl
  have hmx : G.slices.Max_int [v] = some v := by
    unfold G.slices.Max_int
    rw [hM, show 1 + 1 + M = (M + 1) + 1 from by omega, cdn (by simp), cdp (by simp), G.slices.Max_int_l0, cdn (by simp)]
    rfl
  have hw := iWideAdd_eq 0 v
  rw [wd_zero, Int.zero_add] at hw
  have hn : nthI [v] 0 (0 : Int) = v := rfl
  have hl : (([v] : List Int).length : Int) = 1 := rfl
  have h1 : IntKind.wrap .i64 ((0 : Int) + 1) = 1 := by decide
  have d1 : decide ((0 : Int) < 1) = true := rfl
  have d2 : decide ((0 : Int) ≤ 0 ∧ (0 : Int) < 1) = true := rfl
  have d3 : decide ((1 : Int) < 1) = false := rfl
  unfold I.aggOf
  rw [hmn, hmx, topOf_eq _ (by simp), top4_one, hl, cen (by decide), Option.bind_some, Option.bind_some, Option.bind_some, hM, show 1 + 1 + M = (M + 1) + 1 from by omega, I.aggOf_l0]
  simp only [hl, d1, d2, cond_true, hn, iWideOf_eq v hv, hw, Option.bind_some, h1]
  rw [I.aggOf_l0]
  simp only [d3, cond_false]
theorem sAggOf_one (v : Int) (hv : inI v) : S.AggOf [v] = some (1, (wd v).1, (wd v).2, v, v, [v]) := by
  obtain ⟨M, hM⟩ := fu_ge 1 (by omega)
  have hw := sWideAdd_eq 0 v
  rw [wd_zero, Int.zero_add] at hw
  have hn : nthI [v] 0 (0 : Int) = v := rfl
  have hl : (([v] : List Int).length : Int) = 1 := rfl
  have h1 : IntKind.wrap .i64 ((0 : Int) + 1) = 1 := by decide
  have d1 : decide ((0 : Int) < 1) = true := rfl
  have d2 : decide ((0 : Int) ≤ 0 ∧ (0 : Int) < 1) = true := rfl
  have d4 : decide ((0 : Int) ≤ 0 ∧ (0 : Int) ≤ 1 ∧ (1 : Int) ≤ 1) = true := rfl
  have d3 : decide ((1 : Int) < 1) = false := rfl
  have ht : S.TopOf [] [v] = some [v] := by rw [sTopOf_eq [] [v] (by simp), List.nil_append, sel4, top4_one]
  have hs : ((([v] : List Int).take (Int.toNat 1)).drop (Int.toNat 0)) = [v] := rfl
  have e1 : (if v < v then v else v) = v := by split <;> rfl
  have e2 : (if v > v then v else v) = v := by split <;> rfl
  unfold S.AggOf
  rw [hl, cen (by decide), cdn (by decide), cdp (by decide), cdp (by decide), hM, show 1 + 1 + M = (M + 1) + 1 from by omega, S.AggOf_l0]
  simp only [hl, d1, d2, d4, cond_true, hn, sWideOf_eq v hv, hw, Option.bind_some, h1, hs, ht, e1, e2]
  rw [S.AggOf_l0]
  simp only [hl, d3, cond_false]
def cOne (q k f t lb v : Int) : TCell := (q, k, f, t, lb, 1, wd v, v, v, [v])
theorem one_good {q k f t lb v : Int} (hv : inI v) (hq : 0 ≤ q ∧ q ≤ 3) (hk : 0 ≤ k ∧ k ≤ 15) (hl : 0 ≤ lb ∧ lb ≤ 15) (hw : 0 ≤ f ∧ f < t ∧ t ≤ 1100) : good (cOne q k f t lb v) := by
  have hr := wd_range v
  have e : (wd v).1 * 18446744073709551616 + (wd v).2 = v := by
    unfold inI at hv
    unfold wd
    simp only []
    rw [w64 (by omega) (by omega)]
    omega
  refine ⟨⟨hq, hk, hl, hw, ?_, by show (0 : Int) < 1; decide⟩, ⟨hr.1, hr.2, hv, hv, fun x hx => ?_, by show ([v] : List Int).length ≤ 4; simp⟩⟩
  · show aggOk 1 (wd v).1 (wd v).2 v v [v]
    refine aggOk_of ?_
    rw [e]
    exact ⟨by omega, rfl, List.pairwise_singleton _ _, ⟨List.mem_singleton.2 rfl, fun x hx => by rw [List.mem_singleton.1 hx]; exact Int.le_refl _⟩, fun x hx => by rw [List.mem_singleton.1 hx]; exact Int.le_refl _, fun _ => ⟨List.mem_singleton.2 rfl, by simp [lsum]⟩, fun h => by omega⟩
  · have : x = v := List.mem_singleton.1 hx
    rw [this]; exact hv
def winsL (k s p t : Int) : List (Int × Int) :=
  if k = 1 then [(Int.tdiv t s * s, Int.tdiv t s * s + s)]
  else if k = 3 then [(t, t + s)]
  else ((List.range (t.toNat / p.toNat + 1)).filter (fun i : Nat => decide (t < (i : Int) * p + s))).map (fun i : Nat => ((i : Int) * p, (i : Int) * p + s))
theorem td_bd {t s : Int} (ht : 0 ≤ t ∧ t ≤ 1000) (hs : 1 ≤ s ∧ s ≤ 100) : 0 ≤ Int.tdiv t s * s ∧ Int.tdiv t s * s ≤ t := by
  rw [tdiv_nat _ _ ht.1]
  have h1 := Int.emod_add_mul_ediv t s
  have h2 := Int.emod_nonneg t (show s ≠ 0 from by omega)
  have h3 : 0 ≤ t / s := Int.ediv_nonneg ht.1 (by omega)
  have h4 : 0 ≤ t / s * s := Int.mul_nonneg h3 (by omega)
  rw [Int.mul_comm] at h1
  omega
theorem td_range {t s : Int} (ht : 0 ≤ t ∧ t ≤ 1000) (hs : 1 ≤ s ∧ s ≤ 100) : 0 ≤ Int.tdiv t s ∧ Int.tdiv t s ≤ 1000 := by
  rw [tdiv_nat _ _ ht.1]
  have h3 : 0 ≤ t / s := Int.ediv_nonneg ht.1 (by omega)
  have h4 : t / s ≤ t := Int.ediv_le_self _ ht.1
  omega
section
variable (k s p t : Int) (h : winOk k s p) (ht : 0 ≤ t ∧ t ≤ 1000)
include h ht
theorem slide_bd (hk : k = 2) : 1 ≤ p ∧ p ≤ 100 ∧ 1 ≤ s ∧ s ≤ 100 ∧ t.toNat / p.toNat ≤ 1000 ∧ ∀ i : Nat, i ≤ t.toNat / p.toNat → (i : Int) * p ≤ t := by
  unfold winOk at h
  obtain ⟨h1, h2 | h2⟩ := h
  · omega
  · have q := Nat.div_le_self t.toNat p.toNat
    refine ⟨by omega, by omega, by omega, by omega, by omega, fun i hi => ?_⟩
    have h3 : i * p.toNat ≤ t.toNat := Nat.le_trans (Nat.mul_le_mul_right _ hi) (Nat.div_mul_le_self _ _)
    have e : ((i * p.toNat : Nat) : Int) = (i : Int) * p := by rw [Int.natCast_mul, Int.toNat_of_nonneg (by omega)]
    omega
theorem wins_in : ∀ w ∈ winsL k s p t, 0 ≤ w.1 ∧ w.1 < w.2 ∧ w.2 ≤ 1100 := by
  have hs : 1 ≤ s ∧ s ≤ 100 := h.1
  have hb := td_bd ht hs
  intro w hw
  unfold winsL at hw
  split at hw
  · rw [List.mem_singleton] at hw; subst hw; simp only []; omega
  · split at hw
    · rw [List.mem_singleton] at hw; subst hw; simp only []; omega
    · rename_i c1 c2
      obtain ⟨q1, q2, q3, q4, q5, q6⟩ := slide_bd k s p t h ht (by have := h.2; omega)
      obtain ⟨i, hi, rfl⟩ := List.mem_map.1 hw
      have hi := List.mem_range.1 (List.mem_filter.1 hi).1
      have h1 := q6 i (by omega)
      have h0 : 0 ≤ (i : Int) * p := Int.mul_nonneg (by omega) (by omega)
      simp only []; omega
theorem wins_len : (winsL k s p t).length ≤ 1001 := by
  unfold winsL
  split
  · simp
  · split
    · simp
    · rename_i c1 c2
      obtain ⟨q1, q2, q3, q4, q5, q6⟩ := slide_bd k s p t h ht (by have := h.2; omega)
      rw [List.length_map]
      have := List.length_filter_le (fun i : Nat => decide (t < (i : Int) * p + s)) (List.range (t.toNat / p.toNat + 1))
      rw [List.length_range] at this
      omega
theorem wins_pos : 0 < (winsL k s p t).length := by
  unfold winsL
  split
  · simp
  · split
    · simp
    · rename_i c1 c2
      obtain ⟨q1, q2, q3, q4, q5, q6⟩ := slide_bd k s p t h ht (by have := h.2; omega)
      rw [List.length_map]
      refine List.length_pos_iff.2 fun he => ?_
      have : t.toNat / p.toNat ∈ (List.range (t.toNat / p.toNat + 1)).filter (fun i : Nat => decide (t < (i : Int) * p + s)) := by
        refine List.mem_filter.2 ⟨List.mem_range.2 (by omega), decide_eq_true ?_⟩
        have h2 : p ≤ s := by have := h.2; omega
        have e : (((t.toNat / p.toNat) : Nat) : Int) * p + (((t.toNat % p.toNat) : Nat) : Int) = t := by
          have := Nat.div_add_mod t.toNat p.toNat
          rw [Nat.mul_comm] at this
          have e2 : (((t.toNat / p.toNat * p.toNat) : Nat) : Int) = ((t.toNat / p.toNat : Nat) : Int) * p := by rw [Int.natCast_mul, Int.toNat_of_nonneg (by omega : 0 ≤ p)]
          omega
        have e3 := Nat.mod_lt t.toNat (show 0 < p.toNat from by omega)
        omega
      rw [he] at this; cases this
theorem slideLoop {γ : Type} (F : Nat → Int → List (Int × Int) → Option γ) (E : List (Int × Int) → Option γ) (hk : k = 2) (hs : ∀ (x : Int) (m : Nat) (acc : List (Int × Int)), 0 ≤ x → x ≤ t → acc.length ≤ 1000 → F (m + 1) x acc = bif decide (t < x + s) then F m (x + p) (acc ++ [(x, x + s)]) else F m (x + p) acc)
    (he : ∀ (x : Int) (m : Nat) (acc : List (Int × Int)), t < x → F (m + 1) x acc = E acc) : F fu 0 [] = E (winsL k s p t) := by
  obtain ⟨q1, q2, q3, q4, q5, q6⟩ := slide_bd k s p t h ht hk
  have e0 : ((0 : Nat) : Int) * p = 0 := by simp
  have hr := filterLoop (fun m i acc => F m (i * p) acc) (t.toNat / p.toNat + 1) (fun i : Nat => decide (t < (i : Int) * p + s)) (fun i : Nat => ((i : Int) * p, (i : Int) * p + s)) E (by omega) (fun i m acc hi ha => ?_) (fun m acc => ?_)
  · rw [show winsL k s p t = ((List.range (t.toNat / p.toNat + 1)).filter (fun i : Nat => decide (t < (i : Int) * p + s))).map (fun i : Nat => ((i : Int) * p, (i : Int) * p + s)) from by unfold winsL; rw [if_neg (by omega), if_neg (by omega)], ← hr]
    show _ = F fu (0 * p) []
    rw [Int.zero_mul]
  · show F (m + 1) ((i : Int) * p) acc = bif _ then F m (((i + 1 : Nat) : Int) * p) _ else F m (((i + 1 : Nat) : Int) * p) _
    rw [hs _ _ _ (Int.mul_nonneg (by omega) (by omega)) (q6 i (by omega)) (by omega), show ((i + 1 : Nat) : Int) * p = (i : Int) * p + p from by rw [Int.natCast_add, Int.add_mul]; simp]
  · refine he _ _ _ ?_
    have h1 := Nat.lt_div_mul_add (a := t.toNat) (b := p.toNat) (by omega)
    have e2 : (((t.toNat / p.toNat + 1) * p.toNat : Nat) : Int) = ((t.toNat / p.toNat + 1 : Nat) : Int) * p := by rw [Int.natCast_mul, Int.toNat_of_nonneg (by omega : 0 ≤ p)]
    have e3 : (t.toNat / p.toNat + 1) * p.toNat = t.toNat / p.toNat * p.toNat + p.toNat := by rw [Nat.add_mul, Nat.one_mul]
    omega
theorem iWins_eq : I.winsOf k s p t = some (winsL k s p t) := by
  have hs : 1 ≤ s ∧ s ≤ 100 := h.1
  have hb := td_bd ht hs
  have hr := td_range ht hs
  unfold I.winsOf
  by_cases c1 : k = 1
  · rw [cep c1, cdn (by omega), w64 (n := Int.tdiv t s) (by omega) (by omega), w64 (n := Int.tdiv t s * s) (by omega) (by omega)]
    simp only []
    rw [w64 (by omega) (by omega), show winsL k s p t = [(Int.tdiv t s * s, Int.tdiv t s * s + s)] from by unfold winsL; rw [if_pos c1]]
  · rw [cen c1]
    by_cases c2 : k = 3
    · rw [cep c2, w64 (by omega) (by omega), show winsL k s p t = [(t, t + s)] from by unfold winsL; rw [if_neg c1, if_pos c2]]
    · rw [cen c2]
      obtain ⟨q1, q2, q3, q4, q5, q6⟩ := slide_bd k s p t h ht (by have := h.2; omega)
      refine slideLoop k s p t h ht (fun m x acc => I.winsOf_l0 m (fun y22 => some y22) t x k s p acc) (fun y => some y) (by have := h.2; omega) (fun x m acc h0 h1 h2 => ?_) (fun x m acc h0 => ?_)
      · show I.winsOf_l0 (m + 1) _ _ _ _ _ _ _ = _
        have hdec : decide ((acc.length + [(x, x + s)].length) * 16 ≤ 140737488355328) = true := decide_eq_true (by simp only [List.length_cons, List.length_nil]; omega)
        rw [I.winsOf_l0, cdp h1]
        simp only [w64 (n := x + s) (by omega) (by omega), w64 (n := x + p) (by omega) (by omega), hdec, cond_true]
      · show I.winsOf_l0 (m + 1) _ _ _ _ _ _ _ = _
        rw [I.winsOf_l0, cdn (by omega)]
theorem sWins_eq : S.WinsOf k s p t = some (winsL k s p t) := by
  have hs : 1 ≤ s ∧ s ≤ 100 := h.1
  have hb := td_bd ht hs
  have hr := td_range ht hs
  have hp : -9223372036854775808 ≤ p ∧ p < 9223372036854775808 := by have := h.2; omega
  unfold S.WinsOf
  rw [sWinOk_eq k s p hp.1 hp.2, Option.bind_some, decide_eq_true h, Bool.not_true, cond_false, l05Time_eq, Option.bind_some, decide_eq_true ht, Bool.not_true, cond_false]
  by_cases c1 : k = 1
  · rw [cep c1, cdn (by omega), w64 (n := Int.tdiv t s) (by omega) (by omega), w64 (n := Int.tdiv t s * s) (by omega) (by omega)]
    simp only []
    rw [w64 (by omega) (by omega), show winsL k s p t = [(Int.tdiv t s * s, Int.tdiv t s * s + s)] from by unfold winsL; rw [if_pos c1]]
  · rw [cen c1]
    by_cases c2 : k = 3
    · rw [cep c2, w64 (by omega) (by omega), show winsL k s p t = [(t, t + s)] from by unfold winsL; rw [if_neg c1, if_pos c2]]
    · rw [cen c2]
      obtain ⟨q1, q2, q3, q4, q5, q6⟩ := slide_bd k s p t h ht (by have := h.2; omega)
      refine slideLoop k s p t h ht (fun m x acc => S.WinsOf_l0 m (fun y22 => some y22) t x k s p acc) (fun y => some y) (by have := h.2; omega) (fun x m acc h0 h1 h2 => ?_) (fun x m acc h0 => ?_)
      · show S.WinsOf_l0 (m + 1) _ _ _ _ _ _ _ = _
        have hdec : decide ((acc.length + [(x, x + s)].length) * 16 ≤ 140737488355328) = true := decide_eq_true (by simp only [List.length_cons, List.length_nil]; omega)
        rw [S.WinsOf_l0, cdp h1]
        simp only [w64 (n := x + s) (by omega) (by omega), w64 (n := x + p) (by omega) (by omega), hdec, cond_true]
      · show S.WinsOf_l0 (m + 1) _ _ _ _ _ _ _ = _
        rw [S.WinsOf_l0, cdn (by omega)]
end
def addGo (b : Bool) (q k lb v : Int) : List (Int × Int) → List TCell → Bool × List TCell
  | [], l => (true, l)
  | w :: ws, l => if cN (intoL b l (cOne q k w.1 w.2 lb v)).1 ≤ 1000000 then addGo b q k lb v ws (insC (intoL b l (cOne q k w.1 w.2 lb v)).1 (intoL b l (cOne q k w.1 w.2 lb v)).2) else (false, [])
theorem addGo_nil (b : Bool) (q k lb v : Int) : ∀ (ws : List (Int × Int)) (l : List TCell), (addGo b q k lb v ws l).1 = false → (addGo b q k lb v ws l).2 = []
  | [], _, h => by cases h
  | w :: ws, l, h => by
    rw [addGo] at h ⊢
    split
    · rename_i h1
      rw [if_pos h1] at h
      exact addGo_nil b q k lb v ws _ h
    · rfl
theorem sCellOne {v : Int} (hv : inI v) (q k f t lb : Int) : S.CellOk q k f t lb 1 (wd v).1 (wd v).2 v v [v] = some (decide ((0 ≤ q ∧ q ≤ 3) ∧ (0 ≤ k ∧ k ≤ 15) ∧ (0 ≤ lb ∧ lb ≤ 15) ∧ (0 ≤ f ∧ f < t ∧ t ≤ 1100))) := by
  have hr := wd_range v
  have hA : S.AggOk 1 (wd v).1 (wd v).2 v v [v] = some true := by
    rw [sAggOk_eq _ _ _ _ _ _ (by unfold inI; omega) hr.1 hr.2.1 hr.2.2 hv (fun x hx => by rw [List.mem_singleton.1 hx]; exact hv) (by simp)]
    have : aggOk 1 (wd v).1 (wd v).2 v v [v] := (one_good (q := 0) (k := 0) (f := 0) (t := 1) (lb := 0) hv (by omega) (by omega) (by omega) (by omega)).1.2.2.2.2.1
    rw [decide_eq_true this]
  unfold S.CellOk
  rw [l04Key_eq, l06Win_eq, hA]
  simp only [Option.bind_some, cond_true]
  by_cases h1 : 0 ≤ q
  · rw [cdp h1]
    by_cases h2 : q < 4
    · rw [cdp h2]
      by_cases h3 : 0 ≤ k ∧ k ≤ 15
      · rw [cdp h3]
        by_cases h4 : 0 ≤ f ∧ f < t ∧ t ≤ 1100
        · rw [cdp h4]
          by_cases h5 : 0 ≤ lb
          · rw [cdp h5]
            by_cases h6 : lb < 16
            · rw [cdp h6]; exact (congrArg some (show decide ((0 : Int) < 1) = true from rfl)).trans (stru (by omega))
            · rw [cdn h6]; exact sfal (by omega)
          · rw [cdn h5]; exact sfal (by omega)
        · rw [cdn h4]; exact sfal fun h => h4 h.2.2.2
      · rw [cdn h3]; exact sfal fun h => h3 h.2.1
    · rw [cdn h2]; exact sfal (by omega)
  · rw [cdn h1]; exact sfal (by omega)
section
variable (q k lb v : Int) (hv : inI v) (hq : 0 ≤ q ∧ q ≤ 3) (hk : 0 ≤ k ∧ k ≤ 15) (hlb : 0 ≤ lb ∧ lb ≤ 15) (ws : List (Int × Int)) (hws : ∀ w ∈ ws, 0 ≤ w.1 ∧ w.1 < w.2 ∧ w.2 ≤ 1100) (hwl : ws.length ≤ 1001)
include hv hq hk hlb hws hwl
theorem sAdd_l0 (e0 : Bool → List (Int × Int) → List TCell → Option (Bool × List TCell)) (e1 : List (Int × Int) → List TCell → Option (Bool × List TCell)) (he0 : ∀ a b, e0 false a b = some (false, [])) (K s p : Int) (m : Nat) : ∀ (d i : Nat) (l : List TCell), i + d = ws.length → cS l → l.length ≤ 10000 + i →
    S.CellsAdd_l0 (d + 1 + m) e0 e1 q k lb v (i : Int) K s p ws l = if (addGo (K == 3) q k lb v (ws.drop i) l).1 = true then e1 ws (addGo (K == 3) q k lb v (ws.drop i) l).2 else some (false, []) := by
  intro d
  induction d with
  | zero =>
    intro i l hi hl hn
    rw [show 0 + 1 + m = m + 1 from by omega, S.CellsAdd_l0, cdn (by omega), List.drop_of_length_le (by omega)]
    simp only [addGo, if_true]
  | succ d ih =>
    intro i l hi hl hn
    have hwi := hws _ (nthI_mem ws i ((0 : Int), (0 : Int)) (by omega))
    have hg := one_good (q := q) (k := k) (f := (nthI ws (i : Int) ((0 : Int), (0 : Int))).1) (t := (nthI ws (i : Int) ((0 : Int), (0 : Int))).2) (lb := lb) hv hq hk hlb hwi
    have hck := sCellOne hv q k (nthI ws (i : Int) ((0 : Int), (0 : Int))).1 (nthI ws (i : Int) ((0 : Int), (0 : Int))).2 lb
    rw [decide_eq_true ⟨hq, hk, hlb, hwi⟩] at hck
    have hin := sInto_eq (K == 3) 0 [] l (cOne q k (nthI ws (i : Int) ((0 : Int), (0 : Int))).1 (nthI ws (i : Int) ((0 : Int), (0 : Int))).2 lb v) (by omega) hg hl.g
    have hdec : decide ((0 : Int) ≤ (i : Int) ∧ (i : Int) < (ws.length : Int)) = true := decide_eq_true (by omega)
    have hlt : decide ((i : Int) < (ws.length : Int)) = true := decide_eq_true (by omega)
    have hw : IntKind.wrap .i64 ((i : Int) + 1) = ((i + 1 : Nat) : Int) := by rw [w64 (by omega) (by omega)]; rfl
    have hdr : ws.drop i = nthI ws (i : Int) ((0 : Int), (0 : Int)) :: ws.drop (i + 1) := drop_at ws i ((0 : Int), (0 : Int)) (by omega)
    rw [show d + 1 + 1 + m = (d + 1 + m) + 1 from by omega, S.CellsAdd_l0, hlt, cond_true, hdec, cond_true, dup_eq, same_self, sAggOf_one v hv, Option.bind_some, hdr, addGo]
    refine (congrArg (fun o => Option.bind o _) hck).trans ?_
    rw [Option.bind_some, Bool.not_true, cond_false]
    refine (congrArg (fun o => Option.bind o _) hin).trans ?_
    rw [Option.bind_some]
    by_cases h : cN (intoL (K == 3) l (cOne q k (nthI ws (i : Int) ((0 : Int), (0 : Int))).1 (nthI ws (i : Int) ((0 : Int), (0 : Int))).2 lb v)).1 ≤ 1000000
    · have hc := into_cS (K == 3) l _ hl hg h
      simp only [if_pos h, Bool.not_true, cond_false, hw]
      exact ih (i + 1) _ (by omega) hc.1 (by omega)
    · simp only [if_neg h, Bool.not_false, cond_true, he0]
      rw [if_neg (by simp)]
theorem iAdd_l0 (e0 : Bool → List TCell → Option (Bool × List TCell)) (e1 : List TCell → Option (Bool × List TCell)) (he0 : ∀ a, e0 false a = some (false, [])) (m : Nat) : ∀ (d i : Nat) (l : List TCell), i + d = ws.length → cS l → l.length ≤ 10000 + i →
    I.cellsAdd_l0 (d + 1 + m) e0 e1 q k lb v (ws.length : Int) (i : Int) l ws = if (addGo true q k lb v (ws.drop i) l).1 = true then e1 (addGo true q k lb v (ws.drop i) l).2 else some (false, []) := by
  intro d
  induction d with
  | zero =>
    intro i l hi hl hn
    rw [show 0 + 1 + m = m + 1 from by omega, I.cellsAdd_l0, cdn (by omega), List.drop_of_length_le (by omega)]
    simp only [addGo, if_true]
  | succ d ih =>
    intro i l hi hl hn
    have hwi := hws _ (nthI_mem ws i ((0 : Int), (0 : Int)) (by omega))
    have hg := one_good (q := q) (k := k) (f := (nthI ws (i : Int) ((0 : Int), (0 : Int))).1) (t := (nthI ws (i : Int) ((0 : Int), (0 : Int))).2) (lb := lb) hv hq hk hlb hwi
    have hin := iSession_eq l (cOne q k (nthI ws (i : Int) ((0 : Int), (0 : Int))).1 (nthI ws (i : Int) ((0 : Int), (0 : Int))).2 lb v) hl hg (by omega)
    have hdec : decide ((0 : Int) ≤ (i : Int) ∧ (i : Int) < (ws.length : Int)) = true := decide_eq_true (by omega)
    have hlt : decide ((i : Int) < (ws.length : Int)) = true := decide_eq_true (by omega)
    have hw : IntKind.wrap .i64 ((i : Int) + 1) = ((i + 1 : Nat) : Int) := by rw [w64 (by omega) (by omega)]; rfl
    have hdr : ws.drop i = nthI ws (i : Int) ((0 : Int), (0 : Int)) :: ws.drop (i + 1) := drop_at ws i ((0 : Int), (0 : Int)) (by omega)
    rw [show d + 1 + 1 + m = (d + 1 + m) + 1 from by omega, I.cellsAdd_l0, hlt, cond_true, hdec, cond_true, iAggOf_one v hv, Option.bind_some, hdr, addGo]
    refine (congrArg (fun o => Option.bind o _) hin).trans ?_
    rw [Option.bind_some]
    by_cases h : cN (intoL true l (cOne q k (nthI ws (i : Int) ((0 : Int), (0 : Int))).1 (nthI ws (i : Int) ((0 : Int), (0 : Int))).2 lb v)).1 ≤ 1000000
    · have hc := into_cS true l _ hl hg h
      simp only [if_pos h, decide_eq_true h, Bool.not_true, cond_false, hw]
      exact ih (i + 1) _ (by omega) hc.1 (by omega)
    · simp only [if_neg h, decide_eq_false h, Bool.not_false, cond_true, he0]
      rw [if_neg (by simp)]
theorem iAdd_l0b (e0 : Bool → List TCell → Option (Bool × List TCell)) (e1 : List TCell → Option (Bool × List TCell)) (he0 : ∀ a, e0 false a = some (false, [])) (m : Nat) : ∀ (d i : Nat) (l : List TCell), i + d = ws.length → cS l → l.length ≤ 10000 + i →
    I.cellsAdd_l0b (d + 1 + m) e0 e1 q k lb v (ws.length : Int) (i : Int) l ws = if (addGo false q k lb v (ws.drop i) l).1 = true then e1 (addGo false q k lb v (ws.drop i) l).2 else some (false, []) := by
  intro d
  induction d with
  | zero =>
    intro i l hi hl hn
    rw [show 0 + 1 + m = m + 1 from by omega, I.cellsAdd_l0b, cdn (by omega), List.drop_of_length_le (by omega)]
    simp only [addGo, if_true]
  | succ d ih =>
    intro i l hi hl hn
    have hwi := hws _ (nthI_mem ws i ((0 : Int), (0 : Int)) (by omega))
    have hg := one_good (q := q) (k := k) (f := (nthI ws (i : Int) ((0 : Int), (0 : Int))).1) (t := (nthI ws (i : Int) ((0 : Int), (0 : Int))).2) (lb := lb) hv hq hk hlb hwi
    have hin := iPlain_eq l (cOne q k (nthI ws (i : Int) ((0 : Int), (0 : Int))).1 (nthI ws (i : Int) ((0 : Int), (0 : Int))).2 lb v) hl hg (by omega)
    have hdec : decide ((0 : Int) ≤ (i : Int) ∧ (i : Int) < (ws.length : Int)) = true := decide_eq_true (by omega)
    have hlt : decide ((i : Int) < (ws.length : Int)) = true := decide_eq_true (by omega)
    have hw : IntKind.wrap .i64 ((i : Int) + 1) = ((i + 1 : Nat) : Int) := by rw [w64 (by omega) (by omega)]; rfl
    have hdr : ws.drop i = nthI ws (i : Int) ((0 : Int), (0 : Int)) :: ws.drop (i + 1) := drop_at ws i ((0 : Int), (0 : Int)) (by omega)
    rw [show d + 1 + 1 + m = (d + 1 + m) + 1 from by omega, I.cellsAdd_l0b, hlt, cond_true, hdec, cond_true, iAggOf_one v hv, Option.bind_some, hdr, addGo]
    refine (congrArg (fun o => Option.bind o _) hin).trans ?_
    rw [Option.bind_some]
    by_cases h : cN (intoL false l (cOne q k (nthI ws (i : Int) ((0 : Int), (0 : Int))).1 (nthI ws (i : Int) ((0 : Int), (0 : Int))).2 lb v)).1 ≤ 1000000
    · have hc := into_cS false l _ hl hg h
      simp only [if_pos h, decide_eq_true h, Bool.not_true, cond_false, hw]
      exact ih (i + 1) _ (by omega) hc.1 (by omega)
    · simp only [if_neg h, decide_eq_false h, Bool.not_false, cond_true, he0]
      rw [if_neg (by simp)]
end
theorem addGo_cS (b : Bool) (q k lb v : Int) (hv : inI v) (hq : 0 ≤ q ∧ q ≤ 3) (hk : 0 ≤ k ∧ k ≤ 15) (hlb : 0 ≤ lb ∧ lb ≤ 15) : ∀ (ws : List (Int × Int)) (l : List TCell), (∀ w ∈ ws, 0 ≤ w.1 ∧ w.1 < w.2 ∧ w.2 ≤ 1100) → cS l → cS (addGo b q k lb v ws l).2
  | [], l, _, hl => hl
  | w :: ws, l, hw, hl => by
    rw [addGo]
    split
    · rename_i h
      exact addGo_cS b q k lb v hv hq hk hlb ws _ (fun x hx => hw x (List.mem_cons_of_mem _ hx)) (into_cS b l _ hl (one_good hv hq hk hlb (hw w List.mem_cons_self)) h).1
    · exact ⟨fun d hd => (by cases hd), List.Pairwise.nil⟩
theorem cells_cS (a : List TCell) (hw : ∀ x ∈ a, bCell x) (h : cellsOk a) : cS a := by
  have h1 : ∀ d ∈ a, good d := by
    intro d hd
    obtain ⟨j, hj, rfl⟩ := List.getElem_of_mem hd
    have hp := (h.1 j hj).1
    rw [nthI_nat, List.getD_eq_getElem?_getD, List.getElem?_eq_getElem hj, Option.getD_some] at hp
    exact ⟨hp, cell_R (hw _ hd) hp⟩
  refine ⟨h1, List.pairwise_iff_getElem.2 fun i j hi hj hij => ?_⟩
  have key : ∀ d i : Nat, i + (d + 1) < a.length → cellLt (nthI a (i : Int) cellD) (nthI a ((i + (d + 1) : Nat) : Int) cellD) := by
    intro d
    induction d with
    | zero =>
      intro i hi
      rcases (h.1 (i + 1) hi).2 with h2 | h2
      · omega
      · exact h2
    | succ d ih =>
      intro i hi
      have h2 := ih i (by omega)
      rcases (h.1 (i + (d + 1 + 1)) hi).2 with h3 | h3
      · omega
      · exact cellLt_trans h2 h3
  have h2 := key (j - i - 1) i (by omega)
  rw [show i + (j - i - 1 + 1) = j from by omega, nthI_nat, nthI_nat, List.getD_eq_getElem?_getD, List.getD_eq_getElem?_getD, List.getElem?_eq_getElem hi, List.getElem?_eq_getElem hj] at h2
  exact h2

theorem chosen_eq (a : List TCell) (hc : cCellS a ≤ 1048576) : I.chosen a = some a := by
  have hla := cCellS_len a
  unfold I.chosen
  refine copyLoop (fun m i acc => I.chosen_l0 m (fun y => some y) (a.length : Int) i acc a) a cellD (fun xs => some xs) (by omega) (fun i m acc hi hacc => ?_) (fun m acc => ?_)
  · show I.chosen_l0 (m + 1) _ _ _ _ _ = I.chosen_l0 m _ _ _ _ _
    have hdec : decide ((0 : Int) ≤ (i : Int) ∧ (i : Int) < (a.length : Int)) = true := decide_eq_true (by omega)
    have hx : (nthI a (i : Int) cellD).2.2.2.2.2.2.2.2.2.length ≤ 1048576 := by have h1 := cCellS_mem (nthI_mem a i cellD hi); have h2 : cCell (nthI a (i : Int) cellD) = (nthI a (i : Int) cellD).2.2.2.2.2.2.2.2.2.length := rfl; omega
    rw [I.chosen_l0, cdp (by omega)]
    simp only [hdec, cond_true, cellCopied_eq (nthI a (i : Int) cellD) hx, I.cellsAdd_1, Option.bind_some]
    rw [w64 (by omega) (by omega), cdp (by simp only [List.length_cons, List.length_nil]; omega)]
    rfl
  · show I.chosen_l0 (m + 1) _ _ _ _ _ = _
    rw [I.chosen_l0, cdn (by omega)]
def addOk (q k s p key t lb : Int) : Prop := winOk k s p ∧ (0 ≤ t ∧ t ≤ 1000) ∧ (0 ≤ q ∧ q ≤ 3) ∧ (0 ≤ key ∧ key ≤ 15) ∧ (0 ≤ lb ∧ lb ≤ 15)
instance (q k s p key t lb : Int) : Decidable (addOk q k s p key t lb) := by unfold addOk; exact inferInstance
def addAns (q k s p key t lb v : Int) (a : List TCell) : Bool × List TCell :=
  if cellsOk a ∧ addOk q k s p key t lb then
    (if (addGo (k == 3) q key lb v (winsL k s p t) a).1 = true ∧ (addGo (k == 3) q key lb v (winsL k s p t) a).2.length ≤ 10000 then addGo (k == 3) q key lb v (winsL k s p t) a else (false, []))
  else (false, [])
section
variable (q k s p key t lb v : Int) (a : List TCell) (hv : inI v) (hp : inI p) (hw : ∀ x ∈ a, bCell x) (hc : cCellS a ≤ 1048576)
include hv hp hw hc
theorem sAdd_eq : S.CellsAdd q k s p key t lb v a = some (addAns q k s p key t lb v a) := by
  have hla := cCellS_len a
  have hok := sCellsOk_eq a hw (by omega)
  have hcp := l09Copy_eq a (by omega) (fun x hx => by have h1 := cCellS_mem hx; have h2 : cCell x = x.2.2.2.2.2.2.2.2.2.length := rfl; omega)
  unfold S.CellsAdd addAns
  rw [hok, Option.bind_some]
  by_cases h : cellsOk a
  · rw [decide_eq_true h, Bool.not_true, cond_false, hcp]
    by_cases h2 : winOk k s p ∧ (0 ≤ t ∧ t ≤ 1000)
    · rw [sWins_eq k s p t h2.1 h2.2, Option.bind_some, Option.bind_some]
      have hin := wins_in k s p t h2.1 h2.2
      have hwl := wins_len k s p t h2.1 h2.2
      have hwp := wins_pos k s p t h2.1 h2.2
      obtain ⟨M, hM⟩ := fu_ge (winsL k s p t).length (by omega)
      by_cases h3 : (0 ≤ q ∧ q ≤ 3) ∧ (0 ≤ key ∧ key ≤ 15) ∧ (0 ≤ lb ∧ lb ≤ 15)
      · rw [if_pos ⟨h, h2.1, h2.2, h3⟩, hM]
        refine (sAdd_l0 q key lb v hv h3.1 h3.2.1 h3.2.2 (winsL k s p t) hin hwl _ _ (fun a b => rfl) k s p M (winsL k s p t).length 0 a (by omega) (cells_cS a hw h) (by have := h.2; omega)).trans ?_
        rw [List.drop_zero]
        by_cases h4 : (addGo (k == 3) q key lb v (winsL k s p t) a).1 = true
        · rw [if_pos h4, cen (by omega)]
          by_cases h5 : (addGo (k == 3) q key lb v (winsL k s p t) a).2.length ≤ 10000
          · rw [cdn (by omega), if_pos ⟨h4, h5⟩]
            exact congrArg some (Prod.ext h4.symm rfl)
          · rw [cdp (by omega), if_neg (fun h => h5 h.2)]
        · rw [if_neg h4, if_neg (fun h => h4 h.1)]
      · rw [if_neg (fun h4 => h3 h4.2.2.2), hM, show (winsL k s p t).length + 1 + M = ((winsL k s p t).length + M) + 1 from by omega]
        have hck := sCellOne hv q key (nthI (winsL k s p t) 0 ((0 : Int), (0 : Int))).1 (nthI (winsL k s p t) 0 ((0 : Int), (0 : Int))).2 lb
        rw [decide_eq_false (fun h4 => h3 ⟨h4.1, h4.2.1, h4.2.2.1⟩)] at hck
        rw [S.CellsAdd_l0, cdp (by omega), cdp (by omega), cdp (by omega), dup_eq, same_self, sAggOf_one v hv, Option.bind_some]
        refine (congrArg (fun o => Option.bind o _) hck).trans ?_
        rw [Option.bind_some, Bool.not_false, cond_true]
    · have hz : S.WinsOf k s p t = some [] := by
        unfold S.WinsOf
        rw [sWinOk_eq k s p hp.1 (by unfold inI at hp; omega), Option.bind_some, l05Time_eq]
        by_cases h3 : winOk k s p
        · rw [decide_eq_true h3, Bool.not_true, cond_false, Option.bind_some, decide_eq_false (fun h4 => h2 ⟨h3, h4⟩), Bool.not_false, cond_true]
        · rw [decide_eq_false h3, Bool.not_false, cond_true]
      obtain ⟨M, hM⟩ := fu_ge 0 (by omega)
      rw [if_neg (fun h4 => h2 ⟨h4.2.1, h4.2.2.1⟩), hz, Option.bind_some, Option.bind_some, hM, show 0 + 1 + M = M + 1 from by omega, S.CellsAdd_l0, cdn (by simp), cep (by simp)]
  · rw [if_neg (fun h2 => h h2.1), decide_eq_false h, Bool.not_false, cond_true]
theorem iAdd_eq : I.CellsAdd q k s p key t lb v a = some (addAns q k s p key t lb v a) := by
  have hla := cCellS_len a
  have hok := iCellsOk_eq a hw (by omega)
  unfold I.CellsAdd addAns
  rw [hok, Option.bind_some]
  by_cases h : cellsOk a
  · rw [decide_eq_true h, Bool.not_true, cond_false, iWinOk_eq k s p hp.1 (by unfold inI at hp; omega), Option.bind_some]
    by_cases h1 : winOk k s p
    · rw [decide_eq_true h1, Bool.not_true, cond_false, isCellPlace_eq, Option.bind_some]
      by_cases h3 : (0 ≤ q ∧ q ≤ 3) ∧ (0 ≤ key ∧ key ≤ 15) ∧ (0 ≤ lb ∧ lb ≤ 15)
      · rw [decide_eq_true h3, Bool.not_true, cond_false, isTime_eq, Option.bind_some]
        by_cases h2 : 0 ≤ t ∧ t ≤ 1000
        · rw [decide_eq_true h2, Bool.not_true, cond_false, if_pos ⟨h, h1, h2, h3⟩]
          have hin := wins_in k s p t h1 h2
          have hwl := wins_len k s p t h1 h2
          have hwp := wins_pos k s p t h1 h2
          obtain ⟨M, hM⟩ := fu_ge (winsL k s p t).length (by omega)
          unfold I.cellsAdd
          rw [chosen_eq a hc, Option.bind_some, iWins_eq k s p t h1 h2]
          by_cases c3 : k = 3
          · have hb : (k == 3) = true := by simp [c3]
            rw [cep c3, Option.bind_some, hM, hb]
            refine (congrArg (fun o => Option.bind o _) (iAdd_l0 q key lb v hv h3.1 h3.2.1 h3.2.2 (winsL k s p t) hin hwl _ _ (fun a => rfl) M (winsL k s p t).length 0 a (by omega) (cells_cS a hw h) (by have := h.2; omega))).trans ?_
            rw [List.drop_zero]
            by_cases h4 : (addGo true q key lb v (winsL k s p t) a).1 = true
            · rw [if_pos h4]
              by_cases h5 : (addGo true q key lb v (winsL k s p t) a).2.length ≤ 10000
              · rw [cdn (by omega), if_pos ⟨h4, h5⟩, Option.bind_some]
                exact congrArg some (Prod.ext h4.symm rfl)
              · rw [cdp (by omega), if_neg (fun h => h5 h.2), Option.bind_some]
            · rw [if_neg h4, if_neg (fun h => h4 h.1), Option.bind_some]
          · have hb : (k == 3) = false := by simp [c3]
            rw [cen c3, Option.bind_some, hM, hb]
            refine (congrArg (fun o => Option.bind o _) (iAdd_l0b q key lb v hv h3.1 h3.2.1 h3.2.2 (winsL k s p t) hin hwl _ _ (fun a => rfl) M (winsL k s p t).length 0 a (by omega) (cells_cS a hw h) (by have := h.2; omega))).trans ?_
            rw [List.drop_zero]
            by_cases h4 : (addGo false q key lb v (winsL k s p t) a).1 = true
            · rw [if_pos h4]
              by_cases h5 : (addGo false q key lb v (winsL k s p t) a).2.length ≤ 10000
              · rw [cdn (by omega), if_pos ⟨h4, h5⟩, Option.bind_some]
                exact congrArg some (Prod.ext h4.symm rfl)
              · rw [cdp (by omega), if_neg (fun h => h5 h.2), Option.bind_some]
            · rw [if_neg h4, if_neg (fun h => h4 h.1), Option.bind_some]
        · rw [decide_eq_false h2, Bool.not_false, cond_true, if_neg (fun h4 => h2 h4.2.2.1)]
      · rw [decide_eq_false h3, Bool.not_false, cond_true, if_neg (fun h4 => h3 h4.2.2.2)]
    · rw [decide_eq_false h1, Bool.not_false, cond_true, if_neg (fun h4 => h1 h4.2.1)]
  · rw [if_neg (fun h2 => h h2.1), decide_eq_false h, Bool.not_false, cond_true]
theorem ans_len : cCellS (addAns q k s p key t lb v a).2 ≤ 50000 := by
  have h0 : cCellS ([] : List TCell) ≤ 50000 := by simp [cCellS]
  unfold addAns
  split
  · rename_i h
    split
    · rename_i h1
      have hs := addGo_cS (k == 3) q key lb v hv h.2.2.2.1 h.2.2.2.2.1 h.2.2.2.2.2 (winsL k s p t) a (wins_in k s p t h.2.1 h.2.2.1) (cells_cS a hw h.1)
      have key : ∀ l : List TCell, (∀ d ∈ l, good d) → (l.map cCell).sum ≤ 4 * l.length := by
        intro l
        induction l with
        | nil => intro _; simp
        | cons x l ih =>
          intro hx
          have h1 : cCell x ≤ 4 := (hx x List.mem_cons_self).2.tl
          have h2 := ih (fun d hd => hx d (List.mem_cons_of_mem _ hd))
          rw [List.map_cons, List.sum_cons, List.length_cons]
          omega
      have h2 := key _ hs.g
      unfold cCellS
      omega
    · exact h0
  · exact h0
end
theorem FnExactCellsAdd : StmtFnExactCellsAdd.Stmt := by
  intro a q k s p key t lb v ha hq hk hs hp hkey ht hlb hv
  have hsz := szCellS_eq 1048576 a (by omega) (by omega) ha
  unfold L.FnExactCellsAdd
  rw [hsz, Option.bind_some]
  by_cases hl : ((cCellS a : Nat) : Int) ≤ 1048576
  · have hla := cCellS_len a
    have hto := toCellS_eq a (by omega)
    have heq := eqCellS_eq a a (by omega)
    have hwa := wCellS_le a
    have hmk := markCellS_eq 1 a (by omega) (by omega) (by omega)
    rw [if_pos hl, cdn (by omega)]
    have hS := sAdd_eq q k s p key t lb v a (i64_wf hv) (i64_wf hp) ha.2 (by omega)
    have hI := iAdd_eq q k s p key t lb v a (i64_wf hv) (i64_wf hp) ha.2 (by omega)
    have hwb := ans_len q k s p key t lb v a (i64_wf hv) (i64_wf hp) ha.2 (by omega)
    obtain ⟨w, hw⟩ : ∃ w : Bool × List TCell, w = addAns q k s p key t lb v a := ⟨_, rfl⟩
    rw [← hw] at hS hI hwb
    have hww := wCellS_le w.2
    have hlw := cCellS_len w.2
    have he := eqCellS_eq w.2 w.2 (by omega)
    have hm := markCellS_eq 1 w.2 (by omega) (by omega) (by omega)
    have hh := heldCellS_eq 1 w.2 (by omega) (by omega) (by omega)
    have d1 : decide ((1 : Int) + ((wCellS a : Nat) : Int) < 0) = false := decide_eq_false (by omega)
    have d2 : decide ((1 : Int) + ((wCellS w.2 : Nat) : Int) < 0) = false := decide_eq_false (by omega)
    simp only [L.toWinDef, hto, hS, hI, heq, hmk, he, hm, hh, d1, d2, Option.bind_some, decide_true, beq_self_eq_true, Bool.not_true, cond_false, bne_self_eq_false]
  · rw [if_neg hl, cdp (by omega)]
end Go.Proofs.YtmbcnpbgcfiafaaGreat.Pure
