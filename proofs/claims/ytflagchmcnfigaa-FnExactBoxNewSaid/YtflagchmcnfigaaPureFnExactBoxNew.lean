/- BoxNew of the program returns what the reference's returns. For every argument. -/
import Derived.Test.YtflagchmcnfigaaStmtFnExactBoxNew
import Derived.Laws.BitsLemmas
import Derived.Laws.BitsAllLaws
import Derived.Laws.Bits64b
namespace Go.Proofs.Ytflagchmcnfigaa.Pure
open Go Go.RowKit Go.Proofs.Ytflagchmcnfigaa.Run Go.Proofs.Ytflagchmcnfigaa.StmtFnExactBoxNew Go.Proofs.YtflagchmcnfigaaW.PrintWords Go.Proofs.Ytflagchmcnfigaa.Vm
set_option linter.unusedVariables false
set_option linter.unusedSimpArgs false
set_option linter.unusedSectionVars false
/-! General words -/
theorem cdp {α : Type} {p : Prop} [Decidable p] {a b : α} (h : p) : (bif decide p then a else b) = a := by simp [h]
theorem cdn {α : Type} {p : Prop} [Decidable p] {a b : α} (h : ¬ p) : (bif decide p then a else b) = b := by simp [h]
theorem cnp {α : Type} {x y : Int} {a b : α} (h : x ≠ y) : (bif (x != y) then a else b) = a := by rw [show (x != y) = true from by simpa using h]; rfl
theorem cnn {α : Type} {x y : Int} {a b : α} (h : x = y) : (bif (x != y) then a else b) = b := by simp [bne, h]
theorem cep {α : Type} {x y : Int} {a b : α} (h : x = y) : (bif (x == y) then a else b) = a := by simp [h]
theorem cen {α : Type} {x y : Int} {a b : α} (h : x ≠ y) : (bif (x == y) then a else b) = b := by rw [show (x == y) = false from by simpa using h]; rfl
theorem cond_some {α : Type} (c : Bool) (x y : α) : (bif c then some x else some y) = some (bif c then x else y) := by cases c <;> rfl
theorem cond_and (c x : Bool) : (bif c then x else false) = (c && x) := by cases c <;> rfl
theorem dand (p q : Prop) [Decidable p] [Decidable q] : (decide p && decide q) = decide (p ∧ q) := by by_cases p <;> by_cases q <;> simp_all
theorem w64 {n : Int} (h0 : -9223372036854775808 ≤ n) (h1 : n < 9223372036854775808) : IntKind.i64.wrap n = n := by rw [IntKind.wrap_i64]; omega
theorem u64_mod (n : Int) : IntKind.u64.wrap n = n % 18446744073709551616 := by simp [IntKind.wrap, IntKind.bits, IntKind.signed]
theorem u64w {n : Int} (h0 : 0 ≤ n) (h1 : n < 18446744073709551616) : IntKind.u64.wrap n = n := by rw [u64_mod]; omega
theorem u8_mod (n : Int) : IntKind.u8.wrap n = n % 256 := by simp [IntKind.wrap, IntKind.bits, IntKind.signed]
theorem i64_wf {n : Int} (h : (Lit.int .i64 n).wf = true) : -9223372036854775808 ≤ n ∧ n < 9223372036854775808 := by
  simp only [Lit.wf, IntKind.min, IntKind.max, IntKind.signed, IntKind.bits, Bool.and_eq_true, decide_eq_true_eq, if_true] at h
  omega
theorem u8_wf {n : Int} (h : (Lit.int .u8 n).wf = true) : 0 ≤ n ∧ n < 256 := by
  simp [Lit.wf, IntKind.min, IntKind.max, IntKind.signed, IntKind.bits, Bool.and_eq_true] at h
  omega
theorem tmod_nat (n : Int) (m : Int) (h : 0 ≤ n) : Int.tmod n m = n % m := Int.tmod_eq_emod_of_nonneg h
theorem tdiv_nat (n : Int) (m : Int) (h : 0 ≤ n) : Int.tdiv n m = n / m := Int.tdiv_eq_ediv_of_nonneg h
theorem bits_or_128 (x : Int) (h0 : 0 ≤ x) (h1 : x < 256) : Go.bits .or .u8 x 128 = 128 + x % 128 := by
  obtain ⟨n, rfl⟩ := Int.eq_ofNat_of_zero_le h0
  have hn : n < 256 := by omega
  have key : ∀ m : Fin 256, Go.bits .or .u8 ((m.val : Nat) : Int) 128 = 128 + ((m.val : Nat) : Int) % 128 := by decide +kernel
  exact key ⟨n, hn⟩
theorem bits_xor_zero (x : Int) (h0 : 0 ≤ x) (h1 : x < 18446744073709551616) : Go.bits .xor .u64 x 0 = x := by
  obtain ⟨n, rfl⟩ := Int.eq_ofNat_of_zero_le h0
  have hn : n < 18446744073709551616 := by omega
  show IntKind.u64.wrap (((BitVec.ofInt 64 ((n : Nat) : Int)) ^^^ (BitVec.ofInt 64 0)).toNat : Int) = n
  have e : (BitVec.ofInt 64 0) = 0#64 := by decide
  rw [e, BitVec.xor_zero, BitVec.ofInt_natCast, BitVec.toNat_ofNat, u64_mod]
  omega
theorem bits_xor_ones (x : Int) (h0 : 0 ≤ x) (h1 : x < 18446744073709551616) : Go.bits .xor .u64 x 18446744073709551615 = 18446744073709551615 - x := by
  obtain ⟨n, rfl⟩ := Int.eq_ofNat_of_zero_le h0
  have hn : n < 18446744073709551616 := by omega
  show IntKind.u64.wrap (((BitVec.ofInt 64 ((n : Nat) : Int)) ^^^ (BitVec.ofInt 64 18446744073709551615)).toNat : Int) = 18446744073709551615 - n
  have e : (BitVec.ofInt 64 18446744073709551615) = BitVec.allOnes 64 := by decide
  rw [e, BitVec.xor_allOnes, BitVec.toNat_not, BitVec.ofInt_natCast, BitVec.toNat_ofNat, u64_mod]
  omega
theorem fu_ge (d : Nat) (h : d ≤ 1000000000000) : ∃ m, fu = d + 1 + m := ⟨fu - d - 1, by rw [fu_eq]; omega⟩
theorem nthI_nat {α : Type} (xs : List α) (i : Nat) (d : α) : nthI xs (i : Int) d = xs.getD i d := rfl
theorem drop_nth (xs : List Int) (i : Nat) (h : i < xs.length) : xs.drop i = nthI xs (i : Int) 0 :: xs.drop (i + 1) := by
  rw [nthI_nat, List.getD_eq_getElem?_getD, List.getElem?_eq_getElem h]; exact List.drop_eq_getElem_cons h
/-! Loops over lists -/
theorem nthI_mem {α : Type} (a : List α) (i : Nat) (d : α) (h : i < a.length) : nthI a (i : Int) d ∈ a := by
  rw [nthI_nat, List.getD_eq_getElem?_getD, List.getElem?_eq_getElem h]; simp
theorem nthI_set {α : Type} (xs : List α) (i : Nat) (y d : α) (h : i < xs.length) : nthI (xs.set i y) (i : Int) d = y := by
  rw [nthI_nat, List.getD_eq_getElem?_getD, List.getElem?_set_self h]; rfl
theorem drop_at {α : Type} (xs : List α) (i : Nat) (d : α) (h : i < xs.length) : xs.drop i = nthI xs (i : Int) d :: xs.drop (i + 1) := by
  rw [nthI_nat, List.getD_eq_getElem?_getD, List.getElem?_eq_getElem h]; exact List.drop_eq_getElem_cons h
theorem cneI {x y : Int} {k : Option Bool} : (bif (x != y) then some false else k) = bif decide (x = y) then k else some false := by
  by_cases h : x = y
  · rw [cnn h, cdp h]
  · rw [cnp h, cdn h]
theorem cneB {x y : Bool} {k : Option Bool} : (bif (!(x == y)) then some false else k) = bif decide (x = y) then k else some false := by
  cases x <;> cases y <;> rfl
theorem cbeB {x y : Bool} {k : Option Bool} : (bif (x == y) then k else some false) = bif decide (x = y) then k else some false := by cases x <;> cases y <;> rfl
theorem cnotb {r : Bool} {k : Option Bool} : (bif (!r) then some false else k) = bif r then k else some false := by cases r <;> rfl
theorem cds {p q : Prop} [Decidable p] [Decidable q] : (bif decide p then some (decide q) else some false) = some (decide (p ∧ q)) := by
  by_cases p <;> by_cases q <;> simp_all
theorem cdt {p : Prop} [Decidable p] : (bif decide p then some true else some false) = some (decide p) := by by_cases p <;> simp_all
theorem sdec {p q : Prop} [Decidable p] [Decidable q] (h : q ↔ p) : some (decide q) = some (decide p) := congrArg some (decide_eq_decide.mpr h)
theorem sfal {p : Prop} [Decidable p] (h : ¬ p) : some false = some (decide p) := by rw [decide_eq_false h]
theorem stru {p : Prop} [Decidable p] (h : p) : some true = some (decide p) := by rw [decide_eq_true h]
theorem sbool {b : Bool} {p : Prop} [Decidable p] (h : b = true ↔ p) : some b = some (decide p) := by
  by_cases c : p
  · rw [h.2 c, decide_eq_true c]
  · rw [decide_eq_false c, Bool.eq_false_iff.2 fun e => c (h.1 e)]
theorem sum_mem {l : List Nat} {x : Nat} (h : x ∈ l) : x ≤ l.sum := by
  induction l with
  | nil => cases h
  | cons y l ih =>
    rw [List.sum_cons]
    rcases List.mem_cons.1 h with rfl | h
    · omega
    · have := ih h; omega
theorem toLoop {α : Type} (F : Nat → Int → List α → Option (List α)) (a : List α) (d : α) (hn : a.length ≤ 1000000000000)
    (hs : ∀ (i m : Nat) (xs : List α), i < a.length → xs.length = a.length → F (m + 1) (i : Int) xs = F m ((i + 1 : Nat) : Int) (xs.set i (nthI a (i : Int) d)))
    (he : ∀ (m : Nat) (xs : List α), F (m + 1) (a.length : Int) xs = some xs) (xs : List α) (hx : xs.length = a.length) : F fu 0 xs = some a := by
  obtain ⟨M, hM⟩ := fu_ge a.length hn
  have h1 : ∀ k i : Nat, ∀ xs : List α, xs.length = a.length → i ≤ a.length → a.length - i = k → xs.take i = a.take i → F (k + 1 + M) (i : Int) xs = some a := by
    intro k
    induction k with
    | zero =>
      intro i xs hx hi hd ht
      obtain rfl : i = a.length := by omega
      rw [List.take_of_length_le (by omega), List.take_of_length_le (by omega)] at ht
      subst ht
      rw [show 0 + 1 + M = M + 1 from by omega]
      exact he M xs
    | succ k ih =>
      intro i xs hx hi hd ht
      have hi2 : i < a.length := by omega
      rw [show k + 1 + 1 + M = (k + 1 + M) + 1 from by omega, hs i _ xs hi2 hx]
      refine ih (i + 1) _ (by simpa using hx) (by omega) (by omega) ?_
      rw [nthI_nat, List.getD_eq_getElem?_getD, List.getElem?_eq_getElem hi2, Option.getD_some, List.take_add_one, List.take_add_one, List.take_set_of_le (Nat.le_refl i), ht]
      simp [show i < xs.length from by omega, hi2]
  rw [hM]
  exact h1 a.length 0 xs hx (by omega) (by omega) (by simp)
theorem eqLoop {α : Type} [DecidableEq α] (F : Nat → Int → Option Bool) (a b : List α) (d : α) (hl : a.length = b.length) (hn : a.length ≤ 1000000000000)
    (hs : ∀ (i m : Nat), i < a.length → F (m + 1) (i : Int) = bif decide (nthI a (i : Int) d = nthI b (i : Int) d) then F m ((i + 1 : Nat) : Int) else some false)
    (he : ∀ m : Nat, F (m + 1) (a.length : Int) = some true) : F fu 0 = some (decide (a = b)) := by
  obtain ⟨M, hM⟩ := fu_ge a.length hn
  have h1 : ∀ k i : Nat, i ≤ a.length → a.length - i = k → F (k + 1 + M) (i : Int) = some (decide (a.drop i = b.drop i)) := by
    intro k
    induction k with
    | zero =>
      intro i hi hd
      obtain rfl : i = a.length := by omega
      rw [show 0 + 1 + M = M + 1 from by omega, he, List.drop_of_length_le (by omega), List.drop_of_length_le (by omega)]
      simp
    | succ k ih =>
      intro i hi hd
      rw [show k + 1 + 1 + M = (k + 1 + M) + 1 from by omega, hs i _ (by omega), drop_at a i d (by omega), drop_at b i d (by omega), ih (i + 1) (by omega) (by omega)]
      by_cases e : nthI a (i : Int) d = nthI b (i : Int) d
      · rw [cdp e, e]
        generalize nthI b (i : Int) d = x
        simp
      · rw [cdn e]
        generalize nthI b (i : Int) d = x at *
        generalize nthI a (i : Int) d = y at *
        simp [e]
  rw [hM]
  simpa using h1 a.length 0 (by omega) (by omega)
theorem eqTop {α : Type} [DecidableEq α] (a b : List α) {k : Option Bool} (h : a.length = b.length → k = some (decide (a = b))) : (bif ((a.length : Int) != (b.length : Int)) then some false else k) = some (decide (a = b)) := by
  by_cases e : a.length = b.length
  · rw [cnn (by omega), h e]
  · rw [cnp (by omega), decide_eq_false (fun h => e (by rw [h]))]
theorem szLoop {α : Type} (F : Nat → Int → Int → Option Int) (a : List α) (d : α) (c : α → Nat) (hn : a.length ≤ 1000000000000)
    (hs : ∀ (i m : Nat) (l : Int), i < a.length → 0 ≤ l → l ≤ 1000000000000 → F (m + 1) l (i : Int) = if (c (nthI a (i : Int) d) : Int) ≤ l then F m (l - (c (nthI a (i : Int) d) : Int)) ((i + 1 : Nat) : Int) else some (-1))
    (he : ∀ (m : Nat) (l : Int), F (m + 1) l (a.length : Int) = some l) (l : Int) (h0 : 0 ≤ l) (h1 : l ≤ 1000000000000) : F fu l 0 = some (if (((a.map c).sum : Nat) : Int) ≤ l then l - (((a.map c).sum : Nat) : Int) else -1) := by
  obtain ⟨M, hM⟩ := fu_ge a.length hn
  have h2 : ∀ k i : Nat, ∀ l : Int, 0 ≤ l → l ≤ 1000000000000 → i ≤ a.length → a.length - i = k → F (k + 1 + M) l (i : Int) = some (if ((((a.drop i).map c).sum : Nat) : Int) ≤ l then l - ((((a.drop i).map c).sum : Nat) : Int) else -1) := by
    intro k
    induction k with
    | zero =>
      intro i l h0 h1 hi hd
      obtain rfl : i = a.length := by omega
      rw [show 0 + 1 + M = M + 1 from by omega, he, List.drop_of_length_le (by omega)]
      simp [h0]
    | succ k ih =>
      intro i l h0 h1 hi hd
      rw [show k + 1 + 1 + M = (k + 1 + M) + 1 from by omega, hs i _ l (by omega) h0 h1, drop_at a i d (by omega), List.map_cons, List.sum_cons]
      by_cases e : (c (nthI a (i : Int) d) : Int) ≤ l
      · rw [if_pos e, ih (i + 1) _ (by omega) (by omega) (by omega) (by omega)]
        congr 1
        split <;> split <;> omega
      · rw [if_neg e, if_neg (by omega)]
  rw [hM]
  simpa using h2 a.length 0 l h0 h1 (by omega) (by omega)
/-! Marking -/
def markAll {α : Type} (m1 : Int → α → α) (w1 : α → Nat) : Int → List α → List α
  | _, [] => []
  | k, x :: xs => m1 k x :: markAll m1 w1 (k + (w1 x : Int)) xs
theorem markAll_length {α : Type} (m1 : Int → α → α) (w1 : α → Nat) : ∀ (a : List α) (k : Int), (markAll m1 w1 k a).length = a.length
  | [], _ => rfl
  | x :: xs, k => by simp [markAll, markAll_length m1 w1 xs]
theorem sum_const {α : Type} (w : α → Nat) (a : List α) (n : Nat) (h : ∀ x, w x = n) : (a.map w).sum = n * a.length := by
  induction a with
  | nil => simp
  | cons x xs ih => simp [h x, ih, Nat.mul_add]; omega
theorem cmod3 : decide ((3 : Int) = 0) = false := rfl
theorem markLoop {α : Type} (F : Nat → Int → Int → List α → Option (Int × List α)) (m1 : Int → α → α) (w1 : α → Nat) (a : List α) (d : α) (nl : Nat) (hw : ∀ x, w1 x = nl) {k : Int} (h0 : 0 ≤ k) (hn : a.length ≤ 1000000000000) (hc : k + (nl : Int) * (a.length : Int) ≤ 1000000000000)
    (hs : ∀ (i m : Nat) (k : Int) (xs : List α), i < a.length → xs.length = a.length → 0 ≤ k → k + (nl : Int) ≤ 1000000000000 → F (m + 1) k (i : Int) xs = F m (k + (nl : Int)) ((i + 1 : Nat) : Int) (xs.set i (m1 k (nthI xs (i : Int) d))))
    (he : ∀ (m : Nat) (k : Int) (xs : List α), xs.length = a.length → F (m + 1) k (a.length : Int) xs = some (k, xs)) : F fu k 0 a = some (k + (nl : Int) * (a.length : Int), markAll m1 w1 k a) := by
  obtain ⟨M, hM⟩ := fu_ge a.length hn
  have h1 : ∀ q i : Nat, ∀ (k : Int) (xs : List α), xs.length = a.length → i ≤ a.length → a.length - i = q → 0 ≤ k → k + (nl : Int) * (q : Int) ≤ 1000000000000 → F (q + 1 + M) k (i : Int) xs = some (k + (nl : Int) * (q : Int), xs.take i ++ markAll m1 w1 k (xs.drop i)) := by
    intro q
    induction q with
    | zero =>
      intro i k xs hx hi hd h0 hc
      obtain rfl : i = a.length := by omega
      rw [show 0 + 1 + M = M + 1 from by omega, he _ _ _ hx, List.take_of_length_le (by omega), List.drop_of_length_le (by omega)]
      simp [markAll]
    | succ q ih =>
      intro i k xs hx hi hd h0 hc
      have e : (nl : Int) * ((q + 1 : Nat) : Int) = (nl : Int) * (q : Int) + nl := by rw [Int.natCast_add, Int.mul_add]; simp
      have hq : 0 ≤ (nl : Int) * (q : Int) := Int.mul_nonneg (by omega) (by omega)
      rw [e] at hc ⊢
      rw [show q + 1 + 1 + M = (q + 1 + M) + 1 from by omega, hs i _ k xs (by omega) hx h0 (by omega), ih (i + 1) _ _ (by simpa using hx) (by omega) (by omega) (by omega) (by omega), drop_at xs i d (by omega), markAll, hw]
      have hi2 : i < xs.length := by omega
      rw [List.take_add_one, List.getElem?_set_self hi2, List.take_set_of_le (Nat.le_refl i), List.drop_set_of_lt (by omega)]
      simp
      omega
  rw [hM]
  have := h1 a.length 0 k a rfl (by omega) (by omega) h0 hc
  simpa using this
theorem markAll_nth {α : Type} (m1 : Int → α → α) (w1 : α → Nat) (nl : Nat) (hw : ∀ x, w1 x = nl) (d : α) : ∀ (a : List α) (k : Int) (i : Nat), i < a.length → nthI (markAll m1 w1 k a) (i : Int) d = m1 (k + (nl : Int) * (i : Int)) (nthI a (i : Int) d)
  | [], _, i, h => by simp at h
  | x :: xs, k, 0, _ => by simp [markAll, nthI]
  | x :: xs, k, i + 1, h => by
    have := markAll_nth m1 w1 nl hw d xs (k + (w1 x : Int)) i (by simpa using h)
    rw [nthI_nat, nthI_nat] at this ⊢
    rw [markAll, List.getD_cons_succ, List.getD_cons_succ, this, hw, Int.natCast_add, Int.mul_add]
    congr 1
    omega
theorem heldLoop {α : Type} (F : Nat → Int → Int → Option Int) (m1 : Int → α → α) (w1 : α → Nat) (a : List α) (d : α) (nl : Nat) (hw : ∀ x, w1 x = nl) (k : Int) (h0 : 0 ≤ k) (hn : a.length ≤ 1000000000000) (hc : k + (nl : Int) * (a.length : Int) ≤ 1000000000000)
    (hs : ∀ (i m : Nat) (j : Int), i < a.length → 0 ≤ j → j + (nl : Int) ≤ 1000000000000 → nthI (markAll m1 w1 k a) (i : Int) d = m1 j (nthI a (i : Int) d) → F (m + 1) j (i : Int) = F m (j + (nl : Int)) ((i + 1 : Nat) : Int))
    (he : ∀ (m : Nat) (j : Int), F (m + 1) j (a.length : Int) = some j) : F fu k 0 = some (k + (nl : Int) * (a.length : Int)) := by
  obtain ⟨M, hM⟩ := fu_ge a.length hn
  have h1 : ∀ q i : Nat, i ≤ a.length → a.length - i = q → F (q + 1 + M) (k + (nl : Int) * (i : Int)) (i : Int) = some (k + (nl : Int) * (a.length : Int)) := by
    intro q
    induction q with
    | zero =>
      intro i hi hd
      obtain rfl : i = a.length := by omega
      rw [show 0 + 1 + M = M + 1 from by omega, he]
    | succ q ih =>
      intro i hi hd
      have e : (nl : Int) * ((i + 1 : Nat) : Int) = (nl : Int) * (i : Int) + nl := by rw [Int.natCast_add, Int.mul_add]; simp
      have hq : 0 ≤ (nl : Int) * (i : Int) := Int.mul_nonneg (by omega) (by omega)
      have hle : (nl : Int) * ((i + 1 : Nat) : Int) ≤ (nl : Int) * (a.length : Int) := Int.mul_le_mul_of_nonneg_left (by omega) (by omega)
      rw [show q + 1 + 1 + M = (q + 1 + M) + 1 from by omega, hs i _ _ (by omega) (by omega) (by omega) (markAll_nth m1 w1 nl hw d a k i (by omega))]
      have := ih (i + 1) (by omega) (by omega)
      rw [e] at this
      rw [show k + (nl : Int) * (i : Int) + (nl : Int) = k + ((nl : Int) * (i : Int) + (nl : Int)) from by omega]
      exact this
  rw [hM]
  have := h1 a.length 0 (by omega) (by omega)
  simpa using this
/-! A loop that asks something of each element -/
theorem allLoop (F : Nat → Int → Option Bool) (n : Nat) (p : Nat → Prop) [DecidablePred p] (e : Bool) (hn : n ≤ 1000000000000)
    (hs : ∀ (i m : Nat), i < n → F (m + 1) (i : Int) = bif decide (p i) then F m ((i + 1 : Nat) : Int) else some false)
    (he : ∀ m : Nat, F (m + 1) (n : Int) = some e) : F fu 0 = some (decide (∀ j, j < n → p j) && e) := by
  obtain ⟨M, hM⟩ := fu_ge n hn
  have h1 : ∀ k i : Nat, i + k = n → (∀ j, j < i → p j) → F (k + 1 + M) (i : Int) = some (decide (∀ j, j < n → p j) && e) := by
    intro k
    induction k with
    | zero =>
      intro i hi hp
      obtain rfl : i = n := by omega
      rw [show 0 + 1 + M = M + 1 from by omega, he, decide_eq_true hp]
      rfl
    | succ k ih =>
      intro i hi hp
      rw [show k + 1 + 1 + M = (k + 1 + M) + 1 from by omega, hs i _ (by omega)]
      by_cases c : p i
      · rw [cdp c]
        refine ih (i + 1) (by omega) fun j hj => ?_
        rcases Nat.lt_or_ge j i with h | h
        · exact hp j h
        · obtain rfl : j = i := by omega
          exact c
      · rw [cdn c, decide_eq_false fun h => c (h i (by omega))]
        rfl
  rw [hM]
  exact h1 n 0 (by omega) fun j hj => by omega
/-! Comparing -/
def cmpF (a b : Int) : Int := if a < b then -1 else if b < a then 1 else 0
theorem allLoopK (F : Nat → Int → Option Bool) (n : Nat) (p : Nat → Prop) [DecidablePred p] (E : Option Bool) (hn : n ≤ 1000000000000)
    (hs : ∀ (i m : Nat), i < n → F (m + 1) (i : Int) = bif decide (p i) then F m ((i + 1 : Nat) : Int) else some false)
    (he : ∀ m : Nat, F (m + 1) (n : Int) = E) : F fu 0 = if ∀ j, j < n → p j then E else some false := by
  obtain ⟨M, hM⟩ := fu_ge n hn
  have h1 : ∀ k i : Nat, i + k = n → (∀ j, j < i → p j) → F (k + 1 + M) (i : Int) = if ∀ j, j < n → p j then E else some false := by
    intro k
    induction k with
    | zero =>
      intro i hi hp
      obtain rfl : i = n := by omega
      rw [show 0 + 1 + M = M + 1 from by omega, he, if_pos hp]
    | succ k ih =>
      intro i hi hp
      rw [show k + 1 + 1 + M = (k + 1 + M) + 1 from by omega, hs i _ (by omega)]
      by_cases c : p i
      · rw [cdp c]
        refine ih (i + 1) (by omega) fun j hj => ?_
        rcases Nat.lt_or_ge j i with h | h
        · exact hp j h
        · obtain rfl : j = i := by omega
          exact c
      · rw [cdn c, if_neg fun h => c (h i (by omega))]
  rw [hM]
  exact h1 n 0 (by omega) fun j hj => by omega
/-! Marking, elements of any weight -/
theorem dlt0 {x : Int} (h : 0 ≤ x) : decide (x < 0) = false := decide_eq_false (by omega)
theorem markLoopW {α : Type} (F : Nat → Int → Int → List α → Option (Int × List α)) (m1 : Int → α → α) (w1 : α → Nat) (a : List α) (d : α) {k : Int} (h0 : 0 ≤ k) (hn : a.length ≤ 1000000000000) (hc : k + (((a.map w1).sum : Nat) : Int) ≤ 1000000000000)
    (hs : ∀ (i m : Nat) (k : Int) (xs : List α), i < a.length → xs.length = a.length → 0 ≤ k → k + ((w1 (nthI xs (i : Int) d) : Nat) : Int) ≤ 1000000000000 → F (m + 1) k (i : Int) xs = F m (k + ((w1 (nthI xs (i : Int) d) : Nat) : Int)) ((i + 1 : Nat) : Int) (xs.set i (m1 k (nthI xs (i : Int) d))))
    (he : ∀ (m : Nat) (k : Int) (xs : List α), xs.length = a.length → F (m + 1) k (a.length : Int) xs = some (k, xs)) : F fu k 0 a = some (k + (((a.map w1).sum : Nat) : Int), markAll m1 w1 k a) := by
  obtain ⟨M, hM⟩ := fu_ge a.length hn
  have h1 : ∀ q i : Nat, ∀ (k : Int) (xs : List α), xs.length = a.length → i ≤ a.length → a.length - i = q → 0 ≤ k → k + ((((xs.drop i).map w1).sum : Nat) : Int) ≤ 1000000000000 → F (q + 1 + M) k (i : Int) xs = some (k + ((((xs.drop i).map w1).sum : Nat) : Int), xs.take i ++ markAll m1 w1 k (xs.drop i)) := by
    intro q
    induction q with
    | zero =>
      intro i k xs hx hi hd h0 hc
      obtain rfl : i = a.length := by omega
      rw [show 0 + 1 + M = M + 1 from by omega, he _ _ _ hx, List.take_of_length_le (by omega), List.drop_of_length_le (by omega)]
      simp [markAll]
    | succ q ih =>
      intro i k xs hx hi hd h0 hc
      have hi2 : i < xs.length := by omega
      rw [drop_at xs i d hi2, List.map_cons, List.sum_cons] at hc ⊢
      rw [show q + 1 + 1 + M = (q + 1 + M) + 1 from by omega, hs i _ k xs (by omega) hx h0 (by omega)]
      have e : (xs.set i (m1 k (nthI xs (i : Int) d))).drop (i + 1) = xs.drop (i + 1) := List.drop_set_of_lt (by omega)
      rw [ih (i + 1) _ _ (by simpa using hx) (by omega) (by omega) (by omega) (by rw [e]; omega), e, markAll]
      rw [List.take_add_one, List.getElem?_set_self hi2, List.take_set_of_le (Nat.le_refl i)]
      simp
      omega
  rw [hM]
  have := h1 a.length 0 k a rfl (by omega) (by omega) h0 hc
  simpa using this
theorem markAll_nthW {α : Type} (m1 : Int → α → α) (w1 : α → Nat) (d : α) : ∀ (a : List α) (k : Int) (i : Nat), i < a.length → nthI (markAll m1 w1 k a) (i : Int) d = m1 (k + ((((a.take i).map w1).sum : Nat) : Int)) (nthI a (i : Int) d)
  | [], _, i, h => by simp at h
  | x :: xs, k, 0, _ => by simp [markAll, nthI]
  | x :: xs, k, i + 1, h => by
    have := markAll_nthW m1 w1 d xs (k + (w1 x : Int)) i (by simpa using h)
    rw [nthI_nat, nthI_nat] at this ⊢
    rw [markAll, List.getD_cons_succ, List.getD_cons_succ, this, List.take_succ_cons, List.map_cons, List.sum_cons]
    congr 1
    omega
theorem sum_take_succ {α : Type} (w1 : α → Nat) (d : α) (a : List α) (i : Nat) (h : i < a.length) : ((a.take (i + 1)).map w1).sum = ((a.take i).map w1).sum + w1 (nthI a (i : Int) d) := by
  rw [List.take_add_one, List.map_append, List.sum_append, nthI_nat, List.getD_eq_getElem?_getD, List.getElem?_eq_getElem h]
  simp
theorem sum_take_le {α : Type} (w1 : α → Nat) (a : List α) (i : Nat) : ((a.take i).map w1).sum ≤ (a.map w1).sum := by
  have : (a.map w1).sum = ((a.take i).map w1).sum + ((a.drop i).map w1).sum := by rw [← List.sum_append, ← List.map_append, List.take_append_drop]
  omega
theorem heldLoopW {α : Type} (F : Nat → Int → Int → Option Int) (m1 : Int → α → α) (w1 : α → Nat) (a : List α) (d : α) (k : Int) (h0 : 0 ≤ k) (hn : a.length ≤ 1000000000000) (hc : k + (((a.map w1).sum : Nat) : Int) ≤ 1000000000000)
    (hs : ∀ (i m : Nat) (j : Int), i < a.length → 0 ≤ j → j + ((w1 (nthI a (i : Int) d) : Nat) : Int) ≤ 1000000000000 → nthI (markAll m1 w1 k a) (i : Int) d = m1 j (nthI a (i : Int) d) → F (m + 1) j (i : Int) = F m (j + ((w1 (nthI a (i : Int) d) : Nat) : Int)) ((i + 1 : Nat) : Int))
    (he : ∀ (m : Nat) (j : Int), F (m + 1) j (a.length : Int) = some j) : F fu k 0 = some (k + (((a.map w1).sum : Nat) : Int)) := by
  obtain ⟨M, hM⟩ := fu_ge a.length hn
  have h1 : ∀ q i : Nat, i ≤ a.length → a.length - i = q → F (q + 1 + M) (k + ((((a.take i).map w1).sum : Nat) : Int)) (i : Int) = some (k + (((a.map w1).sum : Nat) : Int)) := by
    intro q
    induction q with
    | zero =>
      intro i hi hd
      obtain rfl : i = a.length := by omega
      rw [show 0 + 1 + M = M + 1 from by omega, he, List.take_of_length_le (Nat.le_refl _)]
    | succ q ih =>
      intro i hi hd
      have hi2 : i < a.length := by omega
      have e := sum_take_succ w1 d a i hi2
      have hle := sum_take_le w1 a (i + 1)
      rw [show q + 1 + 1 + M = (q + 1 + M) + 1 from by omega, hs i _ _ hi2 (by omega) (by omega) (markAll_nthW m1 w1 d a k i hi2)]
      have := ih (i + 1) (by omega) (by omega)
      rw [e] at this
      rw [show k + ((((a.take i).map w1).sum : Nat) : Int) + ((w1 (nthI a (i : Int) d) : Nat) : Int) = k + ((((a.take i).map w1).sum + w1 (nthI a (i : Int) d) : Nat) : Int) from by omega]
      exact this
  rw [hM]
  have := h1 a.length 0 (by omega) (by omega)
  simpa using this
def bInt (x : Int) : Prop := (Lit.int .i64 x).wf = true
theorem eqIntS_eq (a b : List Int) (hc : a.length ≤ 1000000000000) : L.eqIntS a b = some (decide (a = b)) := by
  have hn := hc
  unfold L.eqIntS
  refine eqTop a b ?_
  intro hl
  refine eqLoop (fun m i => L.eqIntS_l0 m (fun y => some y) (some true) i a b) a b (0 : Int) hl hn (fun i m hi => ?_) (fun m => ?_)
  · show L.eqIntS_l0 (m + 1) _ _ _ _ _ = bif _ then L.eqIntS_l0 m _ _ _ _ _ else _
    rw [L.eqIntS_l0, cdp (by omega), cdp (by omega), cdp (by omega), cneI, w64 (by omega) (by omega)]
    rfl
  · show L.eqIntS_l0 (m + 1) _ _ _ _ _ = _
    rw [L.eqIntS_l0, cdn (by omega)]
def bBool (x : Bool) : Prop := True
abbrev TPane : Type := Int × Int × Int × Int × Int × Int × List Int × Bool
instance : DecidableEq TPane := (@instDecidableEqProd _ _ (inferInstance : DecidableEq Int) (@instDecidableEqProd _ _ (inferInstance : DecidableEq Int) (@instDecidableEqProd _ _ (inferInstance : DecidableEq Int) (@instDecidableEqProd _ _ (inferInstance : DecidableEq Int) (@instDecidableEqProd _ _ (inferInstance : DecidableEq Int) (@instDecidableEqProd _ _ (inferInstance : DecidableEq Int) (@instDecidableEqProd _ _ (inferInstance : DecidableEq (List Int)) (inferInstance : DecidableEq Bool))))))))
def cPane (x : TPane) : Nat := (x.2.2.2.2.2.2.1).length
def cPaneS (a : List TPane) : Nat := a.length + (a.map cPane).sum
theorem cPaneS_mem {a : List TPane} {x : TPane} (h : x ∈ a) : cPane x ≤ cPaneS a := by
  have := sum_mem (List.mem_map.2 ⟨x, h, rfl⟩ : cPane x ∈ a.map cPane)
  unfold cPaneS; omega
def bPane (x : TPane) : Prop := ((Lit.int .i64 x.1).wf = true ∧ (Lit.int .i64 x.2.1).wf = true ∧ (Lit.int .i64 x.2.2.1).wf = true ∧ (Lit.int .i64 x.2.2.2.1).wf = true ∧ (Lit.int .i64 x.2.2.2.2.1).wf = true ∧ (Lit.int .i64 x.2.2.2.2.2.1).wf = true ∧ (x.2.2.2.2.2.2.1.length ≤ maxLen ∧ ∀ y ∈ x.2.2.2.2.2.2.1, bInt y) ∧ True)
theorem eqPane_eq (x y : TPane) (hc : cPane x ≤ 1000000000000) : L.eqPane x.1 x.2.1 x.2.2.1 x.2.2.2.1 x.2.2.2.2.1 x.2.2.2.2.2.1 x.2.2.2.2.2.2.2 y.1 y.2.1 y.2.2.1 y.2.2.2.1 y.2.2.2.2.1 y.2.2.2.2.2.1 y.2.2.2.2.2.2.2 x.2.2.2.2.2.2.1 y.2.2.2.2.2.2.1 = some (decide (x = y)) := by
  unfold cPane at hc
  unfold L.eqPane
  simp only [eqIntS_eq x.2.2.2.2.2.2.1 y.2.2.2.2.2.2.1 (by omega), cneI, cneB, cnotb, cbeB, cds, cdt, Option.bind_some]
  exact sdec ⟨fun h => (Prod.ext h.1 (Prod.ext h.2.1 (Prod.ext h.2.2.1 (Prod.ext h.2.2.2.1 (Prod.ext h.2.2.2.2.1 (Prod.ext h.2.2.2.2.2.1 (Prod.ext h.2.2.2.2.2.2.1 h.2.2.2.2.2.2.2))))))), by rintro rfl; exact ⟨rfl, rfl, rfl, rfl, rfl, rfl, rfl, rfl⟩⟩
abbrev TItem : Type := Int × Int × TPane
instance : DecidableEq TItem := (@instDecidableEqProd _ _ (inferInstance : DecidableEq Int) (@instDecidableEqProd _ _ (inferInstance : DecidableEq Int) (inferInstance : DecidableEq TPane)))
def cItem (x : TItem) : Nat := (x.2.2.2.2.2.2.2.2.1).length
def cItemS (a : List TItem) : Nat := a.length + (a.map cItem).sum
theorem cItemS_mem {a : List TItem} {x : TItem} (h : x ∈ a) : cItem x ≤ cItemS a := by
  have := sum_mem (List.mem_map.2 ⟨x, h, rfl⟩ : cItem x ∈ a.map cItem)
  unfold cItemS; omega
def bItem (x : TItem) : Prop := ((Lit.int .i64 x.1).wf = true ∧ (Lit.int .i64 x.2.1).wf = true ∧ ((Lit.int .i64 x.2.2.1).wf = true ∧ (Lit.int .i64 x.2.2.2.1).wf = true ∧ (Lit.int .i64 x.2.2.2.2.1).wf = true ∧ (Lit.int .i64 x.2.2.2.2.2.1).wf = true ∧ (Lit.int .i64 x.2.2.2.2.2.2.1).wf = true ∧ (Lit.int .i64 x.2.2.2.2.2.2.2.1).wf = true ∧ (x.2.2.2.2.2.2.2.2.1.length ≤ maxLen ∧ ∀ y ∈ x.2.2.2.2.2.2.2.2.1, bInt y) ∧ True))
theorem eqItem_eq (x y : TItem) (hc : cItem x ≤ 1000000000000) : L.eqItem x.1 x.2.1 x.2.2.1 x.2.2.2.1 x.2.2.2.2.1 x.2.2.2.2.2.1 x.2.2.2.2.2.2.1 x.2.2.2.2.2.2.2.1 x.2.2.2.2.2.2.2.2.2 y.1 y.2.1 y.2.2.1 y.2.2.2.1 y.2.2.2.2.1 y.2.2.2.2.2.1 y.2.2.2.2.2.2.1 y.2.2.2.2.2.2.2.1 y.2.2.2.2.2.2.2.2.2 x.2.2.2.2.2.2.2.2.1 y.2.2.2.2.2.2.2.2.1 = some (decide (x = y)) := by
  unfold cItem at hc
  unfold L.eqItem
  simp only [eqPane_eq x.2.2 y.2.2 (by unfold cPane; omega), cneI, cneB, cnotb, cbeB, cds, cdt, Option.bind_some]
  exact sdec ⟨fun h => (Prod.ext h.1 (Prod.ext h.2.1 h.2.2)), by rintro rfl; exact ⟨rfl, rfl, rfl⟩⟩
theorem eqItemS_eq (a b : List TItem) (hc : cItemS a ≤ 1000000000000) : L.eqItemS a b = some (decide (a = b)) := by
  have hn : a.length ≤ 1000000000000 := by unfold cItemS at hc; omega
  unfold L.eqItemS
  refine eqTop a b ?_
  intro hl
  refine eqLoop (fun m i => L.eqItemS_l0 m (fun y => some y) (some true) i a b) a b ((0 : Int), ((0 : Int), ((0 : Int), ((0 : Int), ((0 : Int), ((0 : Int), ((0 : Int), ((0 : Int), ([], false))))))))) hl hn (fun i m hi => ?_) (fun m => ?_)
  · show L.eqItemS_l0 (m + 1) _ _ _ _ _ = bif _ then L.eqItemS_l0 m _ _ _ _ _ else _
    rw [L.eqItemS_l0, cdp (by omega), cdp (by omega), cdp (by omega), eqItem_eq (nthI a (i : Int) ((0 : Int), ((0 : Int), ((0 : Int), ((0 : Int), ((0 : Int), ((0 : Int), ((0 : Int), ((0 : Int), ([], false)))))))))) (nthI b (i : Int) ((0 : Int), ((0 : Int), ((0 : Int), ((0 : Int), ((0 : Int), ((0 : Int), ((0 : Int), ((0 : Int), ([], false)))))))))) (Nat.le_trans (cItemS_mem (nthI_mem a i _ hi)) hc), Option.bind_some, cnotb, w64 (by omega) (by omega)]
    rfl
  · show L.eqItemS_l0 (m + 1) _ _ _ _ _ = _
    rw [L.eqItemS_l0, cdn (by omega)]
abbrev TRec : Type := Int × Int × Int
instance : DecidableEq TRec := (@instDecidableEqProd _ _ (inferInstance : DecidableEq Int) (@instDecidableEqProd _ _ (inferInstance : DecidableEq Int) (inferInstance : DecidableEq Int)))
def bRec (x : TRec) : Prop := ((Lit.int .i64 x.1).wf = true ∧ (Lit.int .i64 x.2.1).wf = true ∧ (Lit.int .i64 x.2.2).wf = true)
theorem eqRec_eq (x y : TRec) : L.eqRec x.1 x.2.1 x.2.2 y.1 y.2.1 y.2.2 = some (decide (x = y)) := by
  unfold L.eqRec
  simp only [cneI, cneB, cnotb, cbeB, cds, cdt, Option.bind_some]
  exact sdec ⟨fun h => (Prod.ext h.1 (Prod.ext h.2.1 h.2.2)), by rintro rfl; exact ⟨rfl, rfl, rfl⟩⟩
theorem eqRecS_eq (a b : List TRec) (hc : a.length ≤ 1000000000000) : L.eqRecS a b = some (decide (a = b)) := by
  have hn := hc
  unfold L.eqRecS
  refine eqTop a b ?_
  intro hl
  refine eqLoop (fun m i => L.eqRecS_l0 m (fun y => some y) (some true) i a b) a b ((0 : Int), ((0 : Int), (0 : Int))) hl hn (fun i m hi => ?_) (fun m => ?_)
  · show L.eqRecS_l0 (m + 1) _ _ _ _ _ = bif _ then L.eqRecS_l0 m _ _ _ _ _ else _
    rw [L.eqRecS_l0, cdp (by omega), cdp (by omega), cdp (by omega), eqRec_eq (nthI a (i : Int) ((0 : Int), ((0 : Int), (0 : Int)))) (nthI b (i : Int) ((0 : Int), ((0 : Int), (0 : Int)))), Option.bind_some, cnotb, w64 (by omega) (by omega)]
    rfl
  · show L.eqRecS_l0 (m + 1) _ _ _ _ _ = _
    rw [L.eqRecS_l0, cdn (by omega)]
abbrev TBox : Type := Int × Int × Int × Int × List TItem × List TRec
instance : DecidableEq TBox := (@instDecidableEqProd _ _ (inferInstance : DecidableEq Int) (@instDecidableEqProd _ _ (inferInstance : DecidableEq Int) (@instDecidableEqProd _ _ (inferInstance : DecidableEq Int) (@instDecidableEqProd _ _ (inferInstance : DecidableEq Int) (@instDecidableEqProd _ _ (inferInstance : DecidableEq (List TItem)) (inferInstance : DecidableEq (List TRec)))))))
def cBox (x : TBox) : Nat := cItemS x.2.2.2.2.1 + (x.2.2.2.2.2).length
def cBoxS (a : List TBox) : Nat := a.length + (a.map cBox).sum
theorem cBoxS_mem {a : List TBox} {x : TBox} (h : x ∈ a) : cBox x ≤ cBoxS a := by
  have := sum_mem (List.mem_map.2 ⟨x, h, rfl⟩ : cBox x ∈ a.map cBox)
  unfold cBoxS; omega
def bBox (x : TBox) : Prop := ((Lit.int .i64 x.1).wf = true ∧ (Lit.int .i64 x.2.1).wf = true ∧ (Lit.int .i64 x.2.2.1).wf = true ∧ (Lit.int .i64 x.2.2.2.1).wf = true ∧ (x.2.2.2.2.1.length ≤ maxLen ∧ ∀ y ∈ x.2.2.2.2.1, bItem y) ∧ (x.2.2.2.2.2.length ≤ maxLen ∧ ∀ y ∈ x.2.2.2.2.2, bRec y))
theorem eqBox_eq (x y : TBox) (hc : cBox x ≤ 1000000000000) : L.eqBox x.1 x.2.1 x.2.2.1 x.2.2.2.1 y.1 y.2.1 y.2.2.1 y.2.2.2.1 x.2.2.2.2.1 x.2.2.2.2.2 y.2.2.2.2.1 y.2.2.2.2.2 = some (decide (x = y)) := by
  unfold cBox at hc
  unfold L.eqBox
  simp only [eqItemS_eq x.2.2.2.2.1 y.2.2.2.2.1 (by omega), eqRecS_eq x.2.2.2.2.2 y.2.2.2.2.2 (by omega), cneI, cneB, cnotb, cbeB, cds, cdt, Option.bind_some]
  exact sdec ⟨fun h => (Prod.ext h.1 (Prod.ext h.2.1 (Prod.ext h.2.2.1 (Prod.ext h.2.2.2.1 (Prod.ext h.2.2.2.2.1 h.2.2.2.2.2))))), by rintro rfl; exact ⟨rfl, rfl, rfl, rfl, rfl, rfl⟩⟩
def m1Int (k : Int) (_ : Int) : Int := k
def w1Int (_ : Int) : Nat := 1
def mIntS (k : Int) (a : List Int) : List Int := markAll m1Int w1Int k a
def wIntS (a : List Int) : Nat := (a.map w1Int).sum
theorem wIntS_len (a : List Int) : wIntS a = 1 * a.length := by unfold wIntS; exact sum_const _ a _ (fun _ => rfl)
theorem markIntS_eq (k : Int) (a : List Int) (h0 : 0 ≤ k) (hc : k + 1 * (a.length : Int) ≤ 1000000000000) : L.markIntS k a = some (k + 1 * (a.length : Int), mIntS k a) := by
  unfold L.markIntS mIntS
  refine (markLoop (fun m k i xs => L.markIntS_l0 m (fun y12 y13 => some (y12, y13)) k i xs) m1Int w1Int a (0 : Int) 1 (fun _ => rfl) h0 (by omega) hc (fun i m k xs hi hx h0 h1 => ?_) (fun m k xs hx => ?_)).trans rfl
  · show L.markIntS_l0 (m + 1) _ _ _ _ = L.markIntS_l0 m _ _ _ _
    have hdec : decide ((0 : Int) ≤ (i : Int) ∧ (i : Int) < (xs.length : Int)) = true := by simp; omega
    rw [L.markIntS_l0, cdp (by omega)]
    simp (disch := omega) only [hdec, cond_true, w64, u8_mod, u64w, List.length_set, nthI_set, List.set_set, Int.toNat_natCast, cmod3, Int.add_assoc, Int.reduceAdd, if_false, reduceIte]
    rfl
  · show L.markIntS_l0 (m + 1) _ _ _ _ = _
    rw [L.markIntS_l0, cdn (by omega)]
def m1Item (k : Int) (x : TItem) : TItem := (k, (k + 1, (k + 2, (k + 3, (k + 4, (k + 5, (k + 6, (k + 7, (mIntS (k + 8) x.2.2.2.2.2.2.2.2.1, (Int.tmod (k + (8 + 1 * ((x.2.2.2.2.2.2.2.2.1).length : Int))) 3 == 0))))))))))
def w1Item (x : TItem) : Nat := 9 + 1 * (x.2.2.2.2.2.2.2.2.1).length
def mItemS (k : Int) (a : List TItem) : List TItem := markAll m1Item w1Item k a
def wItemS (a : List TItem) : Nat := (a.map w1Item).sum
theorem markItemS_eq (k : Int) (a : List TItem) (h0 : 0 ≤ k) (hn : a.length ≤ 1000000000000) (hc : k + ((wItemS a : Nat) : Int) ≤ 1000000000000) : L.markItemS k a = some (k + ((wItemS a : Nat) : Int), mItemS k a) := by
  unfold L.markItemS mItemS wItemS
  refine (markLoopW (fun m k i xs => L.markItemS_l0 m (fun y12 y13 => some (y12, y13)) k i xs) m1Item w1Item a ((0 : Int), ((0 : Int), ((0 : Int), ((0 : Int), ((0 : Int), ((0 : Int), ((0 : Int), ((0 : Int), ([], false))))))))) h0 hn (by unfold wItemS at hc; exact hc) (fun i m k xs hi hx h0 h1 => ?_) (fun m k xs hx => ?_)).trans rfl
  · show L.markItemS_l0 (m + 1) _ _ _ _ = L.markItemS_l0 m _ _ _ _
    have hdec : decide ((0 : Int) ≤ (i : Int) ∧ (i : Int) < (xs.length : Int)) = true := by simp; omega
    have e : k + ((w1Item (nthI xs (i : Int) ((0 : Int), ((0 : Int), ((0 : Int), ((0 : Int), ((0 : Int), ((0 : Int), ((0 : Int), ((0 : Int), ([], false)))))))))) : Nat) : Int) = k + (8 + (1 * (((nthI xs (i : Int) ((0 : Int), ((0 : Int), ((0 : Int), ((0 : Int), ((0 : Int), ((0 : Int), ((0 : Int), ((0 : Int), ([], false)))))))))).2.2.2.2.2.2.2.2.1).length : Int) + 1)) := by unfold w1Item; omega
    have e2 : IntKind.i64.wrap ((i : Int) + 1) = ((i + 1 : Nat) : Int) := by rw [w64 (by omega) (by omega)]; omega
    rw [e] at h1 ⊢
    unfold m1Item
    rw [L.markItemS_l0, cdp (by omega)]
    skip
    simp (disch := omega) only [hdec, cond_true, e2, w64, u8_mod, u64w, List.length_set, nthI_set, List.set_set, Int.toNat_natCast, cmod3, Int.add_assoc, Int.reduceAdd, if_false, reduceIte, Option.bind_some, Int.add_zero, cond_false, markIntS_eq]
    all_goals rfl
  · show L.markItemS_l0 (m + 1) _ _ _ _ = _
    rw [L.markItemS_l0, cdn (by omega)]
def m1Rec (k : Int) (x : TRec) : TRec := (k, (k + 1, k + 2))
def w1Rec (x : TRec) : Nat := 3
def mRecS (k : Int) (a : List TRec) : List TRec := markAll m1Rec w1Rec k a
def wRecS (a : List TRec) : Nat := (a.map w1Rec).sum
theorem wRecS_len (a : List TRec) : wRecS a = 3 * a.length := by unfold wRecS; exact sum_const _ a _ (fun _ => rfl)
theorem markRecS_eq (k : Int) (a : List TRec) (h0 : 0 ≤ k) (hc : k + 3 * (a.length : Int) ≤ 1000000000000) : L.markRecS k a = some (k + 3 * (a.length : Int), mRecS k a) := by
  unfold L.markRecS mRecS
  refine (markLoop (fun m k i xs => L.markRecS_l0 m (fun y12 y13 => some (y12, y13)) k i xs) m1Rec w1Rec a ((0 : Int), ((0 : Int), (0 : Int))) 3 (fun _ => rfl) h0 (by omega) hc (fun i m k xs hi hx h0 h1 => ?_) (fun m k xs hx => ?_)).trans rfl
  · show L.markRecS_l0 (m + 1) _ _ _ _ = L.markRecS_l0 m _ _ _ _
    have hdec : decide ((0 : Int) ≤ (i : Int) ∧ (i : Int) < (xs.length : Int)) = true := by simp; omega
    rw [L.markRecS_l0, cdp (by omega)]
    simp (disch := omega) only [hdec, cond_true, w64, u8_mod, u64w, List.length_set, nthI_set, List.set_set, Int.toNat_natCast, cmod3, Int.add_assoc, Int.reduceAdd, if_false, reduceIte]
    rfl
  · show L.markRecS_l0 (m + 1) _ _ _ _ = _
    rw [L.markRecS_l0, cdn (by omega)]
theorem markBox_eq (x : TBox) (k : Int) (h0 : 0 ≤ k) (hn1 : (x.2.2.2.2.1).length ≤ 1000000000000) (hc : k + (((wItemS x.2.2.2.2.1 : Nat) : Int) + 3 * ((x.2.2.2.2.2).length : Int)) ≤ 1000000000000) : L.markBox x.1 x.2.1 x.2.2.1 x.2.2.2.1 k x.2.2.2.2.1 x.2.2.2.2.2 = some (k + (((wItemS x.2.2.2.2.1 : Nat) : Int) + 3 * ((x.2.2.2.2.2).length : Int)), (mItemS (k) x.2.2.2.2.1), (mRecS (k + ((wItemS x.2.2.2.2.1 : Nat) : Int)) x.2.2.2.2.2)) := by
  unfold L.markBox
  simp (disch := omega) only [Int.add_assoc, Option.bind_some, dlt0, cond_false, markItemS_eq, markRecS_eq]
theorem heldIntS_eq (k : Int) (a : List Int) (h0 : 0 ≤ k) (hc : k + 1 * (a.length : Int) ≤ 1000000000000) : L.heldIntS k (mIntS k a) = some (k + 1 * (a.length : Int)) := by
  unfold L.heldIntS
  refine heldLoop (fun m q i => L.heldIntS_l0 m (fun y12 y13 => some y13) (fun y14 => some y14) q i (mIntS k a)) m1Int w1Int a (0 : Int) 1 (fun _ => rfl) k h0 (by omega) hc (fun i m j hi h0 h1 hx => ?_) (fun m j => ?_)
  all_goals (have hl : (mIntS k a).length = a.length := markAll_length _ _ _ _)
  · show L.heldIntS_l0 (m + 1) _ _ _ _ _ = L.heldIntS_l0 m _ _ _ _ _
    have hx : nthI (mIntS k a) (i : Int) (0 : Int) = _ := hx
    have hdec : decide ((0 : Int) ≤ (i : Int) ∧ (i : Int) < ((mIntS k a).length : Int)) = true := by rw [hl]; simp; omega
    rw [L.heldIntS_l0, cdp (by omega)]
    simp (disch := omega) only [hdec, hx, m1Int, cond_true, cond_false, w64, u8_mod, u64w, bne_self_eq_false, cmod3, Int.add_assoc, Int.reduceAdd, if_false, reduceIte, beq_self_eq_true, Bool.not_true]
    rfl
  · show L.heldIntS_l0 (m + 1) _ _ _ _ _ = _
    rw [L.heldIntS_l0, cdn (by rw [hl]; omega)]
theorem heldItemS_eq (k : Int) (a : List TItem) (h0 : 0 ≤ k) (hn : a.length ≤ 1000000000000) (hc : k + ((wItemS a : Nat) : Int) ≤ 1000000000000) : L.heldItemS k (mItemS k a) = some (k + ((wItemS a : Nat) : Int)) := by
  unfold L.heldItemS wItemS
  refine heldLoopW (fun m q i => L.heldItemS_l0 m (fun y12 y13 => some y13) (fun y14 => some y14) q i (mItemS k a)) m1Item w1Item a ((0 : Int), ((0 : Int), ((0 : Int), ((0 : Int), ((0 : Int), ((0 : Int), ((0 : Int), ((0 : Int), ([], false))))))))) k h0 hn (by unfold wItemS at hc; exact hc) (fun i m j hi h0 h1 hx => ?_) (fun m j => ?_)
  all_goals (have hl : (mItemS k a).length = a.length := markAll_length _ _ _ _)
  · show L.heldItemS_l0 (m + 1) _ _ _ _ _ = L.heldItemS_l0 m _ _ _ _ _
    have hx : nthI (mItemS k a) (i : Int) ((0 : Int), ((0 : Int), ((0 : Int), ((0 : Int), ((0 : Int), ((0 : Int), ((0 : Int), ((0 : Int), ([], false))))))))) = _ := hx
    have hdec : decide ((0 : Int) ≤ (i : Int) ∧ (i : Int) < ((mItemS k a).length : Int)) = true := by rw [hl]; simp; omega
    have e : j + ((w1Item (nthI a (i : Int) ((0 : Int), ((0 : Int), ((0 : Int), ((0 : Int), ((0 : Int), ((0 : Int), ((0 : Int), ((0 : Int), ([], false)))))))))) : Nat) : Int) = j + (8 + (1 * (((nthI a (i : Int) ((0 : Int), ((0 : Int), ((0 : Int), ((0 : Int), ((0 : Int), ((0 : Int), ((0 : Int), ((0 : Int), ([], false)))))))))).2.2.2.2.2.2.2.2.1).length : Int) + 1)) := by unfold w1Item; omega
    have e2 : IntKind.i64.wrap ((i : Int) + 1) = ((i + 1 : Nat) : Int) := by rw [w64 (by omega) (by omega)]; omega
    rw [e] at h1 ⊢
    rw [L.heldItemS_l0, cdp (by rw [hl]; omega)]
    simp (disch := omega) only [hdec, hx, e2, m1Item, cond_true, cond_false, w64, u8_mod, u64w, bne_self_eq_false, cmod3, Int.add_assoc, Int.reduceAdd, if_false, reduceIte, beq_self_eq_true, Bool.not_true, dlt0, Option.bind_some, Int.add_zero, heldIntS_eq]
    all_goals rfl
  · show L.heldItemS_l0 (m + 1) _ _ _ _ _ = _
    rw [L.heldItemS_l0, cdn (by rw [hl]; omega)]
theorem heldRecS_eq (k : Int) (a : List TRec) (h0 : 0 ≤ k) (hc : k + 3 * (a.length : Int) ≤ 1000000000000) : L.heldRecS k (mRecS k a) = some (k + 3 * (a.length : Int)) := by
  unfold L.heldRecS
  refine heldLoop (fun m q i => L.heldRecS_l0 m (fun y12 y13 => some y13) (fun y14 => some y14) q i (mRecS k a)) m1Rec w1Rec a ((0 : Int), ((0 : Int), (0 : Int))) 3 (fun _ => rfl) k h0 (by omega) hc (fun i m j hi h0 h1 hx => ?_) (fun m j => ?_)
  all_goals (have hl : (mRecS k a).length = a.length := markAll_length _ _ _ _)
  · show L.heldRecS_l0 (m + 1) _ _ _ _ _ = L.heldRecS_l0 m _ _ _ _ _
    have hx : nthI (mRecS k a) (i : Int) ((0 : Int), ((0 : Int), (0 : Int))) = _ := hx
    have hdec : decide ((0 : Int) ≤ (i : Int) ∧ (i : Int) < ((mRecS k a).length : Int)) = true := by rw [hl]; simp; omega
    rw [L.heldRecS_l0, cdp (by omega)]
    simp (disch := omega) only [hdec, hx, m1Rec, cond_true, cond_false, w64, u8_mod, u64w, bne_self_eq_false, cmod3, Int.add_assoc, Int.reduceAdd, if_false, reduceIte, beq_self_eq_true, Bool.not_true]
    rfl
  · show L.heldRecS_l0 (m + 1) _ _ _ _ _ = _
    rw [L.heldRecS_l0, cdn (by rw [hl]; omega)]
theorem heldBox_eq (x : TBox) (k : Int) (h0 : 0 ≤ k) (hn1 : (x.2.2.2.2.1).length ≤ 1000000000000) (hc : k + (((wItemS x.2.2.2.2.1 : Nat) : Int) + 3 * ((x.2.2.2.2.2).length : Int)) ≤ 1000000000000) : L.heldBox x.1 x.2.1 x.2.2.1 x.2.2.2.1 k (mItemS (k) x.2.2.2.2.1) (mRecS (k + ((wItemS x.2.2.2.2.1 : Nat) : Int)) x.2.2.2.2.2) = some (k + (((wItemS x.2.2.2.2.1 : Nat) : Int) + 3 * ((x.2.2.2.2.2).length : Int))) := by
  unfold L.heldBox
  simp (disch := omega) only [Int.add_assoc, Option.bind_some, dlt0, cond_false, heldItemS_eq, heldRecS_eq]
theorem in_eq (a b c : Int) : I.in a b c = some (decide (b ≤ a ∧ a ≤ c)) := by unfold I.in; rw [cond_some, cond_and, dand]

theorem FnExactBoxNew : StmtFnExactBoxNew.Stmt := by
  intro c u hc hu
  have h1 : ∀ a b : Int, L.eqBox a b 0 0 a b 0 0 [] [] [] [] = some true := fun a b => (eqBox_eq (a, b, 0, 0, [], []) (a, b, 0, 0, [], []) (Nat.zero_le _)).trans (congrArg some (decide_eq_true rfl))
  have h2 : ∀ a b : Int, L.markBox a b 0 0 1 [] [] = some (1, [], []) := fun a b => markBox_eq (a, b, 0, 0, [], []) 1 (by omega) (Nat.zero_le _) (show (1 : Int) ≤ 1000000000000 by omega)
  have h3 : ∀ a b : Int, L.heldBox a b 0 0 1 [] [] = some 1 := fun a b => heldBox_eq (a, b, 0, 0, [], []) 1 (by omega) (Nat.zero_le _) (show (1 : Int) ≤ 1000000000000 by omega)
  have d1 : decide ((1 : Int) < 0) = false := rfl
  unfold L.FnExactBoxNew S.BoxNew I.BoxNew S.l10Cap I.isCap
  simp only [in_eq, cds, Option.bind_some]
  by_cases c1 : 1 ≤ c ∧ c ≤ 50
  · by_cases c2 : 1 ≤ u ∧ u ≤ 50
    · simp only [decide_eq_true c1, decide_eq_true c2, Bool.not_true, Bool.not_false, cond_true, cond_false, Option.bind_some, h1, h2, h3, d1, beq_self_eq_true, bne_self_eq_false]
    · simp only [decide_eq_true c1, decide_eq_false c2, Bool.not_true, Bool.not_false, cond_true, cond_false, Option.bind_some, h1, h2, h3, d1, beq_self_eq_true, bne_self_eq_false]
  · simp only [decide_eq_false c1, Bool.not_true, Bool.not_false, cond_true, cond_false, Option.bind_some, h1, h2, h3, d1, beq_self_eq_true, bne_self_eq_false]
end Go.Proofs.Ytflagchmcnfigaa.Pure
