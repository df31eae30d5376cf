/- LogOf of the program returns what the reference's returns. For every argument. -/
import Derived.Test.YtflagchmcnfigaaStmtFnExactLogOf
import Derived.Laws.BitsLemmas
import Derived.Laws.BitsAllLaws
import Derived.Laws.Bits64b
namespace Go.Proofs.Ytflagchmcnfigaa.Pure
open Go Go.RowKit Go.Proofs.Ytflagchmcnfigaa.Run Go.Proofs.Ytflagchmcnfigaa.StmtFnExactLogOf Go.Proofs.YtflagchmcnfigaaW.PrintWords Go.Proofs.Ytflagchmcnfigaa.Vm
set_option linter.unusedVariables false
set_option linter.unusedSimpArgs false
/-! General words -/
theorem cdp {α : Type} {p : Prop} [Decidable p] {a b : α} (h : p) : (bif decide p then a else b) = a := by simp [h]
theorem cdn {α : Type} {p : Prop} [Decidable p] {a b : α} (h : ¬ p) : (bif decide p then a else b) = b := by simp [h]
theorem cnp {α : Type} {x y : Int} {a b : α} (h : x ≠ y) : (bif (x != y) then a else b) = a := by rw [show (x != y) = true from by simpa using h]; rfl
theorem cnn {α : Type} {x y : Int} {a b : α} (h : x = y) : (bif (x != y) then a else b) = b := by simp [bne, h]
theorem cep {α : Type} {x y : Int} {a b : α} (h : x = y) : (bif (x == y) then a else b) = a := by simp [h]
theorem cen {α : Type} {x y : Int} {a b : α} (h : x ≠ y) : (bif (x == y) then a else b) = b := by rw [show (x == y) = false from by simpa using h]; rfl
theorem cond_some {α : Type} (c : Bool) (x y : α) : (bif c then some x else some y) = some (bif c then x else y) := by cases c <;> rfl
theorem cond_and (c x : Bool) : (bif c then x else false) = (c && x) := by cases c <;> rfl
theorem dand (p q : Prop) [Decidable p] [Decidable q] : (decide p && decide q) = decide (p ∧ q) := by by_cases p <;> by_cases q <;> simp_all
theorem w64 {n : Int} (h0 : -9223372036854775808 ≤ n) (h1 : n < 9223372036854775808) : IntKind.i64.wrap n = n := by rw [IntKind.wrap_i64]; omega
theorem u64_mod (n : Int) : IntKind.u64.wrap n = n % 18446744073709551616 := by simp [IntKind.wrap, IntKind.bits, IntKind.signed]
theorem u64w {n : Int} (h0 : 0 ≤ n) (h1 : n < 18446744073709551616) : IntKind.u64.wrap n = n := by rw [u64_mod]; omega
theorem u8_mod (n : Int) : IntKind.u8.wrap n = n % 256 := by simp [IntKind.wrap, IntKind.bits, IntKind.signed]
theorem i64_wf {n : Int} (h : (Lit.int .i64 n).wf = true) : -9223372036854775808 ≤ n ∧ n < 9223372036854775808 := by
  simp only [Lit.wf, IntKind.min, IntKind.max, IntKind.signed, IntKind.bits, Bool.and_eq_true, decide_eq_true_eq, if_true] at h
  omega
theorem u8_wf {n : Int} (h : (Lit.int .u8 n).wf = true) : 0 ≤ n ∧ n < 256 := by
  simp [Lit.wf, IntKind.min, IntKind.max, IntKind.signed, IntKind.bits, Bool.and_eq_true] at h
  omega
theorem tmod_nat (n : Int) (m : Int) (h : 0 ≤ n) : Int.tmod n m = n % m := Int.tmod_eq_emod_of_nonneg h
theorem tdiv_nat (n : Int) (m : Int) (h : 0 ≤ n) : Int.tdiv n m = n / m := Int.tdiv_eq_ediv_of_nonneg h
theorem bits_or_128 (x : Int) (h0 : 0 ≤ x) (h1 : x < 256) : Go.bits .or .u8 x 128 = 128 + x % 128 := by
  obtain ⟨n, rfl⟩ := Int.eq_ofNat_of_zero_le h0
  have hn : n < 256 := by omega
  have key : ∀ m : Fin 256, Go.bits .or .u8 ((m.val : Nat) : Int) 128 = 128 + ((m.val : Nat) : Int) % 128 := by decide +kernel
  exact key ⟨n, hn⟩
theorem bits_xor_zero (x : Int) (h0 : 0 ≤ x) (h1 : x < 18446744073709551616) : Go.bits .xor .u64 x 0 = x := by
  obtain ⟨n, rfl⟩ := Int.eq_ofNat_of_zero_le h0
  have hn : n < 18446744073709551616 := by omega
  show IntKind.u64.wrap (((BitVec.ofInt 64 ((n : Nat) : Int)) ^^^ (BitVec.ofInt 64 0)).toNat : Int) = n
  have e : (BitVec.ofInt 64 0) = 0#64 := by decide
  rw [e, BitVec.xor_zero, BitVec.ofInt_natCast, BitVec.toNat_ofNat, u64_mod]
  omega
theorem bits_xor_ones (x : Int) (h0 : 0 ≤ x) (h1 : x < 18446744073709551616) : Go.bits .xor .u64 x 18446744073709551615 = 18446744073709551615 - x := by
  obtain ⟨n, rfl⟩ := Int.eq_ofNat_of_zero_le h0
  have hn : n < 18446744073709551616 := by omega
  show IntKind.u64.wrap (((BitVec.ofInt 64 ((n : Nat) : Int)) ^^^ (BitVec.ofInt 64 18446744073709551615)).toNat : Int) = 18446744073709551615 - n
  have e : (BitVec.ofInt 64 18446744073709551615) = BitVec.allOnes 64 := by decide
  rw [e, BitVec.xor_allOnes, BitVec.toNat_not, BitVec.ofInt_natCast, BitVec.toNat_ofNat, u64_mod]
  omega
theorem fu_ge (d : Nat) (h : d ≤ 1000000000000) : ∃ m, fu = d + 1 + m := ⟨fu - d - 1, by rw [fu_eq]; omega⟩
theorem nthI_nat {α : Type} (xs : List α) (i : Nat) (d : α) : nthI xs (i : Int) d = xs.getD i d := rfl
theorem drop_nth (xs : List Int) (i : Nat) (h : i < xs.length) : xs.drop i = nthI xs (i : Int) 0 :: xs.drop (i + 1) := by
  rw [nthI_nat, List.getD_eq_getElem?_getD, List.getElem?_eq_getElem h]; exact List.drop_eq_getElem_cons h
/-! Loops over lists -/
theorem nthI_mem {α : Type} (a : List α) (i : Nat) (d : α) (h : i < a.length) : nthI a (i : Int) d ∈ a := by
  rw [nthI_nat, List.getD_eq_getElem?_getD, List.getElem?_eq_getElem h]; simp
theorem nthI_set {α : Type} (xs : List α) (i : Nat) (y d : α) (h : i < xs.length) : nthI (xs.set i y) (i : Int) d = y := by
  rw [nthI_nat, List.getD_eq_getElem?_getD, List.getElem?_set_self h]; rfl
theorem drop_at {α : Type} (xs : List α) (i : Nat) (d : α) (h : i < xs.length) : xs.drop i = nthI xs (i : Int) d :: xs.drop (i + 1) := by
  rw [nthI_nat, List.getD_eq_getElem?_getD, List.getElem?_eq_getElem h]; exact List.drop_eq_getElem_cons h
theorem cneI {x y : Int} {k : Option Bool} : (bif (x != y) then some false else k) = bif decide (x = y) then k else some false := by
  by_cases h : x = y
  · rw [cnn h, cdp h]
  · rw [cnp h, cdn h]
theorem cneB {x y : Bool} {k : Option Bool} : (bif (!(x == y)) then some false else k) = bif decide (x = y) then k else some false := by
  cases x <;> cases y <;> rfl
theorem cnotb {r : Bool} {k : Option Bool} : (bif (!r) then some false else k) = bif r then k else some false := by cases r <;> rfl
theorem cds {p q : Prop} [Decidable p] [Decidable q] : (bif decide p then some (decide q) else some false) = some (decide (p ∧ q)) := by
  by_cases p <;> by_cases q <;> simp_all
theorem cdt {p : Prop} [Decidable p] : (bif decide p then some true else some false) = some (decide p) := by by_cases p <;> simp_all
theorem sdec {p q : Prop} [Decidable p] [Decidable q] (h : q ↔ p) : some (decide q) = some (decide p) := congrArg some (decide_eq_decide.mpr h)
theorem sfal {p : Prop} [Decidable p] (h : ¬ p) : some false = some (decide p) := by rw [decide_eq_false h]
theorem stru {p : Prop} [Decidable p] (h : p) : some true = some (decide p) := by rw [decide_eq_true h]
theorem sbool {b : Bool} {p : Prop} [Decidable p] (h : b = true ↔ p) : some b = some (decide p) := by
  by_cases c : p
  · rw [h.2 c, decide_eq_true c]
  · rw [decide_eq_false c, Bool.eq_false_iff.2 fun e => c (h.1 e)]
theorem sum_mem {l : List Nat} {x : Nat} (h : x ∈ l) : x ≤ l.sum := by
  induction l with
  | nil => cases h
  | cons y l ih =>
    rw [List.sum_cons]
    rcases List.mem_cons.1 h with rfl | h
    · omega
    · have := ih h; omega
theorem toLoop {α : Type} (F : Nat → Int → List α → Option (List α)) (a : List α) (d : α) (hn : a.length ≤ 1000000000000)
    (hs : ∀ (i m : Nat) (xs : List α), i < a.length → xs.length = a.length → F (m + 1) (i : Int) xs = F m ((i + 1 : Nat) : Int) (xs.set i (nthI a (i : Int) d)))
    (he : ∀ (m : Nat) (xs : List α), F (m + 1) (a.length : Int) xs = some xs) (xs : List α) (hx : xs.length = a.length) : F fu 0 xs = some a := by
  obtain ⟨M, hM⟩ := fu_ge a.length hn
  have h1 : ∀ k i : Nat, ∀ xs : List α, xs.length = a.length → i ≤ a.length → a.length - i = k → xs.take i = a.take i → F (k + 1 + M) (i : Int) xs = some a := by
    intro k
    induction k with
    | zero =>
      intro i xs hx hi hd ht
      obtain rfl : i = a.length := by omega
      rw [List.take_of_length_le (by omega), List.take_of_length_le (by omega)] at ht
      subst ht
      rw [show 0 + 1 + M = M + 1 from by omega]
      exact he M xs
    | succ k ih =>
      intro i xs hx hi hd ht
      have hi2 : i < a.length := by omega
      rw [show k + 1 + 1 + M = (k + 1 + M) + 1 from by omega, hs i _ xs hi2 hx]
      refine ih (i + 1) _ (by simpa using hx) (by omega) (by omega) ?_
      rw [nthI_nat, List.getD_eq_getElem?_getD, List.getElem?_eq_getElem hi2, Option.getD_some, List.take_add_one, List.take_add_one, List.take_set_of_le (Nat.le_refl i), ht]
      simp [show i < xs.length from by omega, hi2]
  rw [hM]
  exact h1 a.length 0 xs hx (by omega) (by omega) (by simp)
theorem eqLoop {α : Type} [DecidableEq α] (F : Nat → Int → Option Bool) (a b : List α) (d : α) (hl : a.length = b.length) (hn : a.length ≤ 1000000000000)
    (hs : ∀ (i m : Nat), i < a.length → F (m + 1) (i : Int) = bif decide (nthI a (i : Int) d = nthI b (i : Int) d) then F m ((i + 1 : Nat) : Int) else some false)
    (he : ∀ m : Nat, F (m + 1) (a.length : Int) = some true) : F fu 0 = some (decide (a = b)) := by
  obtain ⟨M, hM⟩ := fu_ge a.length hn
  have h1 : ∀ k i : Nat, i ≤ a.length → a.length - i = k → F (k + 1 + M) (i : Int) = some (decide (a.drop i = b.drop i)) := by
    intro k
    induction k with
    | zero =>
      intro i hi hd
      obtain rfl : i = a.length := by omega
      rw [show 0 + 1 + M = M + 1 from by omega, he, List.drop_of_length_le (by omega), List.drop_of_length_le (by omega)]
      simp
    | succ k ih =>
      intro i hi hd
      rw [show k + 1 + 1 + M = (k + 1 + M) + 1 from by omega, hs i _ (by omega), drop_at a i d (by omega), drop_at b i d (by omega), ih (i + 1) (by omega) (by omega)]
      by_cases e : nthI a (i : Int) d = nthI b (i : Int) d
      · rw [cdp e, e]
        generalize nthI b (i : Int) d = x
        simp
      · rw [cdn e]
        generalize nthI b (i : Int) d = x at *
        generalize nthI a (i : Int) d = y at *
        simp [e]
  rw [hM]
  simpa using h1 a.length 0 (by omega) (by omega)
theorem eqTop {α : Type} [DecidableEq α] (a b : List α) {k : Option Bool} (h : a.length = b.length → k = some (decide (a = b))) : (bif ((a.length : Int) != (b.length : Int)) then some false else k) = some (decide (a = b)) := by
  by_cases e : a.length = b.length
  · rw [cnn (by omega), h e]
  · rw [cnp (by omega), decide_eq_false (fun h => e (by rw [h]))]
theorem szLoop {α : Type} (F : Nat → Int → Int → Option Int) (a : List α) (d : α) (c : α → Nat) (hn : a.length ≤ 1000000000000)
    (hs : ∀ (i m : Nat) (l : Int), i < a.length → 0 ≤ l → l ≤ 1000000000000 → F (m + 1) l (i : Int) = if (c (nthI a (i : Int) d) : Int) ≤ l then F m (l - (c (nthI a (i : Int) d) : Int)) ((i + 1 : Nat) : Int) else some (-1))
    (he : ∀ (m : Nat) (l : Int), F (m + 1) l (a.length : Int) = some l) (l : Int) (h0 : 0 ≤ l) (h1 : l ≤ 1000000000000) : F fu l 0 = some (if (((a.map c).sum : Nat) : Int) ≤ l then l - (((a.map c).sum : Nat) : Int) else -1) := by
  obtain ⟨M, hM⟩ := fu_ge a.length hn
  have h2 : ∀ k i : Nat, ∀ l : Int, 0 ≤ l → l ≤ 1000000000000 → i ≤ a.length → a.length - i = k → F (k + 1 + M) l (i : Int) = some (if ((((a.drop i).map c).sum : Nat) : Int) ≤ l then l - ((((a.drop i).map c).sum : Nat) : Int) else -1) := by
    intro k
    induction k with
    | zero =>
      intro i l h0 h1 hi hd
      obtain rfl : i = a.length := by omega
      rw [show 0 + 1 + M = M + 1 from by omega, he, List.drop_of_length_le (by omega)]
      simp [h0]
    | succ k ih =>
      intro i l h0 h1 hi hd
      rw [show k + 1 + 1 + M = (k + 1 + M) + 1 from by omega, hs i _ l (by omega) h0 h1, drop_at a i d (by omega), List.map_cons, List.sum_cons]
      by_cases e : (c (nthI a (i : Int) d) : Int) ≤ l
      · rw [if_pos e, ih (i + 1) _ (by omega) (by omega) (by omega) (by omega)]
        congr 1
        split <;> split <;> omega
      · rw [if_neg e, if_neg (by omega)]
  rw [hM]
  simpa using h2 a.length 0 l h0 h1 (by omega) (by omega)
/-! Marking -/
def markAll {α : Type} (m1 : Int → α → α) (w1 : α → Nat) : Int → List α → List α
  | _, [] => []
  | k, x :: xs => m1 k x :: markAll m1 w1 (k + (w1 x : Int)) xs
theorem markAll_length {α : Type} (m1 : Int → α → α) (w1 : α → Nat) : ∀ (a : List α) (k : Int), (markAll m1 w1 k a).length = a.length
  | [], _ => rfl
  | x :: xs, k => by simp [markAll, markAll_length m1 w1 xs]
theorem sum_const {α : Type} (w : α → Nat) (a : List α) (n : Nat) (h : ∀ x, w x = n) : (a.map w).sum = n * a.length := by
  induction a with
  | nil => simp
  | cons x xs ih => simp [h x, ih, Nat.mul_add]; omega
theorem cmod3 : decide ((3 : Int) = 0) = false := rfl
theorem markLoop {α : Type} (F : Nat → Int → Int → List α → Option (Int × List α)) (m1 : Int → α → α) (w1 : α → Nat) (a : List α) (d : α) (nl : Nat) (hw : ∀ x, w1 x = nl) {k : Int} (h0 : 0 ≤ k) (hn : a.length ≤ 1000000000000) (hc : k + (nl : Int) * (a.length : Int) ≤ 1000000000000)
    (hs : ∀ (i m : Nat) (k : Int) (xs : List α), i < a.length → xs.length = a.length → 0 ≤ k → k + (nl : Int) ≤ 1000000000000 → F (m + 1) k (i : Int) xs = F m (k + (nl : Int)) ((i + 1 : Nat) : Int) (xs.set i (m1 k (nthI xs (i : Int) d))))
    (he : ∀ (m : Nat) (k : Int) (xs : List α), xs.length = a.length → F (m + 1) k (a.length : Int) xs = some (k, xs)) : F fu k 0 a = some (k + (nl : Int) * (a.length : Int), markAll m1 w1 k a) := by
  obtain ⟨M, hM⟩ := fu_ge a.length hn
  have h1 : ∀ q i : Nat, ∀ (k : Int) (xs : List α), xs.length = a.length → i ≤ a.length → a.length - i = q → 0 ≤ k → k + (nl : Int) * (q : Int) ≤ 1000000000000 → F (q + 1 + M) k (i : Int) xs = some (k + (nl : Int) * (q : Int), xs.take i ++ markAll m1 w1 k (xs.drop i)) := by
    intro q
    induction q with
    | zero =>
      intro i k xs hx hi hd h0 hc
      obtain rfl : i = a.length := by omega
      rw [show 0 + 1 + M = M + 1 from by omega, he _ _ _ hx, List.take_of_length_le (by omega), List.drop_of_length_le (by omega)]
      simp [markAll]
    | succ q ih =>
      intro i k xs hx hi hd h0 hc
      have e : (nl : Int) * ((q + 1 : Nat) : Int) = (nl : Int) * (q : Int) + nl := by rw [Int.natCast_add, Int.mul_add]; simp
      have hq : 0 ≤ (nl : Int) * (q : Int) := Int.mul_nonneg (by omega) (by omega)
      rw [e] at hc ⊢
      rw [show q + 1 + 1 + M = (q + 1 + M) + 1 from by omega, hs i _ k xs (by omega) hx h0 (by omega), ih (i + 1) _ _ (by simpa using hx) (by omega) (by omega) (by omega) (by omega), drop_at xs i d (by omega), markAll, hw]
      have hi2 : i < xs.length := by omega
      rw [List.take_add_one, List.getElem?_set_self hi2, List.take_set_of_le (Nat.le_refl i), List.drop_set_of_lt (by omega)]
      simp
      omega
  rw [hM]
  have := h1 a.length 0 k a rfl (by omega) (by omega) h0 hc
  simpa using this
theorem markAll_nth {α : Type} (m1 : Int → α → α) (w1 : α → Nat) (nl : Nat) (hw : ∀ x, w1 x = nl) (d : α) : ∀ (a : List α) (k : Int) (i : Nat), i < a.length → nthI (markAll m1 w1 k a) (i : Int) d = m1 (k + (nl : Int) * (i : Int)) (nthI a (i : Int) d)
  | [], _, i, h => by simp at h
  | x :: xs, k, 0, _ => by simp [markAll, nthI]
  | x :: xs, k, i + 1, h => by
    have := markAll_nth m1 w1 nl hw d xs (k + (w1 x : Int)) i (by simpa using h)
    rw [nthI_nat, nthI_nat] at this ⊢
    rw [markAll, List.getD_cons_succ, List.getD_cons_succ, this, hw, Int.natCast_add, Int.mul_add]
    congr 1
    omega
theorem heldLoop {α : Type} (F : Nat → Int → Int → Option Int) (m1 : Int → α → α) (w1 : α → Nat) (a : List α) (d : α) (nl : Nat) (hw : ∀ x, w1 x = nl) (k : Int) (h0 : 0 ≤ k) (hn : a.length ≤ 1000000000000) (hc : k + (nl : Int) * (a.length : Int) ≤ 1000000000000)
    (hs : ∀ (i m : Nat) (j : Int), i < a.length → 0 ≤ j → j + (nl : Int) ≤ 1000000000000 → nthI (markAll m1 w1 k a) (i : Int) d = m1 j (nthI a (i : Int) d) → F (m + 1) j (i : Int) = F m (j + (nl : Int)) ((i + 1 : Nat) : Int))
    (he : ∀ (m : Nat) (j : Int), F (m + 1) j (a.length : Int) = some j) : F fu k 0 = some (k + (nl : Int) * (a.length : Int)) := by
  obtain ⟨M, hM⟩ := fu_ge a.length hn
  have h1 : ∀ q i : Nat, i ≤ a.length → a.length - i = q → F (q + 1 + M) (k + (nl : Int) * (i : Int)) (i : Int) = some (k + (nl : Int) * (a.length : Int)) := by
    intro q
    induction q with
    | zero =>
      intro i hi hd
      obtain rfl : i = a.length := by omega
      rw [show 0 + 1 + M = M + 1 from by omega, he]
    | succ q ih =>
      intro i hi hd
      have e : (nl : Int) * ((i + 1 : Nat) : Int) = (nl : Int) * (i : Int) + nl := by rw [Int.natCast_add, Int.mul_add]; simp
      have hq : 0 ≤ (nl : Int) * (i : Int) := Int.mul_nonneg (by omega) (by omega)
      have hle : (nl : Int) * ((i + 1 : Nat) : Int) ≤ (nl : Int) * (a.length : Int) := Int.mul_le_mul_of_nonneg_left (by omega) (by omega)
      rw [show q + 1 + 1 + M = (q + 1 + M) + 1 from by omega, hs i _ _ (by omega) (by omega) (by omega) (markAll_nth m1 w1 nl hw d a k i (by omega))]
      have := ih (i + 1) (by omega) (by omega)
      rw [e] at this
      rw [show k + (nl : Int) * (i : Int) + (nl : Int) = k + ((nl : Int) * (i : Int) + (nl : Int)) from by omega]
      exact this
  rw [hM]
  have := h1 a.length 0 (by omega) (by omega)
  simpa using this
def bInt (x : Int) : Prop := (Lit.int .i64 x).wf = true
abbrev TElem : Type := Int × Int × Int × Int
instance : DecidableEq TElem := (@instDecidableEqProd _ _ (inferInstance : DecidableEq Int) (@instDecidableEqProd _ _ (inferInstance : DecidableEq Int) (@instDecidableEqProd _ _ (inferInstance : DecidableEq Int) (inferInstance : DecidableEq Int))))
def bElem (x : TElem) : Prop := ((Lit.int .i64 x.1).wf = true ∧ (Lit.int .i64 x.2.1).wf = true ∧ (Lit.int .i64 x.2.2.1).wf = true ∧ (Lit.int .i64 x.2.2.2).wf = true)
abbrev TPunct : Type := Int × Int × Int × Int
instance : DecidableEq TPunct := (@instDecidableEqProd _ _ (inferInstance : DecidableEq Int) (@instDecidableEqProd _ _ (inferInstance : DecidableEq Int) (@instDecidableEqProd _ _ (inferInstance : DecidableEq Int) (inferInstance : DecidableEq Int))))
def bPunct (x : TPunct) : Prop := ((Lit.int .i64 x.1).wf = true ∧ (Lit.int .i64 x.2.1).wf = true ∧ (Lit.int .i64 x.2.2.1).wf = true ∧ (Lit.int .i64 x.2.2.2).wf = true)
abbrev TOp : Type := Int × (TElem) × (TPunct) × Int × Int
instance : DecidableEq TOp := (@instDecidableEqProd _ _ (inferInstance : DecidableEq Int) (@instDecidableEqProd _ _ (inferInstance : DecidableEq TElem) (@instDecidableEqProd _ _ (inferInstance : DecidableEq TPunct) (@instDecidableEqProd _ _ (inferInstance : DecidableEq Int) (inferInstance : DecidableEq Int)))))
def bOp (x : TOp) : Prop := ((Lit.int .i64 x.1).wf = true ∧ ((Lit.int .i64 x.2.1.1).wf = true ∧ (Lit.int .i64 x.2.1.2.1).wf = true ∧ (Lit.int .i64 x.2.1.2.2.1).wf = true ∧ (Lit.int .i64 x.2.1.2.2.2).wf = true) ∧ ((Lit.int .i64 x.2.2.1.1).wf = true ∧ (Lit.int .i64 x.2.2.1.2.1).wf = true ∧ (Lit.int .i64 x.2.2.1.2.2.1).wf = true ∧ (Lit.int .i64 x.2.2.1.2.2.2).wf = true) ∧ (Lit.int .i64 x.2.2.2.1).wf = true ∧ (Lit.int .i64 x.2.2.2.2).wf = true)
theorem szOpS_eq (left : Int) (a : List TOp) (h0 : 0 ≤ left) (h1 : left ≤ 1000000000000) (hm : a.length ≤ maxLen ∧ ∀ x ∈ a, bOp x) : L.szOpS left a = some (if ((a.length : Nat) : Int) ≤ left then left - ((a.length : Nat) : Int) else -1) := by
  have hl : a.length ≤ 9223372036854775807 := hm.1
  unfold L.szOpS
  simp only []
  rw [w64 (by omega) (by omega)]
  by_cases h : ((a.length : Nat) : Int) ≤ left
  · rw [cdn (by omega), if_pos h]
  · rw [cdp (by omega), if_neg h]
theorem toElem_eq (x : TElem) : L.toElem x.1 x.2.1 x.2.2.1 x.2.2.2 = some (x.1, x.2.1, x.2.2.1, x.2.2.2) := by
  rfl
theorem toPunct_eq (x : TPunct) : L.toPunct x.1 x.2.1 x.2.2.1 x.2.2.2 = some (x.1, x.2.1, x.2.2.1, x.2.2.2) := by
  rfl
theorem toOp_eq (x : TOp) : L.toOp x.1 x.2.1.1 x.2.1.2.1 x.2.1.2.2.1 x.2.1.2.2.2 x.2.2.1.1 x.2.2.1.2.1 x.2.2.1.2.2.1 x.2.2.1.2.2.2 x.2.2.2.1 x.2.2.2.2 = some (x.1, x.2.1.1, x.2.1.2.1, x.2.1.2.2.1, x.2.1.2.2.2, x.2.2.1.1, x.2.2.1.2.1, x.2.2.1.2.2.1, x.2.2.1.2.2.2, x.2.2.2.1, x.2.2.2.2) := by
  rfl
theorem toOpS_eq (a : List TOp) (hc : a.length ≤ 1000000000000) : L.toOpS a = some a := by
  have hn := hc
  unfold L.toOpS
  simp only []
  rw [cdp (by omega)]
  refine toLoop (fun m i xs => L.toOpS_l0 m (fun y => some y) i a xs) a ((0 : Int), (((0 : Int), ((0 : Int), ((0 : Int), (0 : Int)))), (((0 : Int), ((0 : Int), ((0 : Int), (0 : Int)))), ((0 : Int), (0 : Int))))) hn (fun i m xs hi hx => ?_) (fun m xs => ?_) _ (by simp)
  · show L.toOpS_l0 (m + 1) _ _ _ _ = L.toOpS_l0 m _ _ _ _
    rw [L.toOpS_l0, cdp (by omega), cdp (by omega), toOp_eq (nthI a (i : Int) ((0 : Int), (((0 : Int), ((0 : Int), ((0 : Int), (0 : Int)))), (((0 : Int), ((0 : Int), ((0 : Int), (0 : Int)))), ((0 : Int), (0 : Int)))))), Option.bind_some, cdp (by omega), w64 (by omega) (by omega)]
    rfl
  · show L.toOpS_l0 (m + 1) _ _ _ _ = _
    rw [L.toOpS_l0, cdn (by omega)]
def bByte (x : Int) : Prop := (Lit.int .u8 x).wf = true
theorem eqByteS_eq (a b : List Int) (hc : a.length ≤ 1000000000000) : L.eqByteS a b = some (decide (a = b)) := by
  have hn := hc
  unfold L.eqByteS
  refine eqTop a b ?_
  intro hl
  refine eqLoop (fun m i => L.eqByteS_l0 m (fun y => some y) (some true) i a b) a b (0 : Int) hl hn (fun i m hi => ?_) (fun m => ?_)
  · show L.eqByteS_l0 (m + 1) _ _ _ _ _ = bif _ then L.eqByteS_l0 m _ _ _ _ _ else _
    rw [L.eqByteS_l0, cdp (by omega), cdp (by omega), cdp (by omega), cneI, w64 (by omega) (by omega)]
    rfl
  · show L.eqByteS_l0 (m + 1) _ _ _ _ _ = _
    rw [L.eqByteS_l0, cdn (by omega)]
theorem eqElem_eq (x y : TElem) : L.eqElem x.1 x.2.1 x.2.2.1 x.2.2.2 y.1 y.2.1 y.2.2.1 y.2.2.2 = some (decide (x = y)) := by
  unfold L.eqElem
  simp only [cneI, cneB, cnotb, cds, cdt, Option.bind_some]
  exact congrArg some (decide_eq_decide.mpr (by simp only [Prod.ext_iff, and_assoc]))
theorem eqPunct_eq (x y : TPunct) : L.eqPunct x.1 x.2.1 x.2.2.1 x.2.2.2 y.1 y.2.1 y.2.2.1 y.2.2.2 = some (decide (x = y)) := by
  unfold L.eqPunct
  simp only [cneI, cneB, cnotb, cds, cdt, Option.bind_some]
  exact congrArg some (decide_eq_decide.mpr (by simp only [Prod.ext_iff, and_assoc]))
theorem eqOp_eq (x y : TOp) : L.eqOp x.1 x.2.1.1 x.2.1.2.1 x.2.1.2.2.1 x.2.1.2.2.2 x.2.2.1.1 x.2.2.1.2.1 x.2.2.1.2.2.1 x.2.2.1.2.2.2 x.2.2.2.1 x.2.2.2.2 y.1 y.2.1.1 y.2.1.2.1 y.2.1.2.2.1 y.2.1.2.2.2 y.2.2.1.1 y.2.2.1.2.1 y.2.2.1.2.2.1 y.2.2.1.2.2.2 y.2.2.2.1 y.2.2.2.2 = some (decide (x = y)) := by
  unfold L.eqOp
  simp only [eqElem_eq x.2.1 y.2.1, eqPunct_eq x.2.2.1 y.2.2.1, cneI, cneB, cnotb, cds, cdt, Option.bind_some]
  exact congrArg some (decide_eq_decide.mpr (by simp only [Prod.ext_iff, and_assoc]))
theorem eqOpS_eq (a b : List TOp) (hc : a.length ≤ 1000000000000) : L.eqOpS a b = some (decide (a = b)) := by
  have hn := hc
  unfold L.eqOpS
  refine eqTop a b ?_
  intro hl
  refine eqLoop (fun m i => L.eqOpS_l0 m (fun y => some y) (some true) i a b) a b ((0 : Int), (((0 : Int), ((0 : Int), ((0 : Int), (0 : Int)))), (((0 : Int), ((0 : Int), ((0 : Int), (0 : Int)))), ((0 : Int), (0 : Int))))) hl hn (fun i m hi => ?_) (fun m => ?_)
  · show L.eqOpS_l0 (m + 1) _ _ _ _ _ = bif _ then L.eqOpS_l0 m _ _ _ _ _ else _
    rw [L.eqOpS_l0, cdp (by omega), cdp (by omega), cdp (by omega), eqOp_eq (nthI a (i : Int) ((0 : Int), (((0 : Int), ((0 : Int), ((0 : Int), (0 : Int)))), (((0 : Int), ((0 : Int), ((0 : Int), (0 : Int)))), ((0 : Int), (0 : Int)))))) (nthI b (i : Int) ((0 : Int), (((0 : Int), ((0 : Int), ((0 : Int), (0 : Int)))), (((0 : Int), ((0 : Int), ((0 : Int), (0 : Int)))), ((0 : Int), (0 : Int)))))), Option.bind_some, cnotb, w64 (by omega) (by omega)]
    rfl
  · show L.eqOpS_l0 (m + 1) _ _ _ _ _ = _
    rw [L.eqOpS_l0, cdn (by omega)]
def m1Op (k : Int) (x : TOp) : TOp := (k, ((k + 1, (k + 2, (k + 3, k + 4))), ((k + 5, (k + 6, (k + 7, k + 8))), (k + 9, k + 10))))
def w1Op (x : TOp) : Nat := 11
def mOpS (k : Int) (a : List TOp) : List TOp := markAll m1Op w1Op k a
def wOpS (a : List TOp) : Nat := (a.map w1Op).sum
theorem wOpS_len (a : List TOp) : wOpS a = 11 * a.length := by unfold wOpS; exact sum_const _ a _ (fun _ => rfl)
theorem markOpS_eq (k : Int) (a : List TOp) (h0 : 0 ≤ k) (hc : k + 11 * (a.length : Int) ≤ 1000000000000) : L.markOpS k a = some (k + 11 * (a.length : Int), mOpS k a) := by
  unfold L.markOpS mOpS
  refine (markLoop (fun m k i xs => L.markOpS_l0 m (fun y12 y13 => some (y12, y13)) k i xs) m1Op w1Op a ((0 : Int), (((0 : Int), ((0 : Int), ((0 : Int), (0 : Int)))), (((0 : Int), ((0 : Int), ((0 : Int), (0 : Int)))), ((0 : Int), (0 : Int))))) 11 (fun _ => rfl) h0 (by omega) hc (fun i m k xs hi hx h0 h1 => ?_) (fun m k xs hx => ?_)).trans rfl
  · show L.markOpS_l0 (m + 1) _ _ _ _ = L.markOpS_l0 m _ _ _ _
    have hdec : decide ((0 : Int) ≤ (i : Int) ∧ (i : Int) < (xs.length : Int)) = true := by simp; omega
    rw [L.markOpS_l0, cdp (by omega)]
    simp (disch := omega) only [hdec, cond_true, w64, u8_mod, u64w, List.length_set, nthI_set, List.set_set, Int.toNat_natCast, cmod3, Int.add_assoc, Int.reduceAdd, if_false, reduceIte]
    rfl
  · show L.markOpS_l0 (m + 1) _ _ _ _ = _
    rw [L.markOpS_l0, cdn (by omega)]
def m1Byte (k : Int) (_ : Int) : Int := k % 256
def w1Byte (_ : Int) : Nat := 1
def mByteS (k : Int) (a : List Int) : List Int := markAll m1Byte w1Byte k a
def wByteS (a : List Int) : Nat := (a.map w1Byte).sum
theorem wByteS_len (a : List Int) : wByteS a = 1 * a.length := by unfold wByteS; exact sum_const _ a _ (fun _ => rfl)
theorem markByteS_eq (k : Int) (a : List Int) (h0 : 0 ≤ k) (hc : k + 1 * (a.length : Int) ≤ 1000000000000) : L.markByteS k a = some (k + 1 * (a.length : Int), mByteS k a) := by
  unfold L.markByteS mByteS
  refine (markLoop (fun m k i xs => L.markByteS_l0 m (fun y12 y13 => some (y12, y13)) k i xs) m1Byte w1Byte a (0 : Int) 1 (fun _ => rfl) h0 (by omega) hc (fun i m k xs hi hx h0 h1 => ?_) (fun m k xs hx => ?_)).trans rfl
  · show L.markByteS_l0 (m + 1) _ _ _ _ = L.markByteS_l0 m _ _ _ _
    have hdec : decide ((0 : Int) ≤ (i : Int) ∧ (i : Int) < (xs.length : Int)) = true := by simp; omega
    rw [L.markByteS_l0, cdp (by omega)]
    simp (disch := omega) only [hdec, cond_true, w64, u8_mod, u64w, List.length_set, nthI_set, List.set_set, Int.toNat_natCast, cmod3, Int.add_assoc, Int.reduceAdd, if_false, reduceIte]
    rfl
  · show L.markByteS_l0 (m + 1) _ _ _ _ = _
    rw [L.markByteS_l0, cdn (by omega)]
theorem heldByteS_eq (k : Int) (a : List Int) (h0 : 0 ≤ k) (hc : k + 1 * (a.length : Int) ≤ 1000000000000) : L.heldByteS k (mByteS k a) = some (k + 1 * (a.length : Int)) := by
  unfold L.heldByteS
  refine heldLoop (fun m q i => L.heldByteS_l0 m (fun y12 y13 => some y13) (fun y14 => some y14) q i (mByteS k a)) m1Byte w1Byte a (0 : Int) 1 (fun _ => rfl) k h0 (by omega) hc (fun i m j hi h0 h1 hx => ?_) (fun m j => ?_)
  all_goals (have hl : (mByteS k a).length = a.length := markAll_length _ _ _ _)
  · show L.heldByteS_l0 (m + 1) _ _ _ _ _ = L.heldByteS_l0 m _ _ _ _ _
    have hx : nthI (mByteS k a) (i : Int) (0 : Int) = _ := hx
    have hdec : decide ((0 : Int) ≤ (i : Int) ∧ (i : Int) < ((mByteS k a).length : Int)) = true := by rw [hl]; simp; omega
    rw [L.heldByteS_l0, cdp (by omega)]
    simp (disch := omega) only [hdec, hx, m1Byte, cond_true, cond_false, w64, u8_mod, u64w, bne_self_eq_false, cmod3, Int.add_assoc, Int.reduceAdd, if_false, reduceIte, beq_self_eq_true, Bool.not_true]
    rfl
  · show L.heldByteS_l0 (m + 1) _ _ _ _ _ = _
    rw [L.heldByteS_l0, cdn (by rw [hl]; omega)]
theorem in_eq (a b c : Int) : I.in a b c = some (decide (b ≤ a ∧ a ≤ c)) := by unfold I.in; rw [cond_some, cond_and, dand]
/-! Elements -/
theorem isSource_eq (a : Int) : I.isSource a = some (decide (0 ≤ a ∧ a ≤ 3)) := by unfold I.isSource; rw [in_eq]; rfl
theorem isTime_eq (a : Int) : I.isTime a = some (decide (0 ≤ a ∧ a ≤ 1000)) := by unfold I.isTime; rw [in_eq]; rfl
theorem isKey_eq (a : Int) : I.isKey a = some (decide (0 ≤ a ∧ a ≤ 15)) := by unfold I.isKey; rw [in_eq]; rfl
theorem isElem_eq (a b c d : Int) : I.isElem a b c d = some (decide ((0 ≤ a ∧ a ≤ 3) ∧ (0 ≤ b ∧ b ≤ 15) ∧ (0 ≤ d ∧ d ≤ 1000))) := by
  unfold I.isElem; simp only [isSource_eq, isKey_eq, isTime_eq, Option.bind_some, cond_some, cond_and, dand]
theorem l04Src_eq (a : Int) : S.l04Src a = some (decide (0 ≤ a ∧ a ≤ 3)) := by
  unfold S.l04Src; rw [cond_some, cond_and, dand]; congr 2; apply propext; omega
theorem l05Time_eq (a : Int) : S.l05Time a = some (decide (0 ≤ a ∧ a ≤ 1000)) := by unfold S.l05Time; rw [cond_some, cond_and, dand]
theorem l04Key_eq (a : Int) : S.l04Key a = some (decide (0 ≤ a ∧ a ≤ 15)) := by unfold S.l04Key; rw [cond_some, cond_and, dand]
theorem ElemOk_eq (a b c d : Int) : S.ElemOk a b c d = some (decide ((0 ≤ a ∧ a ≤ 3) ∧ (0 ≤ b ∧ b ≤ 15) ∧ (0 ≤ d ∧ d ≤ 1000))) := by
  unfold S.ElemOk; simp only [l04Src_eq, l04Key_eq, l05Time_eq, Option.bind_some, cond_some, cond_and, dand]
/-! OpOk -/
/-- What an operation must be. -/
def opOk (a1 a2 a3 a4 a5 a6 a7 a8 a9 a10 a11 : Int) : Bool :=
  bif a1 == 1 then decide ((0 ≤ a2 ∧ a2 ≤ 3) ∧ (0 ≤ a3 ∧ a3 ≤ 15) ∧ (0 ≤ a5 ∧ a5 ≤ 1000) ∧ a6 = 0 ∧ a7 = 0 ∧ a8 = 0 ∧ a9 = 0 ∧ a10 = 0 ∧ a11 = 0)
  else bif a1 == 2 then decide ((0 ≤ a6 ∧ a6 ≤ 3) ∧ (0 ≤ a7 ∧ a7 ≤ 4) ∧ (0 ≤ a8 ∧ a8 ≤ 15) ∧ (0 ≤ a9 ∧ a9 ≤ 15) ∧ a2 = 0 ∧ a3 = 0 ∧ a4 = 0 ∧ a5 = 0 ∧ a10 = 0 ∧ a11 = 0)
  else bif a1 == 3 then decide ((0 ≤ a6 ∧ a6 ≤ 3) ∧ (0 ≤ a7 ∧ a7 ≤ 4) ∧ (0 ≤ a8 ∧ a8 ≤ 15) ∧ a9 = 0 ∧ a2 = 0 ∧ a3 = 0 ∧ a4 = 0 ∧ a5 = 0 ∧ a10 = 0 ∧ a11 = 0)
  else bif a1 == 4 then decide ((0 ≤ a10 ∧ a10 ≤ 3) ∧ (0 ≤ a11 ∧ a11 ≤ 1000) ∧ a2 = 0 ∧ a3 = 0 ∧ a4 = 0 ∧ a5 = 0 ∧ a6 = 0 ∧ a7 = 0 ∧ a8 = 0 ∧ a9 = 0)
  else bif a1 == 5 || a1 == 6 then decide ((0 ≤ a10 ∧ a10 ≤ 3) ∧ a11 = 0 ∧ a2 = 0 ∧ a3 = 0 ∧ a4 = 0 ∧ a5 = 0 ∧ a6 = 0 ∧ a7 = 0 ∧ a8 = 0 ∧ a9 = 0)
  else bif a1 == 7 || a1 == 8 || a1 == 9 then decide ((0 ≤ a10 ∧ a10 ≤ 3) ∧ (0 ≤ a11 ∧ a11 ≤ 1000000) ∧ a2 = 0 ∧ a3 = 0 ∧ a4 = 0 ∧ a5 = 0 ∧ a6 = 0 ∧ a7 = 0 ∧ a8 = 0 ∧ a9 = 0)
  else false
theorem isPlace_eq (a b c d : Int) : I.Punct_isPlace a b c d = some (decide ((0 ≤ a ∧ a ≤ 3) ∧ (0 ≤ b ∧ b ≤ 4) ∧ (0 ≤ c ∧ c ≤ 15))) := by
  unfold I.Punct_isPlace; simp only [isSource_eq, isKey_eq, in_eq, Option.bind_some, cond_some, cond_and, dand]
theorem l10Count_eq (a : Int) : S.l10Count a = some (decide (0 ≤ a ∧ a ≤ 1000000)) := by unfold S.l10Count; rw [cond_some, cond_and, dand]
theorem l04Bits_eq (a : Int) : S.l04Bits a = some (decide (0 ≤ a ∧ a ≤ 4)) := by unfold S.l04Bits; rw [cond_some, cond_and, dand]
theorem l11Punct_eq (a b c d : Int) : S.l11Punct a b c d = some (decide ((0 ≤ a ∧ a ≤ 3) ∧ (0 ≤ b ∧ b ≤ 4) ∧ (0 ≤ c ∧ c ≤ 15) ∧ (0 ≤ d ∧ d ≤ 15))) := by
  unfold S.l11Punct; simp only [l04Src_eq, l04Key_eq, l04Bits_eq, Option.bind_some, cond_some, cond_and, dand]; congr 2; apply propext; omega
theorem specOpOk_eq (a b c d e f g h i j k : Int) : S.OpOk a b c d e f g h i j k = some (opOk a b c d e f g h i j k) := by
  unfold S.OpOk
  simp only [ElemOk_eq, l11Punct_eq, l04Src_eq, l05Time_eq, l10Count_eq, Option.bind_some, cond_some, cond_and]
  congr 1
  unfold opOk
  rw [Bool.eq_iff_iff]
  by_cases h1 : a = 1
  · subst h1; simp; omega
  by_cases h2 : a = 2
  · subst h2; simp; omega
  by_cases h3 : a = 3
  · subst h3; simp; omega
  by_cases h4 : a = 4
  · subst h4; simp; omega
  by_cases h5 : a = 5
  · subst h5; simp; omega
  by_cases h6 : a = 6
  · subst h6; simp; omega
  by_cases h7 : a = 7
  · subst h7; simp; omega
  by_cases h8 : a = 8
  · subst h8; simp; omega
  by_cases h9 : a = 9
  · subst h9; simp; omega
  simp [h1, h2, h3, h4, h5, h6, h7, h8, h9]
theorem isOp_eq (a b c d e f g h i j k : Int) : I.isOp a b c d e f g h i j k = some (opOk a b c d e f g h i j k) := by
  unfold I.isOp
  simp only [isElem_eq, isPlace_eq, in_eq, isSource_eq, isTime_eq, dup_eq, Option.bind_some, cond_some, cond_and]
  congr 1
  unfold opOk
  rw [Bool.eq_iff_iff]
  by_cases h1 : a = 1
  · subst h1; simp; omega
  by_cases h2 : a = 2
  · subst h2; simp; omega
  by_cases h3 : a = 3
  · subst h3; simp; omega
  by_cases h4 : a = 4
  · subst h4; simp; omega
  by_cases h5 : a = 5
  · subst h5; simp; omega
  by_cases h6 : a = 6
  · subst h6; simp; omega
  by_cases h7 : a = 7
  · subst h7; simp; omega
  by_cases h8 : a = 8
  · subst h8; simp; omega
  by_cases h9 : a = 9
  · subst h9; simp; omega
  simp [h1, h2, h3, h4, h5, h6, h7, h8, h9]
/-! NumBytes -/
/-- The bytes of a number, seven bits each. -/
def venc : Nat → Nat → List Int
  | 0, _ => []
  | d + 1, u => if u < 128 then [(u : Int)] else ((128 + u % 128 : Nat) : Int) :: venc d (u / 128)
theorem venc_small {d u : Nat} (h : u < 128) : venc (d + 1) u = [(u : Int)] := by rw [venc, if_pos h]
theorem venc_big {d u : Nat} (h : ¬ u < 128) : venc (d + 1) u = ((128 + u % 128 : Nat) : Int) :: venc d (u / 128) := by rw [venc, if_neg h]
theorem venc_length (d : Nat) : ∀ u, (venc d u).length ≤ d := by
  induction d with
  | zero => intro u; simp [venc]
  | succ d ih =>
    intro u
    unfold venc
    split
    · simp
    · have := ih (u / 128)
      simp only [List.length_cons]
      omega
/-- The number without a sign. -/
def zig (n : Int) : Nat := if n < 0 then (2 * (-1 - n) + 1).toNat else (2 * n).toNat
theorem zig_lt (n : Int) (h0 : -9223372036854775808 ≤ n) (h1 : n < 9223372036854775808) : zig n < 18446744073709551616 := by
  unfold zig; split <;> omega
theorem sNumBytes_l (e : Int → List Int → Option (List Int)) (d : Nat) : ∀ (u m : Nat) (acc : List Int), (∀ (x : Nat) acc', x < 128 → acc'.length ≤ 1000000 → e (x : Int) acc' = some (acc' ++ [(x : Int)])) → u < 18446744073709551616 → u < 128 ^ (d + 1) → acc.length + d + 1 ≤ 1000000 →
    S.NumBytes_l0 (d + 1 + m) e (u : Int) acc = some (acc ++ venc (d + 1) u) := by
  induction d with
  | zero =>
    intro u m acc he h64 hu ha
    have hu' : u < 128 := by simpa using hu
    rw [show 0 + 1 + m = m + 1 from by omega, S.NumBytes_l0, cdn (by omega), he u acc hu' (by omega)]
    simp only [venc, if_pos hu']
  | succ d ih =>
    intro u m acc he h64 hu ha
    by_cases h : u < 128
    · rw [show d + 1 + 1 + m = (d + 1 + m) + 1 from by omega, S.NumBytes_l0, cdn (by omega), he u acc h (by omega), venc_small h]
    · have hq : u / 128 < 128 ^ (d + 1) := by
        rw [Nat.div_lt_iff_lt_mul (by decide)]
        rw [Nat.pow_succ] at hu
        exact hu
      have := ih (u / 128) m (acc ++ [((128 + u % 128 : Nat) : Int)]) he (by omega) hq (by simp; omega)
      have e1 : IntKind.u64.wrap ((u : Int).tdiv 128) = ((u / 128 : Nat) : Int) := by rw [tdiv_nat _ _ (by omega), u64w (by omega) (by omega)]; omega
      have e2 : IntKind.u8.wrap (IntKind.u64.wrap (128 + (u : Int).tmod 128)) = ((128 + u % 128 : Nat) : Int) := by rw [tmod_nat _ _ (by omega), u64w (by omega) (by omega), u8_mod]; omega
      rw [show d + 1 + 1 + m = (d + 1 + m) + 1 from by omega, S.NumBytes_l0, cdp (by omega), cdn (by omega)]
      simp only [e1, e2]
      rw [cdp (by simp; omega), cdn (by omega), this, venc_big h]
      simp
theorem zig_key (f : Int → List Int → Option (List Int)) (hf : ∀ y z, f y z = (let v18 : Int := (IntKind.wrap .u8 y)
(bif decide ((z.length + [v18].length) * 1 ≤ 140737488355328) then
(some (z ++ [v18]))
else
none))) : ∀ (x : Nat) (acc' : List Int), x < 128 → acc'.length ≤ 1000000 → f (x : Int) acc' = some (acc' ++ [(x : Int)]) := by
  intro x acc hx ha
  rw [hf]
  have e : IntKind.u8.wrap (x : Int) = x := by rw [u8_mod]; omega
  simp only [e]
  rw [cdp (by simp; omega)]
theorem sNumBytes_eq (n : Int) (h0 : -9223372036854775808 ≤ n) (h1 : n < 9223372036854775808) : S.NumBytes n = some (venc 10 (zig n)) := by
  have hz := zig_lt n h0 h1
  obtain ⟨m, hm⟩ := fu_ge 9 (by omega)
  have key := sNumBytes_l _ 9 (zig n) m [] (zig_key _ fun _ _ => rfl) hz (by omega) (by simp)
  simp only [List.nil_append] at key
  unfold S.NumBytes
  rw [hm]
  by_cases h : n < 0
  · have e : (zig n : Int) = IntKind.u64.wrap ((IntKind.u64.wrap (2 * (IntKind.u64.wrap (IntKind.i64.wrap ((-1) - n))))) + 1) := by
      rw [w64 (by omega) (by omega)]
      simp only [u64_mod]
      unfold zig
      rw [if_pos h]
      omega
    rw [cdp h, ← e]
    exact key
  · have e : (zig n : Int) = IntKind.u64.wrap (2 * (IntKind.u64.wrap n)) := by
      simp only [u64_mod]
      unfold zig
      rw [if_neg h]
      omega
    rw [cdn h, ← e]
    exact key
theorem iNumBytes_l (e : Int → List Int → Option (List Int)) (d : Nat) : ∀ (u m : Nat) (acc : List Int), (∀ (x : Nat) acc', x < 128 → acc'.length ≤ 1000000 → e (x : Int) acc' = some (acc' ++ [(x : Int)])) → u < 18446744073709551616 → u < 128 ^ (d + 1) → acc.length + d + 1 ≤ 1000000 →
    I.NumBytes_l0 (d + 1 + m) e (u : Int) acc = some (acc ++ venc (d + 1) u) := by
  induction d with
  | zero =>
    intro u m acc he h64 hu ha
    have hu' : u < 128 := by simpa using hu
    rw [show 0 + 1 + m = m + 1 from by omega, I.NumBytes_l0, cdn (by omega), he u acc hu' (by omega)]
    simp only [venc, if_pos hu']
  | succ d ih =>
    intro u m acc he h64 hu ha
    by_cases h : u < 128
    · rw [show d + 1 + 1 + m = (d + 1 + m) + 1 from by omega, I.NumBytes_l0, cdn (by omega), he u acc h (by omega), venc_small h]
    · have hq : u / 128 < 128 ^ (d + 1) := by
        rw [Nat.div_lt_iff_lt_mul (by decide)]
        rw [Nat.pow_succ] at hu
        exact hu
      have := ih (u / 128) m (acc ++ [((128 + u % 128 : Nat) : Int)]) he (by omega) hq (by simp; omega)
      have e1 : (u : Int).fdiv (2 ^ min (Int.toNat 7) (IntKind.bits .u64)) = ((u / 128 : Nat) : Int) := by
        rw [show (2 : Int) ^ min (Int.toNat 7) (IntKind.bits .u64) = 128 from by decide, Int.fdiv_eq_ediv_of_nonneg _ (by omega)]; omega
      have e2 : Go.bits .or .u8 (IntKind.wrap .u8 (u : Int)) 128 = ((128 + u % 128 : Nat) : Int) := by rw [u8_mod, bits_or_128 _ (by omega) (by omega)]; omega
      rw [show d + 1 + 1 + m = (d + 1 + m) + 1 from by omega, I.NumBytes_l0, cdp (by omega)]
      simp only [e1, e2]
      rw [cdp (by simp; omega), cdp (by omega), this, venc_big h]
      simp
theorem izigzag_eq (n : Int) (h0 : -9223372036854775808 ≤ n) (h1 : n < 9223372036854775808) : I.zigzag n = some (zig n : Int) := by
  unfold I.zigzag
  rw [cdp (by omega)]
  simp only []
  rw [cdp (by omega)]
  congr 1
  rw [show (2 : Int) ^ min (Int.toNat 1) (IntKind.bits .u64) = 2 from by decide, show (2 : Int) ^ min (Int.toNat 63) (IntKind.bits .i64) = 9223372036854775808 from by decide, Int.fdiv_eq_ediv_of_nonneg _ (by omega)]
  by_cases h : n < 0
  · have e : IntKind.u64.wrap (n / 9223372036854775808) = 18446744073709551615 := by rw [u64_mod]; omega
    rw [e, bits_xor_ones _ (by rw [u64_mod]; omega) (by rw [u64_mod]; omega)]
    simp only [u64_mod]
    unfold zig
    rw [if_pos h]
    omega
  · have e : IntKind.u64.wrap (n / 9223372036854775808) = 0 := by rw [u64_mod]; omega
    rw [e, bits_xor_zero _ (by rw [u64_mod]; omega) (by rw [u64_mod]; omega)]
    simp only [u64_mod]
    unfold zig
    rw [if_neg h]
    omega
theorem iNumBytes_eq (n : Int) (h0 : -9223372036854775808 ≤ n) (h1 : n < 9223372036854775808) : I.NumBytes n = some (venc 10 (zig n)) := by
  have hz := zig_lt n h0 h1
  obtain ⟨m, hm⟩ := fu_ge 9 (by omega)
  have key := iNumBytes_l _ 9 (zig n) m [] (zig_key _ fun _ _ => rfl) hz (by omega) (by simp)
  simp only [List.nil_append] at key
  unfold I.NumBytes
  rw [izigzag_eq n h0 h1, hm]
  exact key
/-- The bytes of numbers, one after the other. -/
def nums (xs : List Int) : List Int := xs.flatMap (fun x => venc 10 (zig x))
theorem nums_length : ∀ xs : List Int, (nums xs).length ≤ 10 * xs.length
  | [] => by simp [nums]
  | x :: xs => by
    have := nums_length xs
    have := venc_length 10 (zig x)
    simp only [nums, List.flatMap_cons, List.length_append, List.length_cons] at *
    omega
theorem sOpBytes_l (xs : List Int) (hx : ∀ x ∈ xs, -9223372036854775808 ≤ x ∧ x < 9223372036854775808) (hn : xs.length ≤ 1000000) (d : Nat) : ∀ (i m : Nat) (acc : List Int), i ≤ xs.length → xs.length - i = d → acc.length ≤ 10 * i →
    S.OpBytes_l0 (d + 1 + m) (fun y21 => some y21) (i : Int) acc xs = some (acc ++ (xs.drop i).flatMap (fun x => venc 10 (zig x))) := by
  induction d with
  | zero =>
    intro i m acc hi hd ha
    rw [show 0 + 1 + m = m + 1 from by omega, S.OpBytes_l0, cdn (by omega), List.drop_of_length_le (by omega)]
    simp
  | succ d ih =>
    intro i m acc hi hd ha
    have hb : nthI xs (i : Int) 0 ∈ xs := by
      have hi' : i < xs.length := by omega
      rw [nthI_nat, List.getD_eq_getElem?_getD, List.getElem?_eq_getElem hi']; simp
    have hv := hx _ hb
    have hl := venc_length 10 (zig (nthI xs (i : Int) 0))
    rw [show d + 1 + 1 + m = (d + 1 + m) + 1 from by omega, S.OpBytes_l0, cdp (by omega), cdp (by omega), sNumBytes_eq _ hv.1 hv.2, Option.bind_some, cdp (by omega), w64 (by omega) (by omega), show (i : Int) + 1 = ((i + 1 : Nat) : Int) from by omega, ih (i + 1) m _ (by omega) (by omega) (by rw [List.length_append]; omega), drop_nth xs i (by omega)]
    simp
def opBytes (a b c d e f g h i j k : Int) : List Int := bif opOk a b c d e f g h i j k then nums [a, b, c, d, e, f, g, h, i, j, k] else []
theorem opBytes_length (a b c d e f g h i j k : Int) : (opBytes a b c d e f g h i j k).length ≤ 110 := by
  unfold opBytes
  have := nums_length [a, b, c, d, e, f, g, h, i, j, k]
  cases opOk a b c d e f g h i j k
  · simp
  · simpa using this
theorem sOpBytes_eq (a b c d e f g h i j k : Int) (hx : ∀ x ∈ [a, b, c, d, e, f, g, h, i, j, k], -9223372036854775808 ≤ x ∧ x < 9223372036854775808) : S.OpBytes a b c d e f g h i j k = some (opBytes a b c d e f g h i j k) := by
  unfold S.OpBytes opBytes
  rw [specOpOk_eq, Option.bind_some]
  cases opOk a b c d e f g h i j k
  · rfl
  · obtain ⟨m, hm⟩ := fu_ge 11 (by omega)
    have := sOpBytes_l [a, b, c, d, e, f, g, h, i, j, k] hx (by simp) 11 0 m [] (by simp) (by simp) (by simp)
    unfold S.l13Fields
    rw [hm]
    exact this
theorem iOpBytes_l (xs : List Int) (hx : ∀ x ∈ xs, -9223372036854775808 ≤ x ∧ x < 9223372036854775808) (hn : xs.length ≤ 1000000) (d : Nat) : ∀ (i m : Nat) (acc : List Int), i ≤ xs.length → xs.length - i = d → acc.length ≤ 10 * i →
    I.opBytes_l0 (d + 1 + m) (fun y21 => some y21) (xs.length : Int) (i : Int) acc xs = some (acc ++ (xs.drop i).flatMap (fun x => venc 10 (zig x))) := by
  induction d with
  | zero =>
    intro i m acc hi hd ha
    rw [show 0 + 1 + m = m + 1 from by omega, I.opBytes_l0, cdn (by omega), List.drop_of_length_le (by omega)]
    simp
  | succ d ih =>
    intro i m acc hi hd ha
    have hb : nthI xs (i : Int) 0 ∈ xs := by
      have hi' : i < xs.length := by omega
      rw [nthI_nat, List.getD_eq_getElem?_getD, List.getElem?_eq_getElem hi']; simp
    have hv := hx _ hb
    have hl := venc_length 10 (zig (nthI xs (i : Int) 0))
    rw [show d + 1 + 1 + m = (d + 1 + m) + 1 from by omega, I.opBytes_l0, cdp (by omega), cdp (by omega), iNumBytes_eq _ hv.1 hv.2, Option.bind_some, cdp (by omega), w64 (by omega) (by omega), show (i : Int) + 1 = ((i + 1 : Nat) : Int) from by omega, ih (i + 1) m _ (by omega) (by omega) (by rw [List.length_append]; omega), drop_nth xs i (by omega)]
    simp
theorem venc_bytes : ∀ (d u : Nat), ∀ x ∈ venc d u, 0 ≤ x ∧ x < 256
  | 0, u => by simp [venc]
  | d + 1, u => by
    by_cases h : u < 128
    · rw [venc_small h]; simp; omega
    · rw [venc_big h]
      intro x hx
      rcases List.mem_cons.1 hx with rfl | hx
      · omega
      · exact venc_bytes d _ x hx
/-! RecordOf -/
def bsum (l : List Int) : Int := l.foldl (· + ·) 0
theorem bsum_take (l : List Int) (i : Nat) (h : i < l.length) : bsum (l.take (i + 1)) = bsum (l.take i) + nthI l (i : Int) 0 := by
  unfold bsum
  rw [nthI_nat, List.getD_eq_getElem?_getD, List.getElem?_eq_getElem h, List.take_succ_eq_append_getElem h, List.foldl_append]
  rfl
theorem bsum_bd (l : List Int) (hb : ∀ x ∈ l, 0 ≤ x ∧ x < 256) (i : Nat) (h : i ≤ l.length) : 0 ≤ bsum (l.take i) ∧ bsum (l.take i) ≤ 255 * i := by
  induction i with
  | zero => simp [bsum]
  | succ i ih =>
    have := ih (by omega)
    have := hb _ (nthI_mem l i 0 (by omega))
    rw [bsum_take l i (by omega)]
    omega
def record (l : List Int) : List Int := ([(l.length : Int)] ++ l) ++ [bsum l / 256, bsum l % 256]
theorem record_length (l : List Int) : (record l).length = l.length + 3 := by simp [record]
section
variable (l : List Int) (hl : l.length ≤ 255) (hb : ∀ x ∈ l, 0 ≤ x ∧ x < 256)
include hl hb
theorem sRec_l (e : Int → List Int → Option (List Int)) (m : Nat) : ∀ d i : Nat, i + d = l.length → S.RecordOf_l0 (d + 1 + m) e (bsum (l.take i)) (i : Int) l = e (bsum l) l := by
  intro d
  induction d with
  | zero =>
    intro i hi
    rw [show 0 + 1 + m = m + 1 from by omega, S.RecordOf_l0, cdn (by omega), List.take_of_length_le (by omega)]
  | succ d ih =>
    intro i hi
    have hr := hb _ (nthI_mem l i 0 (by omega))
    have hs := bsum_bd l hb i (by omega)
    have := ih (i + 1) (by omega)
    rw [bsum_take l i (by omega)] at this
    rw [show d + 1 + 1 + m = (d + 1 + m) + 1 from by omega, S.RecordOf_l0, cdp (by omega), cdp (by omega), w64 (n := nthI l (i : Int) 0) (by omega) (by omega), w64 (by omega) (by omega), w64 (by omega) (by omega)]
    exact this
theorem iRec_l (e : Int → List Int → Option (List Int)) (m : Nat) : ∀ d i : Nat, i + d = l.length → I.RecordOf_l0 (d + 1 + m) e (bsum (l.take i)) (l.length : Int) (i : Int) l = e (bsum l) l := by
  intro d
  induction d with
  | zero =>
    intro i hi
    rw [show 0 + 1 + m = m + 1 from by omega, I.RecordOf_l0, cdn (by omega), List.take_of_length_le (by omega)]
  | succ d ih =>
    intro i hi
    have hr := hb _ (nthI_mem l i 0 (by omega))
    have hs := bsum_bd l hb i (by omega)
    have := ih (i + 1) (by omega)
    rw [bsum_take l i (by omega)] at this
    rw [show d + 1 + 1 + m = (d + 1 + m) + 1 from by omega, I.RecordOf_l0, cdp (by omega), cdp (by omega), w64 (n := nthI l (i : Int) 0) (by omega) (by omega), w64 (by omega) (by omega), w64 (by omega) (by omega)]
    exact this
theorem sRecordOf_eq : S.RecordOf l = some (record l) := by
  unfold S.RecordOf
  obtain ⟨m, hm⟩ := fu_ge l.length (by omega)
  have hs := bsum_bd l hb l.length (Nat.le_refl _)
  rw [List.take_of_length_le (Nat.le_refl _)] at hs
  rw [cdn (by omega), hm]
  refine (sRec_l l hl hb _ m l.length 0 (by omega)).trans ?_
  have e1 : IntKind.u8.wrap (l.length : Int) = (l.length : Int) := by rw [u8_mod]; omega
  have e2 : IntKind.u8.wrap (Int.tmod (IntKind.i64.wrap (Int.tdiv (bsum l) 256)) 256) = bsum l / 256 := by
    rw [tdiv_nat _ _ hs.1, w64 (by omega) (by omega), tmod_nat _ _ (by omega), u8_mod]; omega
  have e3 : IntKind.u8.wrap (Int.tmod (bsum l) 256) = bsum l % 256 := by rw [tmod_nat _ _ hs.1, u8_mod]; omega
  simp only [e1, e2, e3]
  rw [cdp (by simp <;> omega), cdn (by decide), cdn (by decide), cdn (by decide), cdp (by simp <;> omega)]
  rfl
theorem iRecordOf_eq : I.RecordOf l = some (record l) := by
  unfold I.RecordOf
  obtain ⟨m, hm⟩ := fu_ge l.length (by omega)
  have hs := bsum_bd l hb l.length (Nat.le_refl _)
  rw [List.take_of_length_le (Nat.le_refl _)] at hs
  rw [cdn (by omega), hm]
  refine (iRec_l l hl hb _ m l.length 0 (by omega)).trans ?_
  have e1 : IntKind.u8.wrap (l.length : Int) = (l.length : Int) := by rw [u8_mod]; omega
  have e2 : IntKind.u8.wrap (Int.fdiv (bsum l) (2 ^ min (Int.toNat 8) (IntKind.bits .i64))) = bsum l / 256 := by
    rw [show (2 : Int) ^ min (Int.toNat 8) (IntKind.bits .i64) = 256 from by decide, Int.fdiv_eq_ediv_of_nonneg _ (by decide), u8_mod]; omega
  have e3 : IntKind.u8.wrap (bsum l) = bsum l % 256 := u8_mod _
  simp only [e1, e2, e3]
  rw [cdp (by simp <;> omega), cdp (by decide), cdp (by simp <;> omega)]
  rfl
end
/-! LogOf -/
theorem nums_bytes (xs : List Int) : ∀ x ∈ nums xs, 0 ≤ x ∧ x < 256 := by
  intro x hx
  obtain ⟨y, _, hy⟩ := List.mem_flatMap.1 hx
  exact venc_bytes 10 _ x hy
def okT (x : TOp) : Bool := opOk x.1 x.2.1.1 x.2.1.2.1 x.2.1.2.2.1 x.2.1.2.2.2 x.2.2.1.1 x.2.2.1.2.1 x.2.2.1.2.2.1 x.2.2.1.2.2.2 x.2.2.2.1 x.2.2.2.2
def fieldsT (x : TOp) : List Int := [x.1, x.2.1.1, x.2.1.2.1, x.2.1.2.2.1, x.2.1.2.2.2, x.2.2.1.1, x.2.2.1.2.1, x.2.2.1.2.2.1, x.2.2.1.2.2.2, x.2.2.2.1, x.2.2.2.2]
def i64s (xs : List Int) : Prop := ∀ x ∈ xs, -9223372036854775808 ≤ x ∧ x < 9223372036854775808
theorem fieldsT_wf {x : TOp} (h : bOp x) : i64s (fieldsT x) := by
  unfold i64s fieldsT
  simp only [List.forall_mem_cons, List.not_mem_nil, false_implies, implies_true, and_true]
  obtain ⟨h1, ⟨h2, h3, h4, h5⟩, ⟨h6, h7, h8, h9⟩, h10, h11⟩ := h
  exact ⟨i64_wf h1, i64_wf h2, i64_wf h3, i64_wf h4, i64_wf h5, i64_wf h6, i64_wf h7, i64_wf h8, i64_wf h9, i64_wf h10, i64_wf h11⟩
theorem iopBytes_eq (a b c d e f g h i j k : Int) (hx : i64s [a, b, c, d, e, f, g, h, i, j, k]) : I.opBytes a b c d e f g h i j k = some (nums [a, b, c, d, e, f, g, h, i, j, k]) := by
  obtain ⟨m, hm⟩ := fu_ge 11 (by omega)
  have := iOpBytes_l [a, b, c, d, e, f, g, h, i, j, k] hx (by simp) 11 0 m [] (by simp) (by simp) (by simp)
  unfold I.opBytes I.Op_fields
  rw [hm, Option.bind_some]
  exact this
def logGo : List TOp → List Int → Option (List Int)
  | [], acc => some acc
  | x :: xs, acc => bif okT x then logGo xs (acc ++ record (nums (fieldsT x))) else none
def logF (xs : List TOp) : Bool × List Int :=
  match logGo xs [] with
  | some r => (true, r)
  | none => (false, [])
theorem recT (x : TOp) : S.RecordOf (nums (fieldsT x)) = some (record (nums (fieldsT x))) ∧ I.RecordOf (nums (fieldsT x)) = some (record (nums (fieldsT x))) ∧ (record (nums (fieldsT x))).length ≤ 113 := by
  have hl := nums_length (fieldsT x)
  have h11 : (fieldsT x).length = 11 := rfl
  exact ⟨sRecordOf_eq _ (by omega) (nums_bytes _), iRecordOf_eq _ (by omega) (nums_bytes _), by rw [record_length]; omega⟩
section
variable (a : List TOp) (hw : ∀ x ∈ a, bOp x) (hn : a.length ≤ 250)
include hw hn
theorem sLogOf_l (e0 : Bool → List Int → Option (Bool × List Int)) (e1 : List Int → Option (Bool × List Int)) (he : ∀ z, e0 false z = some (false, [])) (m : Nat) : ∀ (d i : Nat) (acc : List Int), i + d = a.length → acc.length ≤ 113 * i →
    S.LogOf_l0 (d + 1 + m) e0 e1 (i : Int) a acc = match logGo (a.drop i) acc with | some r => e1 r | none => some (false, []) := by
  intro d
  induction d with
  | zero =>
    intro i acc hi hl
    rw [show 0 + 1 + m = m + 1 from by omega, S.LogOf_l0, cdn (by omega), List.drop_of_length_le (by omega)]; rfl
  | succ d ih =>
    intro i acc hi hl
    have hx := fieldsT_wf (hw _ (nthI_mem a i ((0 : Int), (((0 : Int), ((0 : Int), ((0 : Int), (0 : Int)))), (((0 : Int), ((0 : Int), ((0 : Int), (0 : Int)))), ((0 : Int), (0 : Int))))) (by omega)))
    rw [show d + 1 + 1 + m = (d + 1 + m) + 1 from by omega, S.LogOf_l0, cdp (by omega), drop_at a i ((0 : Int), (((0 : Int), ((0 : Int), ((0 : Int), (0 : Int)))), (((0 : Int), ((0 : Int), ((0 : Int), (0 : Int)))), ((0 : Int), (0 : Int))))) (by omega), logGo]
    generalize nthI a (i : Int) ((0 : Int), (((0 : Int), ((0 : Int), ((0 : Int), (0 : Int)))), (((0 : Int), ((0 : Int), ((0 : Int), (0 : Int)))), ((0 : Int), (0 : Int))))) = x at *
    have hdec : decide ((0 : Int) ≤ (i : Int) ∧ (i : Int) < (a.length : Int)) = true := decide_eq_true (by omega)
    obtain ⟨r1, _, r3⟩ := recT x
    have ho := sOpBytes_eq x.1 x.2.1.1 x.2.1.2.1 x.2.1.2.2.1 x.2.1.2.2.2 x.2.2.1.1 x.2.2.1.2.1 x.2.2.1.2.2.1 x.2.2.1.2.2.2 x.2.2.2.1 x.2.2.2.2 hx
    simp only [hdec, cond_true, specOpOk_eq, ho, Option.bind_some]
    unfold opBytes
    rw [show opOk x.1 x.2.1.1 x.2.1.2.1 x.2.1.2.2.1 x.2.1.2.2.2 x.2.2.1.1 x.2.2.1.2.1 x.2.2.1.2.2.1 x.2.2.1.2.2.2 x.2.2.2.1 x.2.2.2.2 = okT x from rfl]
    cases okT x with
    | false => rw [Bool.not_false, cond_true, he]; rfl
    | true =>
      simp only [Bool.not_true, cond_false, cond_true]
      rw [show nums [x.1, x.2.1.1, x.2.1.2.1, x.2.1.2.2.1, x.2.1.2.2.2, x.2.2.1.1, x.2.2.1.2.1, x.2.2.1.2.2.1, x.2.2.1.2.2.2, x.2.2.2.1, x.2.2.2.2] = nums (fieldsT x) from rfl, r1, Option.bind_some, cdp (by omega), w64 (by omega) (by omega)]
      exact ih (i + 1) _ (by omega) (by rw [List.length_append]; omega)
theorem iLogOf_l (e0 : Bool → List Int → Option (Bool × List Int)) (e1 : List Int → Option (Bool × List Int)) (he : ∀ z, e0 false z = some (false, [])) (m : Nat) : ∀ (d i : Nat) (acc : List Int), i + d = a.length → acc.length ≤ 113 * i →
    I.logOf_l0 (d + 1 + m) e0 e1 (a.length : Int) (i : Int) acc a = match logGo (a.drop i) acc with | some r => e1 r | none => some (false, []) := by
  intro d
  induction d with
  | zero =>
    intro i acc hi hl
    rw [show 0 + 1 + m = m + 1 from by omega, I.logOf_l0, cdn (by omega), List.drop_of_length_le (by omega)]; rfl
  | succ d ih =>
    intro i acc hi hl
    have hx := fieldsT_wf (hw _ (nthI_mem a i ((0 : Int), (((0 : Int), ((0 : Int), ((0 : Int), (0 : Int)))), (((0 : Int), ((0 : Int), ((0 : Int), (0 : Int)))), ((0 : Int), (0 : Int))))) (by omega)))
    rw [show d + 1 + 1 + m = (d + 1 + m) + 1 from by omega, I.logOf_l0, cdp (by omega), drop_at a i ((0 : Int), (((0 : Int), ((0 : Int), ((0 : Int), (0 : Int)))), (((0 : Int), ((0 : Int), ((0 : Int), (0 : Int)))), ((0 : Int), (0 : Int))))) (by omega), logGo]
    generalize nthI a (i : Int) ((0 : Int), (((0 : Int), ((0 : Int), ((0 : Int), (0 : Int)))), (((0 : Int), ((0 : Int), ((0 : Int), (0 : Int)))), ((0 : Int), (0 : Int))))) = x at *
    have hdec : decide ((0 : Int) ≤ (i : Int) ∧ (i : Int) < (a.length : Int)) = true := decide_eq_true (by omega)
    obtain ⟨_, r1, r3⟩ := recT x
    have ho := iopBytes_eq x.1 x.2.1.1 x.2.1.2.1 x.2.1.2.2.1 x.2.1.2.2.2 x.2.2.1.1 x.2.2.1.2.1 x.2.2.1.2.2.1 x.2.2.1.2.2.2 x.2.2.2.1 x.2.2.2.2 hx
    simp only [hdec, cond_true, isOp_eq, ho, Option.bind_some]
    rw [show opOk x.1 x.2.1.1 x.2.1.2.1 x.2.1.2.2.1 x.2.1.2.2.2 x.2.2.1.1 x.2.2.1.2.1 x.2.2.1.2.2.1 x.2.2.1.2.2.2 x.2.2.2.1 x.2.2.2.2 = okT x from rfl]
    cases okT x with
    | false => rw [Bool.not_false, cond_true, he]; rfl
    | true =>
      simp only [Bool.not_true, cond_false, cond_true]
      rw [show nums [x.1, x.2.1.1, x.2.1.2.1, x.2.1.2.2.1, x.2.1.2.2.2, x.2.2.1.1, x.2.2.1.2.1, x.2.2.1.2.2.1, x.2.2.1.2.2.2, x.2.2.2.1, x.2.2.2.2] = nums (fieldsT x) from rfl, r1, Option.bind_some, cdp (by omega), w64 (by omega) (by omega)]
      exact ih (i + 1) _ (by omega) (by rw [List.length_append]; omega)
end
theorem logGo_len : ∀ (a : List TOp) (acc r : List Int), logGo a acc = some r → r.length ≤ acc.length + 113 * a.length
  | [], acc, r, h => by simp only [logGo, Option.some.injEq] at h; subst h; omega
  | x :: xs, acc, r, h => by
    simp only [logGo] at h
    cases ho : okT x with
    | false => rw [ho] at h; cases h
    | true =>
      rw [ho, cond_true] at h
      have := logGo_len xs _ r h
      have hl := nums_length (fieldsT x)
      have h11 : (fieldsT x).length = 11 := rfl
      rw [List.length_append, record_length] at this
      simp only [List.length_cons]
      omega
def logTop (a : List TOp) : Bool × List Int := if a.length ≤ 250 then logF a else (false, [])
theorem logTop_len (a : List TOp) : (logTop a).2.length ≤ 28250 := by
  unfold logTop
  split
  · unfold logF
    split
    · rename_i r hr
      have := logGo_len a [] r hr
      simp at this ⊢; omega
    · simp
  · simp
theorem sLogOf_eq (a : List TOp) (hw : ∀ x ∈ a, bOp x) (hn : a.length ≤ 1000000000000) : S.LogOf a = some (logTop a) := by
  unfold S.LogOf logTop
  by_cases h : 250 < a.length
  · rw [cdp (by omega), if_neg (by omega)]
  · obtain ⟨m, hm⟩ := fu_ge a.length (by omega)
    rw [cdn (by omega), if_pos (by omega), hm]
    refine (sLogOf_l a hw (by omega) _ _ (fun _ => rfl) m a.length 0 [] (by omega) (by simp)).trans ?_
    rw [List.drop_zero]
    unfold logF
    cases logGo a [] <;> rfl
theorem iLogOf_eq (a : List TOp) (hw : ∀ x ∈ a, bOp x) (hn : a.length ≤ 1000000000000) : I.logOf a = some (logTop a) := by
  unfold I.logOf logTop
  by_cases h : 250 < a.length
  · rw [cdp (by omega), if_neg (by omega)]
  · obtain ⟨m, hm⟩ := fu_ge a.length (by omega)
    rw [cdn (by omega), if_pos (by omega), hm]
    refine (iLogOf_l a hw (by omega) _ _ (fun _ => rfl) m a.length 0 [] (by omega) (by simp)).trans ?_
    rw [List.drop_zero]
    unfold logF
    cases logGo a [] <;> rfl
theorem FnExactLogOf : StmtFnExactLogOf.Stmt := by
  intro a ha
  have hsz := szOpS_eq 1048576 a (by omega) (by omega) ha
  unfold L.FnExactLogOf
  rw [hsz, Option.bind_some]
  by_cases hl : ((a.length : Nat) : Int) ≤ 1048576
  · have hto := toOpS_eq a (by omega)
    have heq := eqOpS_eq a a (by omega)
    have h1 := sLogOf_eq a ha.2 (by omega)
    have h2 : I.LogOf a = some (logTop a) := by unfold I.LogOf; rw [iLogOf_eq a ha.2 (by omega)]; rfl
    have h3 := logTop_len a
    generalize logTop a = r at *
    have heq2 := eqByteS_eq r.2 r.2 (by omega)
    have hmk := markOpS_eq 1 a (by omega) (by omega)
    have hmk2 := markByteS_eq 1 r.2 (by omega) (by omega)
    have hh2 := heldByteS_eq 1 r.2 (by omega) (by omega)
    have p1 : decide ((1 : Int) + 11 * (a.length : Int) < 0) = false := decide_eq_false (by omega)
    have p2 : decide ((1 : Int) + 1 * (r.2.length : Int) < 0) = false := decide_eq_false (by omega)
    rw [if_pos hl, cdn (by omega)]
    simp only [hto, h1, h2, heq, heq2, hmk, hmk2, hh2, p1, p2, Option.bind_some, decide_true, bne_self_eq_false, beq_self_eq_true, Bool.not_true, cond_false]
  · rw [if_neg hl, cdp (by omega)]
end Go.Proofs.Ytflagchmcnfigaa.Pure
