/- QueryOk of the program returns what the reference's returns. For every argument. -/
import Derived.Test.YtflagchmcnfigaaStmtFnExactQueryOk
import Derived.Laws.BitsLemmas
import Derived.Laws.BitsAllLaws
import Derived.Laws.Bits64b
namespace Go.Proofs.Ytflagchmcnfigaa.Pure
open Go Go.RowKit Go.Proofs.Ytflagchmcnfigaa.Run Go.Proofs.Ytflagchmcnfigaa.StmtFnExactQueryOk Go.Proofs.YtflagchmcnfigaaW.PrintWords Go.Proofs.Ytflagchmcnfigaa.Vm
set_option linter.unusedVariables false
set_option linter.unusedSimpArgs false
/-! General words -/
theorem cdp {α : Type} {p : Prop} [Decidable p] {a b : α} (h : p) : (bif decide p then a else b) = a := by simp [h]
theorem cdn {α : Type} {p : Prop} [Decidable p] {a b : α} (h : ¬ p) : (bif decide p then a else b) = b := by simp [h]
theorem cnp {α : Type} {x y : Int} {a b : α} (h : x ≠ y) : (bif (x != y) then a else b) = a := by rw [show (x != y) = true from by simpa using h]; rfl
theorem cnn {α : Type} {x y : Int} {a b : α} (h : x = y) : (bif (x != y) then a else b) = b := by simp [bne, h]
theorem cep {α : Type} {x y : Int} {a b : α} (h : x = y) : (bif (x == y) then a else b) = a := by simp [h]
theorem cen {α : Type} {x y : Int} {a b : α} (h : x ≠ y) : (bif (x == y) then a else b) = b := by rw [show (x == y) = false from by simpa using h]; rfl
theorem cond_some {α : Type} (c : Bool) (x y : α) : (bif c then some x else some y) = some (bif c then x else y) := by cases c <;> rfl
theorem cond_and (c x : Bool) : (bif c then x else false) = (c && x) := by cases c <;> rfl
theorem dand (p q : Prop) [Decidable p] [Decidable q] : (decide p && decide q) = decide (p ∧ q) := by by_cases p <;> by_cases q <;> simp_all
theorem w64 {n : Int} (h0 : -9223372036854775808 ≤ n) (h1 : n < 9223372036854775808) : IntKind.i64.wrap n = n := by rw [IntKind.wrap_i64]; omega
theorem u64_mod (n : Int) : IntKind.u64.wrap n = n % 18446744073709551616 := by simp [IntKind.wrap, IntKind.bits, IntKind.signed]
theorem u64w {n : Int} (h0 : 0 ≤ n) (h1 : n < 18446744073709551616) : IntKind.u64.wrap n = n := by rw [u64_mod]; omega
theorem u8_mod (n : Int) : IntKind.u8.wrap n = n % 256 := by simp [IntKind.wrap, IntKind.bits, IntKind.signed]
theorem i64_wf {n : Int} (h : (Lit.int .i64 n).wf = true) : -9223372036854775808 ≤ n ∧ n < 9223372036854775808 := by
  simp only [Lit.wf, IntKind.min, IntKind.max, IntKind.signed, IntKind.bits, Bool.and_eq_true, decide_eq_true_eq, if_true] at h
  omega
theorem u8_wf {n : Int} (h : (Lit.int .u8 n).wf = true) : 0 ≤ n ∧ n < 256 := by
  simp [Lit.wf, IntKind.min, IntKind.max, IntKind.signed, IntKind.bits, Bool.and_eq_true] at h
  omega
theorem tmod_nat (n : Int) (m : Int) (h : 0 ≤ n) : Int.tmod n m = n % m := Int.tmod_eq_emod_of_nonneg h
theorem tdiv_nat (n : Int) (m : Int) (h : 0 ≤ n) : Int.tdiv n m = n / m := Int.tdiv_eq_ediv_of_nonneg h
theorem bits_or_128 (x : Int) (h0 : 0 ≤ x) (h1 : x < 256) : Go.bits .or .u8 x 128 = 128 + x % 128 := by
  obtain ⟨n, rfl⟩ := Int.eq_ofNat_of_zero_le h0
  have hn : n < 256 := by omega
  have key : ∀ m : Fin 256, Go.bits .or .u8 ((m.val : Nat) : Int) 128 = 128 + ((m.val : Nat) : Int) % 128 := by decide +kernel
  exact key ⟨n, hn⟩
theorem bits_xor_zero (x : Int) (h0 : 0 ≤ x) (h1 : x < 18446744073709551616) : Go.bits .xor .u64 x 0 = x := by
  obtain ⟨n, rfl⟩ := Int.eq_ofNat_of_zero_le h0
  have hn : n < 18446744073709551616 := by omega
  show IntKind.u64.wrap (((BitVec.ofInt 64 ((n : Nat) : Int)) ^^^ (BitVec.ofInt 64 0)).toNat : Int) = n
  have e : (BitVec.ofInt 64 0) = 0#64 := by decide
  rw [e, BitVec.xor_zero, BitVec.ofInt_natCast, BitVec.toNat_ofNat, u64_mod]
  omega
theorem bits_xor_ones (x : Int) (h0 : 0 ≤ x) (h1 : x < 18446744073709551616) : Go.bits .xor .u64 x 18446744073709551615 = 18446744073709551615 - x := by
  obtain ⟨n, rfl⟩ := Int.eq_ofNat_of_zero_le h0
  have hn : n < 18446744073709551616 := by omega
  show IntKind.u64.wrap (((BitVec.ofInt 64 ((n : Nat) : Int)) ^^^ (BitVec.ofInt 64 18446744073709551615)).toNat : Int) = 18446744073709551615 - n
  have e : (BitVec.ofInt 64 18446744073709551615) = BitVec.allOnes 64 := by decide
  rw [e, BitVec.xor_allOnes, BitVec.toNat_not, BitVec.ofInt_natCast, BitVec.toNat_ofNat, u64_mod]
  omega
theorem fu_ge (d : Nat) (h : d ≤ 1000000000000) : ∃ m, fu = d + 1 + m := ⟨fu - d - 1, by rw [fu_eq]; omega⟩
theorem nthI_nat {α : Type} (xs : List α) (i : Nat) (d : α) : nthI xs (i : Int) d = xs.getD i d := rfl
theorem drop_nth (xs : List Int) (i : Nat) (h : i < xs.length) : xs.drop i = nthI xs (i : Int) 0 :: xs.drop (i + 1) := by
  rw [nthI_nat, List.getD_eq_getElem?_getD, List.getElem?_eq_getElem h]; exact List.drop_eq_getElem_cons h
/-! Loops over lists -/
theorem nthI_mem {α : Type} (a : List α) (i : Nat) (d : α) (h : i < a.length) : nthI a (i : Int) d ∈ a := by
  rw [nthI_nat, List.getD_eq_getElem?_getD, List.getElem?_eq_getElem h]; simp
theorem nthI_set {α : Type} (xs : List α) (i : Nat) (y d : α) (h : i < xs.length) : nthI (xs.set i y) (i : Int) d = y := by
  rw [nthI_nat, List.getD_eq_getElem?_getD, List.getElem?_set_self h]; rfl
theorem drop_at {α : Type} (xs : List α) (i : Nat) (d : α) (h : i < xs.length) : xs.drop i = nthI xs (i : Int) d :: xs.drop (i + 1) := by
  rw [nthI_nat, List.getD_eq_getElem?_getD, List.getElem?_eq_getElem h]; exact List.drop_eq_getElem_cons h
theorem cneI {x y : Int} {k : Option Bool} : (bif (x != y) then some false else k) = bif decide (x = y) then k else some false := by
  by_cases h : x = y
  · rw [cnn h, cdp h]
  · rw [cnp h, cdn h]
theorem cneB {x y : Bool} {k : Option Bool} : (bif (!(x == y)) then some false else k) = bif decide (x = y) then k else some false := by
  cases x <;> cases y <;> rfl
theorem cnotb {r : Bool} {k : Option Bool} : (bif (!r) then some false else k) = bif r then k else some false := by cases r <;> rfl
theorem cds {p q : Prop} [Decidable p] [Decidable q] : (bif decide p then some (decide q) else some false) = some (decide (p ∧ q)) := by
  by_cases p <;> by_cases q <;> simp_all
theorem cdt {p : Prop} [Decidable p] : (bif decide p then some true else some false) = some (decide p) := by by_cases p <;> simp_all
theorem sdec {p q : Prop} [Decidable p] [Decidable q] (h : q ↔ p) : some (decide q) = some (decide p) := congrArg some (decide_eq_decide.mpr h)
theorem sfal {p : Prop} [Decidable p] (h : ¬ p) : some false = some (decide p) := by rw [decide_eq_false h]
theorem stru {p : Prop} [Decidable p] (h : p) : some true = some (decide p) := by rw [decide_eq_true h]
theorem sbool {b : Bool} {p : Prop} [Decidable p] (h : b = true ↔ p) : some b = some (decide p) := by
  by_cases c : p
  · rw [h.2 c, decide_eq_true c]
  · rw [decide_eq_false c, Bool.eq_false_iff.2 fun e => c (h.1 e)]
theorem sum_mem {l : List Nat} {x : Nat} (h : x ∈ l) : x ≤ l.sum := by
  induction l with
  | nil => cases h
  | cons y l ih =>
    rw [List.sum_cons]
    rcases List.mem_cons.1 h with rfl | h
    · omega
    · have := ih h; omega
theorem toLoop {α : Type} (F : Nat → Int → List α → Option (List α)) (a : List α) (d : α) (hn : a.length ≤ 1000000000000)
    (hs : ∀ (i m : Nat) (xs : List α), i < a.length → xs.length = a.length → F (m + 1) (i : Int) xs = F m ((i + 1 : Nat) : Int) (xs.set i (nthI a (i : Int) d)))
    (he : ∀ (m : Nat) (xs : List α), F (m + 1) (a.length : Int) xs = some xs) (xs : List α) (hx : xs.length = a.length) : F fu 0 xs = some a := by
  obtain ⟨M, hM⟩ := fu_ge a.length hn
  have h1 : ∀ k i : Nat, ∀ xs : List α, xs.length = a.length → i ≤ a.length → a.length - i = k → xs.take i = a.take i → F (k + 1 + M) (i : Int) xs = some a := by
    intro k
    induction k with
    | zero =>
      intro i xs hx hi hd ht
      obtain rfl : i = a.length := by omega
      rw [List.take_of_length_le (by omega), List.take_of_length_le (by omega)] at ht
      subst ht
      rw [show 0 + 1 + M = M + 1 from by omega]
      exact he M xs
    | succ k ih =>
      intro i xs hx hi hd ht
      have hi2 : i < a.length := by omega
      rw [show k + 1 + 1 + M = (k + 1 + M) + 1 from by omega, hs i _ xs hi2 hx]
      refine ih (i + 1) _ (by simpa using hx) (by omega) (by omega) ?_
      rw [nthI_nat, List.getD_eq_getElem?_getD, List.getElem?_eq_getElem hi2, Option.getD_some, List.take_add_one, List.take_add_one, List.take_set_of_le (Nat.le_refl i), ht]
      simp [show i < xs.length from by omega, hi2]
  rw [hM]
  exact h1 a.length 0 xs hx (by omega) (by omega) (by simp)
theorem eqLoop {α : Type} [DecidableEq α] (F : Nat → Int → Option Bool) (a b : List α) (d : α) (hl : a.length = b.length) (hn : a.length ≤ 1000000000000)
    (hs : ∀ (i m : Nat), i < a.length → F (m + 1) (i : Int) = bif decide (nthI a (i : Int) d = nthI b (i : Int) d) then F m ((i + 1 : Nat) : Int) else some false)
    (he : ∀ m : Nat, F (m + 1) (a.length : Int) = some true) : F fu 0 = some (decide (a = b)) := by
  obtain ⟨M, hM⟩ := fu_ge a.length hn
  have h1 : ∀ k i : Nat, i ≤ a.length → a.length - i = k → F (k + 1 + M) (i : Int) = some (decide (a.drop i = b.drop i)) := by
    intro k
    induction k with
    | zero =>
      intro i hi hd
      obtain rfl : i = a.length := by omega
      rw [show 0 + 1 + M = M + 1 from by omega, he, List.drop_of_length_le (by omega), List.drop_of_length_le (by omega)]
      simp
    | succ k ih =>
      intro i hi hd
      rw [show k + 1 + 1 + M = (k + 1 + M) + 1 from by omega, hs i _ (by omega), drop_at a i d (by omega), drop_at b i d (by omega), ih (i + 1) (by omega) (by omega)]
      by_cases e : nthI a (i : Int) d = nthI b (i : Int) d
      · rw [cdp e, e]
        generalize nthI b (i : Int) d = x
        simp
      · rw [cdn e]
        generalize nthI b (i : Int) d = x at *
        generalize nthI a (i : Int) d = y at *
        simp [e]
  rw [hM]
  simpa using h1 a.length 0 (by omega) (by omega)
theorem eqTop {α : Type} [DecidableEq α] (a b : List α) {k : Option Bool} (h : a.length = b.length → k = some (decide (a = b))) : (bif ((a.length : Int) != (b.length : Int)) then some false else k) = some (decide (a = b)) := by
  by_cases e : a.length = b.length
  · rw [cnn (by omega), h e]
  · rw [cnp (by omega), decide_eq_false (fun h => e (by rw [h]))]
theorem szLoop {α : Type} (F : Nat → Int → Int → Option Int) (a : List α) (d : α) (c : α → Nat) (hn : a.length ≤ 1000000000000)
    (hs : ∀ (i m : Nat) (l : Int), i < a.length → 0 ≤ l → l ≤ 1000000000000 → F (m + 1) l (i : Int) = if (c (nthI a (i : Int) d) : Int) ≤ l then F m (l - (c (nthI a (i : Int) d) : Int)) ((i + 1 : Nat) : Int) else some (-1))
    (he : ∀ (m : Nat) (l : Int), F (m + 1) l (a.length : Int) = some l) (l : Int) (h0 : 0 ≤ l) (h1 : l ≤ 1000000000000) : F fu l 0 = some (if (((a.map c).sum : Nat) : Int) ≤ l then l - (((a.map c).sum : Nat) : Int) else -1) := by
  obtain ⟨M, hM⟩ := fu_ge a.length hn
  have h2 : ∀ k i : Nat, ∀ l : Int, 0 ≤ l → l ≤ 1000000000000 → i ≤ a.length → a.length - i = k → F (k + 1 + M) l (i : Int) = some (if ((((a.drop i).map c).sum : Nat) : Int) ≤ l then l - ((((a.drop i).map c).sum : Nat) : Int) else -1) := by
    intro k
    induction k with
    | zero =>
      intro i l h0 h1 hi hd
      obtain rfl : i = a.length := by omega
      rw [show 0 + 1 + M = M + 1 from by omega, he, List.drop_of_length_le (by omega)]
      simp [h0]
    | succ k ih =>
      intro i l h0 h1 hi hd
      rw [show k + 1 + 1 + M = (k + 1 + M) + 1 from by omega, hs i _ l (by omega) h0 h1, drop_at a i d (by omega), List.map_cons, List.sum_cons]
      by_cases e : (c (nthI a (i : Int) d) : Int) ≤ l
      · rw [if_pos e, ih (i + 1) _ (by omega) (by omega) (by omega) (by omega)]
        congr 1
        split <;> split <;> omega
      · rw [if_neg e, if_neg (by omega)]
  rw [hM]
  simpa using h2 a.length 0 l h0 h1 (by omega) (by omega)
/-! Marking -/
def markAll {α : Type} (m1 : Int → α → α) (w1 : α → Nat) : Int → List α → List α
  | _, [] => []
  | k, x :: xs => m1 k x :: markAll m1 w1 (k + (w1 x : Int)) xs
theorem markAll_length {α : Type} (m1 : Int → α → α) (w1 : α → Nat) : ∀ (a : List α) (k : Int), (markAll m1 w1 k a).length = a.length
  | [], _ => rfl
  | x :: xs, k => by simp [markAll, markAll_length m1 w1 xs]
theorem sum_const {α : Type} (w : α → Nat) (a : List α) (n : Nat) (h : ∀ x, w x = n) : (a.map w).sum = n * a.length := by
  induction a with
  | nil => simp
  | cons x xs ih => simp [h x, ih, Nat.mul_add]; omega
theorem cmod3 : decide ((3 : Int) = 0) = false := rfl
theorem markLoop {α : Type} (F : Nat → Int → Int → List α → Option (Int × List α)) (m1 : Int → α → α) (w1 : α → Nat) (a : List α) (d : α) (nl : Nat) (hw : ∀ x, w1 x = nl) {k : Int} (h0 : 0 ≤ k) (hn : a.length ≤ 1000000000000) (hc : k + (nl : Int) * (a.length : Int) ≤ 1000000000000)
    (hs : ∀ (i m : Nat) (k : Int) (xs : List α), i < a.length → xs.length = a.length → 0 ≤ k → k + (nl : Int) ≤ 1000000000000 → F (m + 1) k (i : Int) xs = F m (k + (nl : Int)) ((i + 1 : Nat) : Int) (xs.set i (m1 k (nthI xs (i : Int) d))))
    (he : ∀ (m : Nat) (k : Int) (xs : List α), xs.length = a.length → F (m + 1) k (a.length : Int) xs = some (k, xs)) : F fu k 0 a = some (k + (nl : Int) * (a.length : Int), markAll m1 w1 k a) := by
  obtain ⟨M, hM⟩ := fu_ge a.length hn
  have h1 : ∀ q i : Nat, ∀ (k : Int) (xs : List α), xs.length = a.length → i ≤ a.length → a.length - i = q → 0 ≤ k → k + (nl : Int) * (q : Int) ≤ 1000000000000 → F (q + 1 + M) k (i : Int) xs = some (k + (nl : Int) * (q : Int), xs.take i ++ markAll m1 w1 k (xs.drop i)) := by
    intro q
    induction q with
    | zero =>
      intro i k xs hx hi hd h0 hc
      obtain rfl : i = a.length := by omega
      rw [show 0 + 1 + M = M + 1 from by omega, he _ _ _ hx, List.take_of_length_le (by omega), List.drop_of_length_le (by omega)]
      simp [markAll]
    | succ q ih =>
      intro i k xs hx hi hd h0 hc
      have e : (nl : Int) * ((q + 1 : Nat) : Int) = (nl : Int) * (q : Int) + nl := by rw [Int.natCast_add, Int.mul_add]; simp
      have hq : 0 ≤ (nl : Int) * (q : Int) := Int.mul_nonneg (by omega) (by omega)
      rw [e] at hc ⊢
      rw [show q + 1 + 1 + M = (q + 1 + M) + 1 from by omega, hs i _ k xs (by omega) hx h0 (by omega), ih (i + 1) _ _ (by simpa using hx) (by omega) (by omega) (by omega) (by omega), drop_at xs i d (by omega), markAll, hw]
      have hi2 : i < xs.length := by omega
      rw [List.take_add_one, List.getElem?_set_self hi2, List.take_set_of_le (Nat.le_refl i), List.drop_set_of_lt (by omega)]
      simp
      omega
  rw [hM]
  have := h1 a.length 0 k a rfl (by omega) (by omega) h0 hc
  simpa using this
theorem markAll_nth {α : Type} (m1 : Int → α → α) (w1 : α → Nat) (nl : Nat) (hw : ∀ x, w1 x = nl) (d : α) : ∀ (a : List α) (k : Int) (i : Nat), i < a.length → nthI (markAll m1 w1 k a) (i : Int) d = m1 (k + (nl : Int) * (i : Int)) (nthI a (i : Int) d)
  | [], _, i, h => by simp at h
  | x :: xs, k, 0, _ => by simp [markAll, nthI]
  | x :: xs, k, i + 1, h => by
    have := markAll_nth m1 w1 nl hw d xs (k + (w1 x : Int)) i (by simpa using h)
    rw [nthI_nat, nthI_nat] at this ⊢
    rw [markAll, List.getD_cons_succ, List.getD_cons_succ, this, hw, Int.natCast_add, Int.mul_add]
    congr 1
    omega
theorem heldLoop {α : Type} (F : Nat → Int → Int → Option Int) (m1 : Int → α → α) (w1 : α → Nat) (a : List α) (d : α) (nl : Nat) (hw : ∀ x, w1 x = nl) (k : Int) (h0 : 0 ≤ k) (hn : a.length ≤ 1000000000000) (hc : k + (nl : Int) * (a.length : Int) ≤ 1000000000000)
    (hs : ∀ (i m : Nat) (j : Int), i < a.length → 0 ≤ j → j + (nl : Int) ≤ 1000000000000 → nthI (markAll m1 w1 k a) (i : Int) d = m1 j (nthI a (i : Int) d) → F (m + 1) j (i : Int) = F m (j + (nl : Int)) ((i + 1 : Nat) : Int))
    (he : ∀ (m : Nat) (j : Int), F (m + 1) j (a.length : Int) = some j) : F fu k 0 = some (k + (nl : Int) * (a.length : Int)) := by
  obtain ⟨M, hM⟩ := fu_ge a.length hn
  have h1 : ∀ q i : Nat, i ≤ a.length → a.length - i = q → F (q + 1 + M) (k + (nl : Int) * (i : Int)) (i : Int) = some (k + (nl : Int) * (a.length : Int)) := by
    intro q
    induction q with
    | zero =>
      intro i hi hd
      obtain rfl : i = a.length := by omega
      rw [show 0 + 1 + M = M + 1 from by omega, he]
    | succ q ih =>
      intro i hi hd
      have e : (nl : Int) * ((i + 1 : Nat) : Int) = (nl : Int) * (i : Int) + nl := by rw [Int.natCast_add, Int.mul_add]; simp
      have hq : 0 ≤ (nl : Int) * (i : Int) := Int.mul_nonneg (by omega) (by omega)
      have hle : (nl : Int) * ((i + 1 : Nat) : Int) ≤ (nl : Int) * (a.length : Int) := Int.mul_le_mul_of_nonneg_left (by omega) (by omega)
      rw [show q + 1 + 1 + M = (q + 1 + M) + 1 from by omega, hs i _ _ (by omega) (by omega) (by omega) (markAll_nth m1 w1 nl hw d a k i (by omega))]
      have := ih (i + 1) (by omega) (by omega)
      rw [e] at this
      rw [show k + (nl : Int) * (i : Int) + (nl : Int) = k + ((nl : Int) * (i : Int) + (nl : Int)) from by omega]
      exact this
  rw [hM]
  have := h1 a.length 0 (by omega) (by omega)
  simpa using this
def bInt (x : Int) : Prop := (Lit.int .i64 x).wf = true
abbrev TTok : Type := Int × Int
def bTok (x : TTok) : Prop := ((Lit.int .i64 x.1).wf = true ∧ (Lit.int .i64 x.2).wf = true)
theorem szTokS_eq (left : Int) (a : List TTok) (h0 : 0 ≤ left) (h1 : left ≤ 1000000000000) (hm : a.length ≤ maxLen ∧ ∀ x ∈ a, bTok x) : L.szTokS left a = some (if ((a.length : Nat) : Int) ≤ left then left - ((a.length : Nat) : Int) else -1) := by
  have hl : a.length ≤ 9223372036854775807 := hm.1
  unfold L.szTokS
  simp only []
  rw [w64 (by omega) (by omega)]
  by_cases h : ((a.length : Nat) : Int) ≤ left
  · rw [cdn (by omega), if_pos h]
  · rw [cdp (by omega), if_neg h]
abbrev TWinDef : Type := Int × Int × Int
def bWinDef (x : TWinDef) : Prop := ((Lit.int .i64 x.1).wf = true ∧ (Lit.int .i64 x.2.1).wf = true ∧ (Lit.int .i64 x.2.2).wf = true)
abbrev TQuery : Type := List TTok × List TTok × (TWinDef) × Int × Int
def cQuery (x : TQuery) : Nat := (x.1).length + (x.2.1).length
def cQueryS (a : List TQuery) : Nat := a.length + (a.map cQuery).sum
theorem cQueryS_mem {a : List TQuery} {x : TQuery} (h : x ∈ a) : cQuery x ≤ cQueryS a := by
  have := sum_mem (List.mem_map.2 ⟨x, h, rfl⟩ : cQuery x ∈ a.map cQuery)
  unfold cQueryS; omega
def bQuery (x : TQuery) : Prop := ((x.1.length ≤ maxLen ∧ ∀ y ∈ x.1, bTok y) ∧ (x.2.1.length ≤ maxLen ∧ ∀ y ∈ x.2.1, bTok y) ∧ ((Lit.int .i64 x.2.2.1.1).wf = true ∧ (Lit.int .i64 x.2.2.1.2.1).wf = true ∧ (Lit.int .i64 x.2.2.1.2.2).wf = true) ∧ (Lit.int .i64 x.2.2.2.1).wf = true ∧ (Lit.int .i64 x.2.2.2.2).wf = true)
theorem szQuery_eq (x : TQuery) (left : Int) (h0 : 0 ≤ left) (h1 : left ≤ 1000000000000) (hb : bQuery x) : L.szQuery x.2.2.1.1 x.2.2.1.2.1 x.2.2.1.2.2 x.2.2.2.1 x.2.2.2.2 left x.1 x.2.1 = some (if (cQuery x : Int) ≤ left then left - (cQuery x : Int) else -1) := by
  unfold bQuery at hb
  unfold L.szQuery cQuery
  rw [szTokS_eq _ x.1 (by omega) (by omega) hb.1, Option.bind_some]
  by_cases h0 : (((x.1).length : Nat) : Int) ≤ left
  · rw [if_pos h0, cdn (by omega)]
    rw [szTokS_eq _ x.2.1 (by omega) (by omega) hb.2.1, Option.bind_some]
    by_cases h1 : (((x.2.1).length : Nat) : Int) ≤ left - (((x.1).length : Nat) : Int)
    · rw [if_pos h1, cdn (by omega)]
      rw [if_pos (by omega)]
      congr 1; omega
    · rw [if_neg h1, cdp (by omega), if_neg (by omega)]
  · rw [if_neg h0, cdp (by omega), if_neg (by omega)]
theorem toTok_eq (x : TTok) : L.toTok x.1 x.2 = some (x.1, x.2) := by
  rfl
theorem toTokS_eq (a : List TTok) (hc : a.length ≤ 1000000000000) : L.toTokS a = some a := by
  have hn := hc
  unfold L.toTokS
  simp only []
  rw [cdp (by omega)]
  refine toLoop (fun m i xs => L.toTokS_l0 m (fun y => some y) i a xs) a ((0 : Int), (0 : Int)) hn (fun i m xs hi hx => ?_) (fun m xs => ?_) _ (by simp)
  · show L.toTokS_l0 (m + 1) _ _ _ _ = L.toTokS_l0 m _ _ _ _
    rw [L.toTokS_l0, cdp (by omega), cdp (by omega), toTok_eq (nthI a (i : Int) ((0 : Int), (0 : Int))), Option.bind_some, cdp (by omega), w64 (by omega) (by omega)]
    rfl
  · show L.toTokS_l0 (m + 1) _ _ _ _ = _
    rw [L.toTokS_l0, cdn (by omega)]
theorem toWinDef_eq (x : TWinDef) : L.toWinDef x.1 x.2.1 x.2.2 = some (x.1, x.2.1, x.2.2) := by
  rfl
theorem toQuery_eq (x : TQuery) (hc : cQuery x ≤ 1000000000000) : L.toQuery x.2.2.1.1 x.2.2.1.2.1 x.2.2.1.2.2 x.2.2.2.1 x.2.2.2.2 x.1 x.2.1 = some (x.2.2.1.1, x.2.2.1.2.1, x.2.2.1.2.2, x.2.2.2.1, x.2.2.2.2, x.1, x.2.1) := by
  unfold L.toQuery
  unfold cQuery at hc
  simp only [toTokS_eq x.1 (by omega), toTokS_eq x.2.1 (by omega), toWinDef_eq x.2.2.1, Option.bind_some]
theorem eqTok_eq (x y : TTok) : L.eqTok x.1 x.2 y.1 y.2 = some (decide (x = y)) := by
  unfold L.eqTok
  simp only [cneI, cneB, cnotb, cds, cdt, Option.bind_some]
  exact congrArg some (decide_eq_decide.mpr (by simp only [Prod.ext_iff, and_assoc]))
theorem eqTokS_eq (a b : List TTok) (hc : a.length ≤ 1000000000000) : L.eqTokS a b = some (decide (a = b)) := by
  have hn := hc
  unfold L.eqTokS
  refine eqTop a b ?_
  intro hl
  refine eqLoop (fun m i => L.eqTokS_l0 m (fun y => some y) (some true) i a b) a b ((0 : Int), (0 : Int)) hl hn (fun i m hi => ?_) (fun m => ?_)
  · show L.eqTokS_l0 (m + 1) _ _ _ _ _ = bif _ then L.eqTokS_l0 m _ _ _ _ _ else _
    rw [L.eqTokS_l0, cdp (by omega), cdp (by omega), cdp (by omega), eqTok_eq (nthI a (i : Int) ((0 : Int), (0 : Int))) (nthI b (i : Int) ((0 : Int), (0 : Int))), Option.bind_some, cnotb, w64 (by omega) (by omega)]
    rfl
  · show L.eqTokS_l0 (m + 1) _ _ _ _ _ = _
    rw [L.eqTokS_l0, cdn (by omega)]
theorem eqWinDef_eq (x y : TWinDef) : L.eqWinDef x.1 x.2.1 x.2.2 y.1 y.2.1 y.2.2 = some (decide (x = y)) := by
  unfold L.eqWinDef
  simp only [cneI, cneB, cnotb, cds, cdt, Option.bind_some]
  exact congrArg some (decide_eq_decide.mpr (by simp only [Prod.ext_iff, and_assoc]))
theorem eqQuery_eq (x y : TQuery) (hc : cQuery x ≤ 1000000000000) : L.eqQuery x.2.2.1.1 x.2.2.1.2.1 x.2.2.1.2.2 x.2.2.2.1 x.2.2.2.2 y.2.2.1.1 y.2.2.1.2.1 y.2.2.1.2.2 y.2.2.2.1 y.2.2.2.2 x.1 x.2.1 y.1 y.2.1 = some (decide (x = y)) := by
  unfold cQuery at hc
  unfold L.eqQuery
  simp only [eqTokS_eq x.1 y.1 (by omega), eqTokS_eq x.2.1 y.2.1 (by omega), eqWinDef_eq x.2.2.1 y.2.2.1, cneI, cneB, cnotb, cds, cdt, Option.bind_some]
  exact congrArg some (decide_eq_decide.mpr (by simp only [Prod.ext_iff, and_assoc]))
theorem in_eq (a b c : Int) : I.in a b c = some (decide (b ≤ a ∧ a ≤ c)) := by unfold I.in; rw [cond_some, cond_and, dand]
/-! Expressions, windows, kinds: what is valid -/
def takesF (op : Int) : Int := if op ≤ 3 then 0 else if op = 11 then 1 else 2
theorem takesF_le (op : Int) : 0 ≤ takesF op ∧ takesF op ≤ 2 := by unfold takesF; split <;> (try split) <;> omega
theorem sTakes_eq (a : Int) : S.l03Takes a = some (takesF a) := by
  unfold S.l03Takes takesF
  by_cases h : a ≤ 3
  · rw [cdp h, if_pos h]
  · rw [cdn h, if_neg h]
    by_cases h2 : a = 11
    · rw [cep h2, if_pos h2]
    · rw [cen h2, if_neg h2]
theorem iTakes_eq (a b : Int) : I.Tok_takes a b = some (takesF a) := by
  unfold I.Tok_takes takesF
  by_cases h : a ≤ 3
  · rw [cdp h, if_pos h]
  · rw [cdn h, if_neg h]
    by_cases h2 : a = 11
    · rw [cep h2, if_pos h2]
    · rw [cen h2, if_neg h2]
/-- An operation that fits onto so many numbers. -/
def tokFits (t : Int × Int) (n : Int) : Prop := (0 ≤ t.1 ∧ t.1 ≤ 11) ∧ (t.1 = 0 ∨ t.2 = 0) ∧ takesF t.1 ≤ n
instance (t : Int × Int) (n : Int) : Decidable (tokFits t n) := by unfold tokFits; exact inferInstance
def depthGo : List (Int × Int) → Int → Int → Option (Int × Int)
  | [], n, mo => some (n, mo)
  | t :: ts, n, mo => if tokFits t n then depthGo ts (n - takesF t.1 + 1) (max mo (n - takesF t.1 + 1)) else none
def depthF (x : List (Int × Int)) : Int :=
  if 1 ≤ x.length ∧ x.length ≤ 20 then
    match depthGo x 0 0 with
    | some r => if r.1 = 1 then r.2 else -1
    | none => -1
  else -1
theorem depthGo_le : ∀ (x : List (Int × Int)) (n mo : Int) (r : Int × Int), n ≤ mo → depthGo x n mo = some r → r.1 ≤ r.2
  | [], n, mo, r, h, e => by simp only [depthGo, Option.some.injEq] at e; subst e; exact h
  | t :: ts, n, mo, r, h, e => by
    simp only [depthGo] at e
    split at e
    · exact depthGo_le ts _ _ r (by omega) e
    · cases e
theorem depthF_cases (x : List (Int × Int)) : depthF x = -1 ∨ 1 ≤ depthF x := by
  unfold depthF
  split
  · split
    · rename_i r hr
      split
      · have := depthGo_le x 0 0 r (by omega) hr; omega
      · omega
    · omega
  · omega
theorem max_if (a b : Int) : (if a > b then a else b) = max b a := by split <;> omega
theorem sDepth_l (e0 : Int → Int → Int → Option Int) (e1 : Int → Int → Option Int) (he : ∀ a b, e0 (-1) a b = some (-1)) (x : List (Int × Int)) (hx : x.length ≤ 20) (m : Nat) : ∀ (d i : Nat) (n mo : Int), i + d = x.length → 0 ≤ n → n ≤ i →
    S.l03Depth_l0 (d + 1 + m) e0 e1 n mo (i : Int) x = match depthGo (x.drop i) n mo with | some r => e1 r.1 r.2 | none => some (-1) := by
  intro d
  induction d with
  | zero =>
    intro i n mo hi h0 h1
    rw [show 0 + 1 + m = m + 1 from by omega, S.l03Depth_l0, cdn (by omega), List.drop_of_length_le (by omega)]
    rfl
  | succ d ih =>
    intro i n mo hi h0 h1
    rw [show d + 1 + 1 + m = (d + 1 + m) + 1 from by omega, S.l03Depth_l0, cdp (by omega), drop_at x i ((0 : Int), (0 : Int)) (by omega), depthGo]
    generalize nthI x (i : Int) ((0 : Int), (0 : Int)) = t
    have hdec : decide ((0 : Int) ≤ (i : Int) ∧ (i : Int) < (x.length : Int)) = true := by simp; omega
    have ht := takesF_le t.1
    simp only [hdec, cond_true, sTakes_eq, Option.bind_some]
    by_cases c1 : t.1 < 0
    · rw [cdp c1, if_neg (by unfold tokFits; omega), he]
    rw [cdn c1]
    by_cases c2 : 11 < t.1
    · rw [cdp c2, if_neg (by unfold tokFits; omega), he]
    rw [cdn c2]
    have fin : (bif decide (n < takesF t.1) then e0 (-1) n mo else
        S.l03Depth_l0 (d + 1 + m) e0 e1 (IntKind.i64.wrap (IntKind.i64.wrap (n - takesF t.1) + 1)) (if IntKind.i64.wrap (IntKind.i64.wrap (n - takesF t.1) + 1) > mo then IntKind.i64.wrap (IntKind.i64.wrap (n - takesF t.1) + 1) else mo) (IntKind.i64.wrap ((i : Int) + 1)) x) =
        if takesF t.1 ≤ n then (match depthGo (x.drop (i + 1)) (n - takesF t.1 + 1) (max mo (n - takesF t.1 + 1)) with | some r => e1 r.1 r.2 | none => some (-1)) else some (-1) := by
      by_cases c5 : n < takesF t.1
      · rw [cdp c5, if_neg (by omega), he]
      · rw [cdn c5, w64 (n := n - takesF t.1) (by omega) (by omega), w64 (n := n - takesF t.1 + 1) (by omega) (by omega), w64 (n := (i : Int) + 1) (by omega) (by omega), max_if, if_pos (by omega)]
        exact ih (i + 1) _ _ (by omega) (by omega) (by omega)
    by_cases c3 : t.1 = 0
    · rw [cnn c3, fin]
      by_cases c5 : takesF t.1 ≤ n
      · rw [if_pos c5, if_pos ⟨by omega, .inl c3, c5⟩]
      · rw [if_neg c5, if_neg (fun h => c5 h.2.2)]
    · rw [cnp c3]
      by_cases c4 : t.2 = 0
      · rw [cnn c4, fin]
        by_cases c5 : takesF t.1 ≤ n
        · rw [if_pos c5, if_pos ⟨by omega, .inr c4, c5⟩]
        · rw [if_neg c5, if_neg (fun h => c5 h.2.2)]
      · rw [cnp c4, he, if_neg (by unfold tokFits; omega)]
theorem iDepth_l (e0 : Int → Int → Int → Option Int) (e1 : Int → Int → Option Int) (he : ∀ a b, e0 (-1) a b = some (-1)) (x : List (Int × Int)) (hx : x.length ≤ 20) (m : Nat) : ∀ (d i : Nat) (n mo : Int), i + d = x.length → 0 ≤ n → n ≤ i →
    I.depth_l0 (d + 1 + m) e0 e1 n mo (x.length : Int) (i : Int) x = match depthGo (x.drop i) n mo with | some r => e1 r.1 r.2 | none => some (-1) := by
  intro d
  induction d with
  | zero =>
    intro i n mo hi h0 h1
    rw [show 0 + 1 + m = m + 1 from by omega, I.depth_l0, cdn (by omega), List.drop_of_length_le (by omega)]
    rfl
  | succ d ih =>
    intro i n mo hi h0 h1
    rw [show d + 1 + 1 + m = (d + 1 + m) + 1 from by omega, I.depth_l0, cdp (by omega), drop_at x i ((0 : Int), (0 : Int)) (by omega), depthGo]
    generalize nthI x (i : Int) ((0 : Int), (0 : Int)) = t
    have hdec : decide ((0 : Int) ≤ (i : Int) ∧ (i : Int) < (x.length : Int)) = true := by simp; omega
    have ht := takesF_le t.1
    simp only [hdec, cond_true, iTakes_eq, in_eq, Option.bind_some]
    by_cases c1 : ¬ (0 ≤ t.1 ∧ t.1 ≤ 11)
    · rw [decide_eq_false c1, Bool.not_false, cond_true, if_neg (fun h => c1 h.1), he]
    have c1 := Decidable.not_not.1 c1
    rw [decide_eq_true c1, Bool.not_true, cond_false]
    have fin : (bif decide (n < takesF t.1) then e0 (-1) n mo else
        I.depth_l0 (d + 1 + m) e0 e1 (IntKind.i64.wrap (n + IntKind.i64.wrap (1 - takesF t.1))) (if IntKind.i64.wrap (n + IntKind.i64.wrap (1 - takesF t.1)) > mo then IntKind.i64.wrap (n + IntKind.i64.wrap (1 - takesF t.1)) else mo) (x.length : Int) (IntKind.i64.wrap ((i : Int) + 1)) x) =
        if takesF t.1 ≤ n then (match depthGo (x.drop (i + 1)) (n - takesF t.1 + 1) (max mo (n - takesF t.1 + 1)) with | some r => e1 r.1 r.2 | none => some (-1)) else some (-1) := by
      by_cases c5 : n < takesF t.1
      · rw [cdp c5, if_neg (by omega), he]
      · rw [cdn c5, w64 (n := 1 - takesF t.1) (by omega) (by omega), w64 (n := n + (1 - takesF t.1)) (by omega) (by omega), w64 (n := (i : Int) + 1) (by omega) (by omega), max_if, if_pos (by omega), show n + (1 - takesF t.1) = n - takesF t.1 + 1 from by omega]
        exact ih (i + 1) _ _ (by omega) (by omega) (by omega)
    by_cases c3 : t.1 = 0
    · rw [cnn c3, fin]
      by_cases c5 : takesF t.1 ≤ n
      · rw [if_pos c5, if_pos ⟨by omega, .inl c3, c5⟩]
      · rw [if_neg c5, if_neg (fun h => c5 h.2.2)]
    · rw [cnp c3]
      by_cases c4 : t.2 = 0
      · rw [cnn c4, fin]
        by_cases c5 : takesF t.1 ≤ n
        · rw [if_pos c5, if_pos ⟨by omega, .inr c4, c5⟩]
        · rw [if_neg c5, if_neg (fun h => c5 h.2.2)]
      · rw [cnp c4, he, if_neg (by unfold tokFits; omega)]
theorem sDepth_eq (x : List (Int × Int)) : S.l03Depth x = some (depthF x) := by
  unfold S.l03Depth depthF
  by_cases h1 : x.length < 1
  · rw [cdp (by omega), if_neg (by omega)]
  rw [cdn (by omega)]
  by_cases h2 : 20 < x.length
  · rw [cdp (by omega), if_neg (by omega)]
  rw [cdn (by omega), if_pos (by omega)]
  obtain ⟨m, hm⟩ := fu_ge x.length (by omega)
  have := sDepth_l (fun y30 y31 y32 => some y30) (fun y33 y34 => bif (y33 != 1) then some (-1) else some y34) (fun _ _ => rfl) x (by omega) m x.length 0 0 0 (by omega) (by omega) (by omega)
  rw [hm]
  refine this.trans ?_
  rw [List.drop_zero]
  cases depthGo x 0 0 with
  | none => rfl
  | some r =>
    simp only
    by_cases e : r.1 = 1
    · rw [cnn e, if_pos e]
    · rw [cnp e, if_neg e]
theorem iDepth_eq (x : List (Int × Int)) (hx : x.length ≤ 1000000000000) : I.depth x = some (depthF x) := by
  unfold I.depth depthF
  rw [in_eq, Option.bind_some]
  by_cases h1 : ¬ (1 ≤ x.length ∧ x.length ≤ 20)
  · rw [decide_eq_false (by omega), Bool.not_false, cond_true, if_neg h1]
  have h1 := Decidable.not_not.1 h1
  rw [decide_eq_true (by omega), Bool.not_true, cond_false, if_pos h1]
  obtain ⟨m, hm⟩ := fu_ge x.length (by omega)
  have := iDepth_l (fun y30 y31 y32 => some y30) (fun y33 y34 => bif (y33 != 1) then some (-1) else some y34) (fun _ _ => rfl) x (by omega) m x.length 0 0 0 (by omega) (by omega) (by omega)
  rw [hm]
  refine this.trans ?_
  rw [List.drop_zero]
  cases depthGo x 0 0 with
  | none => rfl
  | some r =>
    simp only
    by_cases e : r.1 = 1
    · rw [cnn e, if_pos e]
    · rw [cnp e, if_neg e]
def exprOk (x : List (Int × Int)) : Prop := 0 < depthF x
instance (x : List (Int × Int)) : Decidable (exprOk x) := by unfold exprOk; exact inferInstance
theorem sExprOk_eq (x : List (Int × Int)) : S.ExprOk x = some (decide (exprOk x)) := by
  unfold S.ExprOk
  rw [sDepth_eq, Option.bind_some]
  have := depthF_cases x
  exact congrArg some (decide_eq_decide.mpr (by unfold exprOk; omega))
theorem iExprOk_eq (x : List (Int × Int)) (hx : x.length ≤ 1000000000000) : I.isExpr x = some (decide (exprOk x)) := by
  unfold I.isExpr
  rw [iDepth_eq x hx, Option.bind_some]
  rfl
def winOk (k s p : Int) : Prop := (1 ≤ s ∧ s ≤ 100) ∧ ((k = 1 ∨ k = 3) ∧ p = 0 ∨ k = 2 ∧ 1 ≤ p ∧ p ≤ s ∧ s ≤ 8 * p)
instance (k s p : Int) : Decidable (winOk k s p) := by unfold winOk; exact inferInstance
theorem sWinOk_eq (k s p : Int) (h0 : -9223372036854775808 ≤ p) (h1 : p < 9223372036854775808) : S.WinOk k s p = some (decide (winOk k s p)) := by
  unfold S.WinOk
  simp only [Bool.cond_eq_ite, decide_eq_true_eq, bne_iff_ne]
  repeat' split
  all_goals first
    | exact sfal (by unfold winOk; omega)
    | exact sbool (by unfold winOk; rw [beq_iff_eq]; omega)
    | (rw [w64 (by omega) (by omega)]; exact sdec (by unfold winOk; omega))
theorem iWinOk_eq (k s p : Int) (h0 : -9223372036854775808 ≤ p) (h1 : p < 9223372036854775808) : I.isWinDef k s p = some (decide (winOk k s p)) := by
  unfold I.isWinDef
  simp only [in_eq, Option.bind_some, Bool.cond_eq_ite, decide_eq_true_eq, bne_iff_ne, beq_iff_eq, Bool.not_eq_true', decide_eq_false_iff_not]
  repeat' split
  all_goals first
    | exact sfal (by unfold winOk; omega)
    | exact sbool (by unfold winOk; rw [beq_iff_eq]; omega)
    | (rw [w64 (by omega) (by omega)]; exact sdec (by unfold winOk; omega))
def aggKind (a b : Int) : Prop := a = 6 ∧ 1 ≤ b ∧ b ≤ 4 ∨ 1 ≤ a ∧ a ≤ 5 ∧ b = 0
instance (a b : Int) : Decidable (aggKind a b) := by unfold aggKind; exact inferInstance
theorem sAggKind_eq (a b : Int) : S.AggKind a b = some (decide (aggKind a b)) := by
  unfold S.AggKind
  simp only [Bool.cond_eq_ite, decide_eq_true_eq, beq_iff_eq]
  repeat' split
  all_goals first
    | exact sfal (by unfold aggKind; omega)
    | exact sbool (by unfold aggKind; rw [beq_iff_eq]; omega)
    | exact sdec (by unfold aggKind; omega)
theorem iAggKind_eq (a b : Int) : I.isAggKind a b = some (decide (aggKind a b)) := by
  unfold I.isAggKind
  simp only [in_eq, Option.bind_some, Bool.cond_eq_ite, decide_eq_true_eq, beq_iff_eq]
  repeat' split
  all_goals first
    | exact sfal (by unfold aggKind; omega)
    | exact sbool (by unfold aggKind; rw [beq_iff_eq]; omega)
    | exact sdec (by unfold aggKind; omega)
def queryOk (k s p a b : Int) (x y : List (Int × Int)) : Prop := exprOk x ∧ exprOk y ∧ winOk k s p ∧ aggKind a b
instance (k s p a b : Int) (x y : List (Int × Int)) : Decidable (queryOk k s p a b x y) := by unfold queryOk; exact inferInstance
theorem sQueryOk_eq (k s p a b : Int) (x y : List (Int × Int)) (h0 : -9223372036854775808 ≤ p) (h1 : p < 9223372036854775808) : S.QueryOk k s p a b x y = some (decide (queryOk k s p a b x y)) := by
  unfold S.QueryOk
  simp only [sExprOk_eq, sWinOk_eq k s p h0 h1, sAggKind_eq, Option.bind_some, cds]
  exact sdec Iff.rfl
theorem iQueryOk_eq (k s p a b : Int) (x y : List (Int × Int)) (h0 : -9223372036854775808 ≤ p) (h1 : p < 9223372036854775808) (hx : x.length ≤ 1000000000000) (hy : y.length ≤ 1000000000000) : I.isQuery k s p a b x y = some (decide (queryOk k s p a b x y)) := by
  unfold I.isQuery
  simp only [iExprOk_eq x hx, iExprOk_eq y hy, iWinOk_eq k s p h0 h1, iAggKind_eq, Option.bind_some, cds]
  exact sdec Iff.rfl
theorem FnExactQueryOk : StmtFnExactQueryOk.Stmt := by
  intro x y k s p a b hx hy hk hs hp ha hb
  have hp' := i64_wf hp
  have hsz : L.szQuery k s p a b 1048576 x y = some (if ((x.length + y.length : Nat) : Int) ≤ 1048576 then 1048576 - ((x.length + y.length : Nat) : Int) else -1) := szQuery_eq (x, y, (k, s, p), a, b) 1048576 (by omega) (by omega) ⟨hx, hy, ⟨hk, hs, hp⟩, ha, hb⟩
  unfold L.FnExactQueryOk
  rw [hsz, Option.bind_some]
  by_cases h : ((x.length + y.length : Nat) : Int) ≤ 1048576
  · have hto : L.toQuery k s p a b x y = some (k, s, p, a, b, x, y) := toQuery_eq (x, y, (k, s, p), a, b) (show x.length + y.length ≤ _ by omega)
    have heq : L.eqQuery k s p a b k s p a b x y x y = some (decide (_ = _)) := eqQuery_eq (x, y, (k, s, p), a, b) (x, y, (k, s, p), a, b) (show x.length + y.length ≤ _ by omega)
    rw [if_pos h, cdn (by omega)]
    unfold I.QueryOk
    simp only [hto, Option.bind_some, sQueryOk_eq k s p a b x y hp'.1 hp'.2, iQueryOk_eq k s p a b x y hp'.1 hp'.2 (by omega) (by omega), heq, decide_true, beq_self_eq_true, Bool.not_true, cond_false]
  · rw [if_neg h, cdp (by omega)]
end Go.Proofs.Ytflagchmcnfigaa.Pure
