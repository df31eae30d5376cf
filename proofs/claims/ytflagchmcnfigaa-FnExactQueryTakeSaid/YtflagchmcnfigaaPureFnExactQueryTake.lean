/- QueryTake of the program returns what the reference's returns. For every argument. -/
import Derived.Test.YtflagchmcnfigaaStmtFnExactQueryTake
import Derived.Laws.BitsLemmas
import Derived.Laws.BitsAllLaws
import Derived.Laws.Bits64b
namespace Go.Proofs.Ytflagchmcnfigaa.Pure
open Go Go.RowKit Go.Proofs.Ytflagchmcnfigaa.Run Go.Proofs.Ytflagchmcnfigaa.StmtFnExactQueryTake Go.Proofs.YtflagchmcnfigaaW.PrintWords Go.Proofs.Ytflagchmcnfigaa.Vm
set_option linter.unusedVariables false
set_option linter.unusedSimpArgs false
/-! General words -/
theorem cdp {α : Type} {p : Prop} [Decidable p] {a b : α} (h : p) : (bif decide p then a else b) = a := by simp [h]
theorem cdn {α : Type} {p : Prop} [Decidable p] {a b : α} (h : ¬ p) : (bif decide p then a else b) = b := by simp [h]
theorem cnp {α : Type} {x y : Int} {a b : α} (h : x ≠ y) : (bif (x != y) then a else b) = a := by rw [show (x != y) = true from by simpa using h]; rfl
theorem cnn {α : Type} {x y : Int} {a b : α} (h : x = y) : (bif (x != y) then a else b) = b := by simp [bne, h]
theorem cep {α : Type} {x y : Int} {a b : α} (h : x = y) : (bif (x == y) then a else b) = a := by simp [h]
theorem cen {α : Type} {x y : Int} {a b : α} (h : x ≠ y) : (bif (x == y) then a else b) = b := by rw [show (x == y) = false from by simpa using h]; rfl
theorem cond_some {α : Type} (c : Bool) (x y : α) : (bif c then some x else some y) = some (bif c then x else y) := by cases c <;> rfl
theorem cond_and (c x : Bool) : (bif c then x else false) = (c && x) := by cases c <;> rfl
theorem dand (p q : Prop) [Decidable p] [Decidable q] : (decide p && decide q) = decide (p ∧ q) := by by_cases p <;> by_cases q <;> simp_all
theorem w64 {n : Int} (h0 : -9223372036854775808 ≤ n) (h1 : n < 9223372036854775808) : IntKind.i64.wrap n = n := by rw [IntKind.wrap_i64]; omega
theorem u64_mod (n : Int) : IntKind.u64.wrap n = n % 18446744073709551616 := by simp [IntKind.wrap, IntKind.bits, IntKind.signed]
theorem u64w {n : Int} (h0 : 0 ≤ n) (h1 : n < 18446744073709551616) : IntKind.u64.wrap n = n := by rw [u64_mod]; omega
theorem u8_mod (n : Int) : IntKind.u8.wrap n = n % 256 := by simp [IntKind.wrap, IntKind.bits, IntKind.signed]
theorem i64_wf {n : Int} (h : (Lit.int .i64 n).wf = true) : -9223372036854775808 ≤ n ∧ n < 9223372036854775808 := by
  simp only [Lit.wf, IntKind.min, IntKind.max, IntKind.signed, IntKind.bits, Bool.and_eq_true, decide_eq_true_eq, if_true] at h
  omega
theorem u8_wf {n : Int} (h : (Lit.int .u8 n).wf = true) : 0 ≤ n ∧ n < 256 := by
  simp [Lit.wf, IntKind.min, IntKind.max, IntKind.signed, IntKind.bits, Bool.and_eq_true] at h
  omega
theorem tmod_nat (n : Int) (m : Int) (h : 0 ≤ n) : Int.tmod n m = n % m := Int.tmod_eq_emod_of_nonneg h
theorem tdiv_nat (n : Int) (m : Int) (h : 0 ≤ n) : Int.tdiv n m = n / m := Int.tdiv_eq_ediv_of_nonneg h
theorem bits_or_128 (x : Int) (h0 : 0 ≤ x) (h1 : x < 256) : Go.bits .or .u8 x 128 = 128 + x % 128 := by
  obtain ⟨n, rfl⟩ := Int.eq_ofNat_of_zero_le h0
  have hn : n < 256 := by omega
  have key : ∀ m : Fin 256, Go.bits .or .u8 ((m.val : Nat) : Int) 128 = 128 + ((m.val : Nat) : Int) % 128 := by decide +kernel
  exact key ⟨n, hn⟩
theorem bits_xor_zero (x : Int) (h0 : 0 ≤ x) (h1 : x < 18446744073709551616) : Go.bits .xor .u64 x 0 = x := by
  obtain ⟨n, rfl⟩ := Int.eq_ofNat_of_zero_le h0
  have hn : n < 18446744073709551616 := by omega
  show IntKind.u64.wrap (((BitVec.ofInt 64 ((n : Nat) : Int)) ^^^ (BitVec.ofInt 64 0)).toNat : Int) = n
  have e : (BitVec.ofInt 64 0) = 0#64 := by decide
  rw [e, BitVec.xor_zero, BitVec.ofInt_natCast, BitVec.toNat_ofNat, u64_mod]
  omega
theorem bits_xor_ones (x : Int) (h0 : 0 ≤ x) (h1 : x < 18446744073709551616) : Go.bits .xor .u64 x 18446744073709551615 = 18446744073709551615 - x := by
  obtain ⟨n, rfl⟩ := Int.eq_ofNat_of_zero_le h0
  have hn : n < 18446744073709551616 := by omega
  show IntKind.u64.wrap (((BitVec.ofInt 64 ((n : Nat) : Int)) ^^^ (BitVec.ofInt 64 18446744073709551615)).toNat : Int) = 18446744073709551615 - n
  have e : (BitVec.ofInt 64 18446744073709551615) = BitVec.allOnes 64 := by decide
  rw [e, BitVec.xor_allOnes, BitVec.toNat_not, BitVec.ofInt_natCast, BitVec.toNat_ofNat, u64_mod]
  omega
theorem fu_ge (d : Nat) (h : d ≤ 1000000000000) : ∃ m, fu = d + 1 + m := ⟨fu - d - 1, by rw [fu_eq]; omega⟩
theorem nthI_nat {α : Type} (xs : List α) (i : Nat) (d : α) : nthI xs (i : Int) d = xs.getD i d := rfl
theorem drop_nth (xs : List Int) (i : Nat) (h : i < xs.length) : xs.drop i = nthI xs (i : Int) 0 :: xs.drop (i + 1) := by
  rw [nthI_nat, List.getD_eq_getElem?_getD, List.getElem?_eq_getElem h]; exact List.drop_eq_getElem_cons h
/-! Loops over lists -/
theorem nthI_mem {α : Type} (a : List α) (i : Nat) (d : α) (h : i < a.length) : nthI a (i : Int) d ∈ a := by
  rw [nthI_nat, List.getD_eq_getElem?_getD, List.getElem?_eq_getElem h]; simp
theorem nthI_set {α : Type} (xs : List α) (i : Nat) (y d : α) (h : i < xs.length) : nthI (xs.set i y) (i : Int) d = y := by
  rw [nthI_nat, List.getD_eq_getElem?_getD, List.getElem?_set_self h]; rfl
theorem drop_at {α : Type} (xs : List α) (i : Nat) (d : α) (h : i < xs.length) : xs.drop i = nthI xs (i : Int) d :: xs.drop (i + 1) := by
  rw [nthI_nat, List.getD_eq_getElem?_getD, List.getElem?_eq_getElem h]; exact List.drop_eq_getElem_cons h
theorem cneI {x y : Int} {k : Option Bool} : (bif (x != y) then some false else k) = bif decide (x = y) then k else some false := by
  by_cases h : x = y
  · rw [cnn h, cdp h]
  · rw [cnp h, cdn h]
theorem cneB {x y : Bool} {k : Option Bool} : (bif (!(x == y)) then some false else k) = bif decide (x = y) then k else some false := by
  cases x <;> cases y <;> rfl
theorem cnotb {r : Bool} {k : Option Bool} : (bif (!r) then some false else k) = bif r then k else some false := by cases r <;> rfl
theorem cds {p q : Prop} [Decidable p] [Decidable q] : (bif decide p then some (decide q) else some false) = some (decide (p ∧ q)) := by
  by_cases p <;> by_cases q <;> simp_all
theorem cdt {p : Prop} [Decidable p] : (bif decide p then some true else some false) = some (decide p) := by by_cases p <;> simp_all
theorem sdec {p q : Prop} [Decidable p] [Decidable q] (h : q ↔ p) : some (decide q) = some (decide p) := congrArg some (decide_eq_decide.mpr h)
theorem sfal {p : Prop} [Decidable p] (h : ¬ p) : some false = some (decide p) := by rw [decide_eq_false h]
theorem stru {p : Prop} [Decidable p] (h : p) : some true = some (decide p) := by rw [decide_eq_true h]
theorem sbool {b : Bool} {p : Prop} [Decidable p] (h : b = true ↔ p) : some b = some (decide p) := by
  by_cases c : p
  · rw [h.2 c, decide_eq_true c]
  · rw [decide_eq_false c, Bool.eq_false_iff.2 fun e => c (h.1 e)]
theorem sum_mem {l : List Nat} {x : Nat} (h : x ∈ l) : x ≤ l.sum := by
  induction l with
  | nil => cases h
  | cons y l ih =>
    rw [List.sum_cons]
    rcases List.mem_cons.1 h with rfl | h
    · omega
    · have := ih h; omega
theorem toLoop {α : Type} (F : Nat → Int → List α → Option (List α)) (a : List α) (d : α) (hn : a.length ≤ 1000000000000)
    (hs : ∀ (i m : Nat) (xs : List α), i < a.length → xs.length = a.length → F (m + 1) (i : Int) xs = F m ((i + 1 : Nat) : Int) (xs.set i (nthI a (i : Int) d)))
    (he : ∀ (m : Nat) (xs : List α), F (m + 1) (a.length : Int) xs = some xs) (xs : List α) (hx : xs.length = a.length) : F fu 0 xs = some a := by
  obtain ⟨M, hM⟩ := fu_ge a.length hn
  have h1 : ∀ k i : Nat, ∀ xs : List α, xs.length = a.length → i ≤ a.length → a.length - i = k → xs.take i = a.take i → F (k + 1 + M) (i : Int) xs = some a := by
    intro k
    induction k with
    | zero =>
      intro i xs hx hi hd ht
      obtain rfl : i = a.length := by omega
      rw [List.take_of_length_le (by omega), List.take_of_length_le (by omega)] at ht
      subst ht
      rw [show 0 + 1 + M = M + 1 from by omega]
      exact he M xs
    | succ k ih =>
      intro i xs hx hi hd ht
      have hi2 : i < a.length := by omega
      rw [show k + 1 + 1 + M = (k + 1 + M) + 1 from by omega, hs i _ xs hi2 hx]
      refine ih (i + 1) _ (by simpa using hx) (by omega) (by omega) ?_
      rw [nthI_nat, List.getD_eq_getElem?_getD, List.getElem?_eq_getElem hi2, Option.getD_some, List.take_add_one, List.take_add_one, List.take_set_of_le (Nat.le_refl i), ht]
      simp [show i < xs.length from by omega, hi2]
  rw [hM]
  exact h1 a.length 0 xs hx (by omega) (by omega) (by simp)
theorem eqLoop {α : Type} [DecidableEq α] (F : Nat → Int → Option Bool) (a b : List α) (d : α) (hl : a.length = b.length) (hn : a.length ≤ 1000000000000)
    (hs : ∀ (i m : Nat), i < a.length → F (m + 1) (i : Int) = bif decide (nthI a (i : Int) d = nthI b (i : Int) d) then F m ((i + 1 : Nat) : Int) else some false)
    (he : ∀ m : Nat, F (m + 1) (a.length : Int) = some true) : F fu 0 = some (decide (a = b)) := by
  obtain ⟨M, hM⟩ := fu_ge a.length hn
  have h1 : ∀ k i : Nat, i ≤ a.length → a.length - i = k → F (k + 1 + M) (i : Int) = some (decide (a.drop i = b.drop i)) := by
    intro k
    induction k with
    | zero =>
      intro i hi hd
      obtain rfl : i = a.length := by omega
      rw [show 0 + 1 + M = M + 1 from by omega, he, List.drop_of_length_le (by omega), List.drop_of_length_le (by omega)]
      simp
    | succ k ih =>
      intro i hi hd
      rw [show k + 1 + 1 + M = (k + 1 + M) + 1 from by omega, hs i _ (by omega), drop_at a i d (by omega), drop_at b i d (by omega), ih (i + 1) (by omega) (by omega)]
      by_cases e : nthI a (i : Int) d = nthI b (i : Int) d
      · rw [cdp e, e]
        generalize nthI b (i : Int) d = x
        simp
      · rw [cdn e]
        generalize nthI b (i : Int) d = x at *
        generalize nthI a (i : Int) d = y at *
        simp [e]
  rw [hM]
  simpa using h1 a.length 0 (by omega) (by omega)
theorem eqTop {α : Type} [DecidableEq α] (a b : List α) {k : Option Bool} (h : a.length = b.length → k = some (decide (a = b))) : (bif ((a.length : Int) != (b.length : Int)) then some false else k) = some (decide (a = b)) := by
  by_cases e : a.length = b.length
  · rw [cnn (by omega), h e]
  · rw [cnp (by omega), decide_eq_false (fun h => e (by rw [h]))]
theorem szLoop {α : Type} (F : Nat → Int → Int → Option Int) (a : List α) (d : α) (c : α → Nat) (hn : a.length ≤ 1000000000000)
    (hs : ∀ (i m : Nat) (l : Int), i < a.length → 0 ≤ l → l ≤ 1000000000000 → F (m + 1) l (i : Int) = if (c (nthI a (i : Int) d) : Int) ≤ l then F m (l - (c (nthI a (i : Int) d) : Int)) ((i + 1 : Nat) : Int) else some (-1))
    (he : ∀ (m : Nat) (l : Int), F (m + 1) l (a.length : Int) = some l) (l : Int) (h0 : 0 ≤ l) (h1 : l ≤ 1000000000000) : F fu l 0 = some (if (((a.map c).sum : Nat) : Int) ≤ l then l - (((a.map c).sum : Nat) : Int) else -1) := by
  obtain ⟨M, hM⟩ := fu_ge a.length hn
  have h2 : ∀ k i : Nat, ∀ l : Int, 0 ≤ l → l ≤ 1000000000000 → i ≤ a.length → a.length - i = k → F (k + 1 + M) l (i : Int) = some (if ((((a.drop i).map c).sum : Nat) : Int) ≤ l then l - ((((a.drop i).map c).sum : Nat) : Int) else -1) := by
    intro k
    induction k with
    | zero =>
      intro i l h0 h1 hi hd
      obtain rfl : i = a.length := by omega
      rw [show 0 + 1 + M = M + 1 from by omega, he, List.drop_of_length_le (by omega)]
      simp [h0]
    | succ k ih =>
      intro i l h0 h1 hi hd
      rw [show k + 1 + 1 + M = (k + 1 + M) + 1 from by omega, hs i _ l (by omega) h0 h1, drop_at a i d (by omega), List.map_cons, List.sum_cons]
      by_cases e : (c (nthI a (i : Int) d) : Int) ≤ l
      · rw [if_pos e, ih (i + 1) _ (by omega) (by omega) (by omega) (by omega)]
        congr 1
        split <;> split <;> omega
      · rw [if_neg e, if_neg (by omega)]
  rw [hM]
  simpa using h2 a.length 0 l h0 h1 (by omega) (by omega)
/-! Marking -/
def markAll {α : Type} (m1 : Int → α → α) (w1 : α → Nat) : Int → List α → List α
  | _, [] => []
  | k, x :: xs => m1 k x :: markAll m1 w1 (k + (w1 x : Int)) xs
theorem markAll_length {α : Type} (m1 : Int → α → α) (w1 : α → Nat) : ∀ (a : List α) (k : Int), (markAll m1 w1 k a).length = a.length
  | [], _ => rfl
  | x :: xs, k => by simp [markAll, markAll_length m1 w1 xs]
theorem sum_const {α : Type} (w : α → Nat) (a : List α) (n : Nat) (h : ∀ x, w x = n) : (a.map w).sum = n * a.length := by
  induction a with
  | nil => simp
  | cons x xs ih => simp [h x, ih, Nat.mul_add]; omega
theorem cmod3 : decide ((3 : Int) = 0) = false := rfl
theorem markLoop {α : Type} (F : Nat → Int → Int → List α → Option (Int × List α)) (m1 : Int → α → α) (w1 : α → Nat) (a : List α) (d : α) (nl : Nat) (hw : ∀ x, w1 x = nl) {k : Int} (h0 : 0 ≤ k) (hn : a.length ≤ 1000000000000) (hc : k + (nl : Int) * (a.length : Int) ≤ 1000000000000)
    (hs : ∀ (i m : Nat) (k : Int) (xs : List α), i < a.length → xs.length = a.length → 0 ≤ k → k + (nl : Int) ≤ 1000000000000 → F (m + 1) k (i : Int) xs = F m (k + (nl : Int)) ((i + 1 : Nat) : Int) (xs.set i (m1 k (nthI xs (i : Int) d))))
    (he : ∀ (m : Nat) (k : Int) (xs : List α), xs.length = a.length → F (m + 1) k (a.length : Int) xs = some (k, xs)) : F fu k 0 a = some (k + (nl : Int) * (a.length : Int), markAll m1 w1 k a) := by
  obtain ⟨M, hM⟩ := fu_ge a.length hn
  have h1 : ∀ q i : Nat, ∀ (k : Int) (xs : List α), xs.length = a.length → i ≤ a.length → a.length - i = q → 0 ≤ k → k + (nl : Int) * (q : Int) ≤ 1000000000000 → F (q + 1 + M) k (i : Int) xs = some (k + (nl : Int) * (q : Int), xs.take i ++ markAll m1 w1 k (xs.drop i)) := by
    intro q
    induction q with
    | zero =>
      intro i k xs hx hi hd h0 hc
      obtain rfl : i = a.length := by omega
      rw [show 0 + 1 + M = M + 1 from by omega, he _ _ _ hx, List.take_of_length_le (by omega), List.drop_of_length_le (by omega)]
      simp [markAll]
    | succ q ih =>
      intro i k xs hx hi hd h0 hc
      have e : (nl : Int) * ((q + 1 : Nat) : Int) = (nl : Int) * (q : Int) + nl := by rw [Int.natCast_add, Int.mul_add]; simp
      have hq : 0 ≤ (nl : Int) * (q : Int) := Int.mul_nonneg (by omega) (by omega)
      rw [e] at hc ⊢
      rw [show q + 1 + 1 + M = (q + 1 + M) + 1 from by omega, hs i _ k xs (by omega) hx h0 (by omega), ih (i + 1) _ _ (by simpa using hx) (by omega) (by omega) (by omega) (by omega), drop_at xs i d (by omega), markAll, hw]
      have hi2 : i < xs.length := by omega
      rw [List.take_add_one, List.getElem?_set_self hi2, List.take_set_of_le (Nat.le_refl i), List.drop_set_of_lt (by omega)]
      simp
      omega
  rw [hM]
  have := h1 a.length 0 k a rfl (by omega) (by omega) h0 hc
  simpa using this
theorem markAll_nth {α : Type} (m1 : Int → α → α) (w1 : α → Nat) (nl : Nat) (hw : ∀ x, w1 x = nl) (d : α) : ∀ (a : List α) (k : Int) (i : Nat), i < a.length → nthI (markAll m1 w1 k a) (i : Int) d = m1 (k + (nl : Int) * (i : Int)) (nthI a (i : Int) d)
  | [], _, i, h => by simp at h
  | x :: xs, k, 0, _ => by simp [markAll, nthI]
  | x :: xs, k, i + 1, h => by
    have := markAll_nth m1 w1 nl hw d xs (k + (w1 x : Int)) i (by simpa using h)
    rw [nthI_nat, nthI_nat] at this ⊢
    rw [markAll, List.getD_cons_succ, List.getD_cons_succ, this, hw, Int.natCast_add, Int.mul_add]
    congr 1
    omega
theorem heldLoop {α : Type} (F : Nat → Int → Int → Option Int) (m1 : Int → α → α) (w1 : α → Nat) (a : List α) (d : α) (nl : Nat) (hw : ∀ x, w1 x = nl) (k : Int) (h0 : 0 ≤ k) (hn : a.length ≤ 1000000000000) (hc : k + (nl : Int) * (a.length : Int) ≤ 1000000000000)
    (hs : ∀ (i m : Nat) (j : Int), i < a.length → 0 ≤ j → j + (nl : Int) ≤ 1000000000000 → nthI (markAll m1 w1 k a) (i : Int) d = m1 j (nthI a (i : Int) d) → F (m + 1) j (i : Int) = F m (j + (nl : Int)) ((i + 1 : Nat) : Int))
    (he : ∀ (m : Nat) (j : Int), F (m + 1) j (a.length : Int) = some j) : F fu k 0 = some (k + (nl : Int) * (a.length : Int)) := by
  obtain ⟨M, hM⟩ := fu_ge a.length hn
  have h1 : ∀ q i : Nat, i ≤ a.length → a.length - i = q → F (q + 1 + M) (k + (nl : Int) * (i : Int)) (i : Int) = some (k + (nl : Int) * (a.length : Int)) := by
    intro q
    induction q with
    | zero =>
      intro i hi hd
      obtain rfl : i = a.length := by omega
      rw [show 0 + 1 + M = M + 1 from by omega, he]
    | succ q ih =>
      intro i hi hd
      have e : (nl : Int) * ((i + 1 : Nat) : Int) = (nl : Int) * (i : Int) + nl := by rw [Int.natCast_add, Int.mul_add]; simp
      have hq : 0 ≤ (nl : Int) * (i : Int) := Int.mul_nonneg (by omega) (by omega)
      have hle : (nl : Int) * ((i + 1 : Nat) : Int) ≤ (nl : Int) * (a.length : Int) := Int.mul_le_mul_of_nonneg_left (by omega) (by omega)
      rw [show q + 1 + 1 + M = (q + 1 + M) + 1 from by omega, hs i _ _ (by omega) (by omega) (by omega) (markAll_nth m1 w1 nl hw d a k i (by omega))]
      have := ih (i + 1) (by omega) (by omega)
      rw [e] at this
      rw [show k + (nl : Int) * (i : Int) + (nl : Int) = k + ((nl : Int) * (i : Int) + (nl : Int)) from by omega]
      exact this
  rw [hM]
  have := h1 a.length 0 (by omega) (by omega)
  simpa using this
def bInt (x : Int) : Prop := (Lit.int .i64 x).wf = true
abbrev TTok : Type := Int × Int
def bTok (x : TTok) : Prop := ((Lit.int .i64 x.1).wf = true ∧ (Lit.int .i64 x.2).wf = true)
theorem szTokS_eq (left : Int) (a : List TTok) (h0 : 0 ≤ left) (h1 : left ≤ 1000000000000) (hm : a.length ≤ maxLen ∧ ∀ x ∈ a, bTok x) : L.szTokS left a = some (if ((a.length : Nat) : Int) ≤ left then left - ((a.length : Nat) : Int) else -1) := by
  have hl : a.length ≤ 9223372036854775807 := hm.1
  unfold L.szTokS
  simp only []
  rw [w64 (by omega) (by omega)]
  by_cases h : ((a.length : Nat) : Int) ≤ left
  · rw [cdn (by omega), if_pos h]
  · rw [cdp (by omega), if_neg h]
abbrev TWinDef : Type := Int × Int × Int
def bWinDef (x : TWinDef) : Prop := ((Lit.int .i64 x.1).wf = true ∧ (Lit.int .i64 x.2.1).wf = true ∧ (Lit.int .i64 x.2.2).wf = true)
abbrev TQuery : Type := List TTok × List TTok × (TWinDef) × Int × Int
def cQuery (x : TQuery) : Nat := (x.1).length + (x.2.1).length
def cQueryS (a : List TQuery) : Nat := a.length + (a.map cQuery).sum
theorem cQueryS_mem {a : List TQuery} {x : TQuery} (h : x ∈ a) : cQuery x ≤ cQueryS a := by
  have := sum_mem (List.mem_map.2 ⟨x, h, rfl⟩ : cQuery x ∈ a.map cQuery)
  unfold cQueryS; omega
def bQuery (x : TQuery) : Prop := ((x.1.length ≤ maxLen ∧ ∀ y ∈ x.1, bTok y) ∧ (x.2.1.length ≤ maxLen ∧ ∀ y ∈ x.2.1, bTok y) ∧ ((Lit.int .i64 x.2.2.1.1).wf = true ∧ (Lit.int .i64 x.2.2.1.2.1).wf = true ∧ (Lit.int .i64 x.2.2.1.2.2).wf = true) ∧ (Lit.int .i64 x.2.2.2.1).wf = true ∧ (Lit.int .i64 x.2.2.2.2).wf = true)
theorem szQuery_eq (x : TQuery) (left : Int) (h0 : 0 ≤ left) (h1 : left ≤ 1000000000000) (hb : bQuery x) : L.szQuery x.2.2.1.1 x.2.2.1.2.1 x.2.2.1.2.2 x.2.2.2.1 x.2.2.2.2 left x.1 x.2.1 = some (if (cQuery x : Int) ≤ left then left - (cQuery x : Int) else -1) := by
  unfold bQuery at hb
  unfold L.szQuery cQuery
  rw [szTokS_eq _ x.1 (by omega) (by omega) hb.1, Option.bind_some]
  by_cases h0 : (((x.1).length : Nat) : Int) ≤ left
  · rw [if_pos h0, cdn (by omega)]
    rw [szTokS_eq _ x.2.1 (by omega) (by omega) hb.2.1, Option.bind_some]
    by_cases h1 : (((x.2.1).length : Nat) : Int) ≤ left - (((x.1).length : Nat) : Int)
    · rw [if_pos h1, cdn (by omega)]
      rw [if_pos (by omega)]
      congr 1; omega
    · rw [if_neg h1, cdp (by omega), if_neg (by omega)]
  · rw [if_neg h0, cdp (by omega), if_neg (by omega)]
theorem toTok_eq (x : TTok) : L.toTok x.1 x.2 = some (x.1, x.2) := by
  rfl
theorem toTokS_eq (a : List TTok) (hc : a.length ≤ 1000000000000) : L.toTokS a = some a := by
  have hn := hc
  unfold L.toTokS
  simp only []
  rw [cdp (by omega)]
  refine toLoop (fun m i xs => L.toTokS_l0 m (fun y => some y) i a xs) a ((0 : Int), (0 : Int)) hn (fun i m xs hi hx => ?_) (fun m xs => ?_) _ (by simp)
  · show L.toTokS_l0 (m + 1) _ _ _ _ = L.toTokS_l0 m _ _ _ _
    rw [L.toTokS_l0, cdp (by omega), cdp (by omega), toTok_eq (nthI a (i : Int) ((0 : Int), (0 : Int))), Option.bind_some, cdp (by omega), w64 (by omega) (by omega)]
    rfl
  · show L.toTokS_l0 (m + 1) _ _ _ _ = _
    rw [L.toTokS_l0, cdn (by omega)]
theorem toWinDef_eq (x : TWinDef) : L.toWinDef x.1 x.2.1 x.2.2 = some (x.1, x.2.1, x.2.2) := by
  rfl
theorem toQuery_eq (x : TQuery) (hc : cQuery x ≤ 1000000000000) : L.toQuery x.2.2.1.1 x.2.2.1.2.1 x.2.2.1.2.2 x.2.2.2.1 x.2.2.2.2 x.1 x.2.1 = some (x.2.2.1.1, x.2.2.1.2.1, x.2.2.1.2.2, x.2.2.2.1, x.2.2.2.2, x.1, x.2.1) := by
  unfold L.toQuery
  unfold cQuery at hc
  simp only [toTokS_eq x.1 (by omega), toTokS_eq x.2.1 (by omega), toWinDef_eq x.2.2.1, Option.bind_some]
abbrev TElem : Type := Int × Int × Int × Int
def bElem (x : TElem) : Prop := ((Lit.int .i64 x.1).wf = true ∧ (Lit.int .i64 x.2.1).wf = true ∧ (Lit.int .i64 x.2.2.1).wf = true ∧ (Lit.int .i64 x.2.2.2).wf = true)
theorem toElem_eq (x : TElem) : L.toElem x.1 x.2.1 x.2.2.1 x.2.2.2 = some (x.1, x.2.1, x.2.2.1, x.2.2.2) := by
  rfl
theorem eqTok_eq (x y : TTok) : L.eqTok x.1 x.2 y.1 y.2 = some (decide (x = y)) := by
  unfold L.eqTok
  simp only [cneI, cneB, cnotb, cds, cdt, Option.bind_some]
  exact congrArg some (decide_eq_decide.mpr (by simp only [Prod.ext_iff, and_assoc]))
theorem eqTokS_eq (a b : List TTok) (hc : a.length ≤ 1000000000000) : L.eqTokS a b = some (decide (a = b)) := by
  have hn := hc
  unfold L.eqTokS
  refine eqTop a b ?_
  intro hl
  refine eqLoop (fun m i => L.eqTokS_l0 m (fun y => some y) (some true) i a b) a b ((0 : Int), (0 : Int)) hl hn (fun i m hi => ?_) (fun m => ?_)
  · show L.eqTokS_l0 (m + 1) _ _ _ _ _ = bif _ then L.eqTokS_l0 m _ _ _ _ _ else _
    rw [L.eqTokS_l0, cdp (by omega), cdp (by omega), cdp (by omega), eqTok_eq (nthI a (i : Int) ((0 : Int), (0 : Int))) (nthI b (i : Int) ((0 : Int), (0 : Int))), Option.bind_some, cnotb, w64 (by omega) (by omega)]
    rfl
  · show L.eqTokS_l0 (m + 1) _ _ _ _ _ = _
    rw [L.eqTokS_l0, cdn (by omega)]
theorem eqWinDef_eq (x y : TWinDef) : L.eqWinDef x.1 x.2.1 x.2.2 y.1 y.2.1 y.2.2 = some (decide (x = y)) := by
  unfold L.eqWinDef
  simp only [cneI, cneB, cnotb, cds, cdt, Option.bind_some]
  exact congrArg some (decide_eq_decide.mpr (by simp only [Prod.ext_iff, and_assoc]))
theorem eqQuery_eq (x y : TQuery) (hc : cQuery x ≤ 1000000000000) : L.eqQuery x.2.2.1.1 x.2.2.1.2.1 x.2.2.1.2.2 x.2.2.2.1 x.2.2.2.2 y.2.2.1.1 y.2.2.1.2.1 y.2.2.1.2.2 y.2.2.2.1 y.2.2.2.2 x.1 x.2.1 y.1 y.2.1 = some (decide (x = y)) := by
  unfold cQuery at hc
  unfold L.eqQuery
  simp only [eqTokS_eq x.1 y.1 (by omega), eqTokS_eq x.2.1 y.2.1 (by omega), eqWinDef_eq x.2.2.1 y.2.2.1, cneI, cneB, cnotb, cds, cdt, Option.bind_some]
  exact congrArg some (decide_eq_decide.mpr (by simp only [Prod.ext_iff, and_assoc]))
theorem in_eq (a b c : Int) : I.in a b c = some (decide (b ≤ a ∧ a ≤ c)) := by unfold I.in; rw [cond_some, cond_and, dand]
/-! Expressions, windows, kinds: what is valid -/
def takesF (op : Int) : Int := if op ≤ 3 then 0 else if op = 11 then 1 else 2
theorem takesF_le (op : Int) : 0 ≤ takesF op ∧ takesF op ≤ 2 := by unfold takesF; split <;> (try split) <;> omega
theorem sTakes_eq (a : Int) : S.l03Takes a = some (takesF a) := by
  unfold S.l03Takes takesF
  by_cases h : a ≤ 3
  · rw [cdp h, if_pos h]
  · rw [cdn h, if_neg h]
    by_cases h2 : a = 11
    · rw [cep h2, if_pos h2]
    · rw [cen h2, if_neg h2]
theorem iTakes_eq (a b : Int) : I.Tok_takes a b = some (takesF a) := by
  unfold I.Tok_takes takesF
  by_cases h : a ≤ 3
  · rw [cdp h, if_pos h]
  · rw [cdn h, if_neg h]
    by_cases h2 : a = 11
    · rw [cep h2, if_pos h2]
    · rw [cen h2, if_neg h2]
/-- An operation that fits onto so many numbers. -/
def tokFits (t : Int × Int) (n : Int) : Prop := (0 ≤ t.1 ∧ t.1 ≤ 11) ∧ (t.1 = 0 ∨ t.2 = 0) ∧ takesF t.1 ≤ n
instance (t : Int × Int) (n : Int) : Decidable (tokFits t n) := by unfold tokFits; exact inferInstance
def depthGo : List (Int × Int) → Int → Int → Option (Int × Int)
  | [], n, mo => some (n, mo)
  | t :: ts, n, mo => if tokFits t n then depthGo ts (n - takesF t.1 + 1) (max mo (n - takesF t.1 + 1)) else none
def depthF (x : List (Int × Int)) : Int :=
  if 1 ≤ x.length ∧ x.length ≤ 20 then
    match depthGo x 0 0 with
    | some r => if r.1 = 1 then r.2 else -1
    | none => -1
  else -1
theorem depthGo_le : ∀ (x : List (Int × Int)) (n mo : Int) (r : Int × Int), n ≤ mo → depthGo x n mo = some r → r.1 ≤ r.2
  | [], n, mo, r, h, e => by simp only [depthGo, Option.some.injEq] at e; subst e; exact h
  | t :: ts, n, mo, r, h, e => by
    simp only [depthGo] at e
    split at e
    · exact depthGo_le ts _ _ r (by omega) e
    · cases e
theorem depthF_cases (x : List (Int × Int)) : depthF x = -1 ∨ 1 ≤ depthF x := by
  unfold depthF
  split
  · split
    · rename_i r hr
      split
      · have := depthGo_le x 0 0 r (by omega) hr; omega
      · omega
    · omega
  · omega
theorem max_if (a b : Int) : (if a > b then a else b) = max b a := by split <;> omega
theorem sDepth_l (e0 : Int → Int → Int → Option Int) (e1 : Int → Int → Option Int) (he : ∀ a b, e0 (-1) a b = some (-1)) (x : List (Int × Int)) (hx : x.length ≤ 20) (m : Nat) : ∀ (d i : Nat) (n mo : Int), i + d = x.length → 0 ≤ n → n ≤ i →
    S.l03Depth_l0 (d + 1 + m) e0 e1 n mo (i : Int) x = match depthGo (x.drop i) n mo with | some r => e1 r.1 r.2 | none => some (-1) := by
  intro d
  induction d with
  | zero =>
    intro i n mo hi h0 h1
    rw [show 0 + 1 + m = m + 1 from by omega, S.l03Depth_l0, cdn (by omega), List.drop_of_length_le (by omega)]
    rfl
  | succ d ih =>
    intro i n mo hi h0 h1
    rw [show d + 1 + 1 + m = (d + 1 + m) + 1 from by omega, S.l03Depth_l0, cdp (by omega), drop_at x i ((0 : Int), (0 : Int)) (by omega), depthGo]
    generalize nthI x (i : Int) ((0 : Int), (0 : Int)) = t
    have hdec : decide ((0 : Int) ≤ (i : Int) ∧ (i : Int) < (x.length : Int)) = true := by simp; omega
    have ht := takesF_le t.1
    simp only [hdec, cond_true, sTakes_eq, Option.bind_some]
    by_cases c1 : t.1 < 0
    · rw [cdp c1, if_neg (by unfold tokFits; omega), he]
    rw [cdn c1]
    by_cases c2 : 11 < t.1
    · rw [cdp c2, if_neg (by unfold tokFits; omega), he]
    rw [cdn c2]
    have fin : (bif decide (n < takesF t.1) then e0 (-1) n mo else
        S.l03Depth_l0 (d + 1 + m) e0 e1 (IntKind.i64.wrap (IntKind.i64.wrap (n - takesF t.1) + 1)) (if IntKind.i64.wrap (IntKind.i64.wrap (n - takesF t.1) + 1) > mo then IntKind.i64.wrap (IntKind.i64.wrap (n - takesF t.1) + 1) else mo) (IntKind.i64.wrap ((i : Int) + 1)) x) =
        if takesF t.1 ≤ n then (match depthGo (x.drop (i + 1)) (n - takesF t.1 + 1) (max mo (n - takesF t.1 + 1)) with | some r => e1 r.1 r.2 | none => some (-1)) else some (-1) := by
      by_cases c5 : n < takesF t.1
      · rw [cdp c5, if_neg (by omega), he]
      · rw [cdn c5, w64 (n := n - takesF t.1) (by omega) (by omega), w64 (n := n - takesF t.1 + 1) (by omega) (by omega), w64 (n := (i : Int) + 1) (by omega) (by omega), max_if, if_pos (by omega)]
        exact ih (i + 1) _ _ (by omega) (by omega) (by omega)
    by_cases c3 : t.1 = 0
    · rw [cnn c3, fin]
      by_cases c5 : takesF t.1 ≤ n
      · rw [if_pos c5, if_pos ⟨by omega, .inl c3, c5⟩]
      · rw [if_neg c5, if_neg (fun h => c5 h.2.2)]
    · rw [cnp c3]
      by_cases c4 : t.2 = 0
      · rw [cnn c4, fin]
        by_cases c5 : takesF t.1 ≤ n
        · rw [if_pos c5, if_pos ⟨by omega, .inr c4, c5⟩]
        · rw [if_neg c5, if_neg (fun h => c5 h.2.2)]
      · rw [cnp c4, he, if_neg (by unfold tokFits; omega)]
theorem iDepth_l (e0 : Int → Int → Int → Option Int) (e1 : Int → Int → Option Int) (he : ∀ a b, e0 (-1) a b = some (-1)) (x : List (Int × Int)) (hx : x.length ≤ 20) (m : Nat) : ∀ (d i : Nat) (n mo : Int), i + d = x.length → 0 ≤ n → n ≤ i →
    I.depth_l0 (d + 1 + m) e0 e1 n mo (x.length : Int) (i : Int) x = match depthGo (x.drop i) n mo with | some r => e1 r.1 r.2 | none => some (-1) := by
  intro d
  induction d with
  | zero =>
    intro i n mo hi h0 h1
    rw [show 0 + 1 + m = m + 1 from by omega, I.depth_l0, cdn (by omega), List.drop_of_length_le (by omega)]
    rfl
  | succ d ih =>
    intro i n mo hi h0 h1
    rw [show d + 1 + 1 + m = (d + 1 + m) + 1 from by omega, I.depth_l0, cdp (by omega), drop_at x i ((0 : Int), (0 : Int)) (by omega), depthGo]
    generalize nthI x (i : Int) ((0 : Int), (0 : Int)) = t
    have hdec : decide ((0 : Int) ≤ (i : Int) ∧ (i : Int) < (x.length : Int)) = true := by simp; omega
    have ht := takesF_le t.1
    simp only [hdec, cond_true, iTakes_eq, in_eq, Option.bind_some]
    by_cases c1 : ¬ (0 ≤ t.1 ∧ t.1 ≤ 11)
    · rw [decide_eq_false c1, Bool.not_false, cond_true, if_neg (fun h => c1 h.1), he]
    have c1 := Decidable.not_not.1 c1
    rw [decide_eq_true c1, Bool.not_true, cond_false]
    have fin : (bif decide (n < takesF t.1) then e0 (-1) n mo else
        I.depth_l0 (d + 1 + m) e0 e1 (IntKind.i64.wrap (n + IntKind.i64.wrap (1 - takesF t.1))) (if IntKind.i64.wrap (n + IntKind.i64.wrap (1 - takesF t.1)) > mo then IntKind.i64.wrap (n + IntKind.i64.wrap (1 - takesF t.1)) else mo) (x.length : Int) (IntKind.i64.wrap ((i : Int) + 1)) x) =
        if takesF t.1 ≤ n then (match depthGo (x.drop (i + 1)) (n - takesF t.1 + 1) (max mo (n - takesF t.1 + 1)) with | some r => e1 r.1 r.2 | none => some (-1)) else some (-1) := by
      by_cases c5 : n < takesF t.1
      · rw [cdp c5, if_neg (by omega), he]
      · rw [cdn c5, w64 (n := 1 - takesF t.1) (by omega) (by omega), w64 (n := n + (1 - takesF t.1)) (by omega) (by omega), w64 (n := (i : Int) + 1) (by omega) (by omega), max_if, if_pos (by omega), show n + (1 - takesF t.1) = n - takesF t.1 + 1 from by omega]
        exact ih (i + 1) _ _ (by omega) (by omega) (by omega)
    by_cases c3 : t.1 = 0
    · rw [cnn c3, fin]
      by_cases c5 : takesF t.1 ≤ n
      · rw [if_pos c5, if_pos ⟨by omega, .inl c3, c5⟩]
      · rw [if_neg c5, if_neg (fun h => c5 h.2.2)]
    · rw [cnp c3]
      by_cases c4 : t.2 = 0
      · rw [cnn c4, fin]
        by_cases c5 : takesF t.1 ≤ n
        · rw [if_pos c5, if_pos ⟨by omega, .inr c4, c5⟩]
        · rw [if_neg c5, if_neg (fun h => c5 h.2.2)]
      · rw [cnp c4, he, if_neg (by unfold tokFits; omega)]
theorem sDepth_eq (x : List (Int × Int)) : S.l03Depth x = some (depthF x) := by
  unfold S.l03Depth depthF
  by_cases h1 : x.length < 1
  · rw [cdp (by omega), if_neg (by omega)]
  rw [cdn (by omega)]
  by_cases h2 : 20 < x.length
  · rw [cdp (by omega), if_neg (by omega)]
  rw [cdn (by omega), if_pos (by omega)]
  obtain ⟨m, hm⟩ := fu_ge x.length (by omega)
  have := sDepth_l (fun y30 y31 y32 => some y30) (fun y33 y34 => bif (y33 != 1) then some (-1) else some y34) (fun _ _ => rfl) x (by omega) m x.length 0 0 0 (by omega) (by omega) (by omega)
  rw [hm]
  refine this.trans ?_
  rw [List.drop_zero]
  cases depthGo x 0 0 with
  | none => rfl
  | some r =>
    simp only
    by_cases e : r.1 = 1
    · rw [cnn e, if_pos e]
    · rw [cnp e, if_neg e]
theorem iDepth_eq (x : List (Int × Int)) (hx : x.length ≤ 1000000000000) : I.depth x = some (depthF x) := by
  unfold I.depth depthF
  rw [in_eq, Option.bind_some]
  by_cases h1 : ¬ (1 ≤ x.length ∧ x.length ≤ 20)
  · rw [decide_eq_false (by omega), Bool.not_false, cond_true, if_neg h1]
  have h1 := Decidable.not_not.1 h1
  rw [decide_eq_true (by omega), Bool.not_true, cond_false, if_pos h1]
  obtain ⟨m, hm⟩ := fu_ge x.length (by omega)
  have := iDepth_l (fun y30 y31 y32 => some y30) (fun y33 y34 => bif (y33 != 1) then some (-1) else some y34) (fun _ _ => rfl) x (by omega) m x.length 0 0 0 (by omega) (by omega) (by omega)
  rw [hm]
  refine this.trans ?_
  rw [List.drop_zero]
  cases depthGo x 0 0 with
  | none => rfl
  | some r =>
    simp only
    by_cases e : r.1 = 1
    · rw [cnn e, if_pos e]
    · rw [cnp e, if_neg e]
def exprOk (x : List (Int × Int)) : Prop := 0 < depthF x
instance (x : List (Int × Int)) : Decidable (exprOk x) := by unfold exprOk; exact inferInstance
theorem sExprOk_eq (x : List (Int × Int)) : S.ExprOk x = some (decide (exprOk x)) := by
  unfold S.ExprOk
  rw [sDepth_eq, Option.bind_some]
  have := depthF_cases x
  exact congrArg some (decide_eq_decide.mpr (by unfold exprOk; omega))
theorem iExprOk_eq (x : List (Int × Int)) (hx : x.length ≤ 1000000000000) : I.isExpr x = some (decide (exprOk x)) := by
  unfold I.isExpr
  rw [iDepth_eq x hx, Option.bind_some]
  rfl
def winOk (k s p : Int) : Prop := (1 ≤ s ∧ s ≤ 100) ∧ ((k = 1 ∨ k = 3) ∧ p = 0 ∨ k = 2 ∧ 1 ≤ p ∧ p ≤ s ∧ s ≤ 8 * p)
instance (k s p : Int) : Decidable (winOk k s p) := by unfold winOk; exact inferInstance
theorem sWinOk_eq (k s p : Int) (h0 : -9223372036854775808 ≤ p) (h1 : p < 9223372036854775808) : S.WinOk k s p = some (decide (winOk k s p)) := by
  unfold S.WinOk
  simp only [Bool.cond_eq_ite, decide_eq_true_eq, bne_iff_ne]
  repeat' split
  all_goals first
    | exact sfal (by unfold winOk; omega)
    | exact sbool (by unfold winOk; rw [beq_iff_eq]; omega)
    | (rw [w64 (by omega) (by omega)]; exact sdec (by unfold winOk; omega))
theorem iWinOk_eq (k s p : Int) (h0 : -9223372036854775808 ≤ p) (h1 : p < 9223372036854775808) : I.isWinDef k s p = some (decide (winOk k s p)) := by
  unfold I.isWinDef
  simp only [in_eq, Option.bind_some, Bool.cond_eq_ite, decide_eq_true_eq, bne_iff_ne, beq_iff_eq, Bool.not_eq_true', decide_eq_false_iff_not]
  repeat' split
  all_goals first
    | exact sfal (by unfold winOk; omega)
    | exact sbool (by unfold winOk; rw [beq_iff_eq]; omega)
    | (rw [w64 (by omega) (by omega)]; exact sdec (by unfold winOk; omega))
def aggKind (a b : Int) : Prop := a = 6 ∧ 1 ≤ b ∧ b ≤ 4 ∨ 1 ≤ a ∧ a ≤ 5 ∧ b = 0
instance (a b : Int) : Decidable (aggKind a b) := by unfold aggKind; exact inferInstance
theorem sAggKind_eq (a b : Int) : S.AggKind a b = some (decide (aggKind a b)) := by
  unfold S.AggKind
  simp only [Bool.cond_eq_ite, decide_eq_true_eq, beq_iff_eq]
  repeat' split
  all_goals first
    | exact sfal (by unfold aggKind; omega)
    | exact sbool (by unfold aggKind; rw [beq_iff_eq]; omega)
    | exact sdec (by unfold aggKind; omega)
theorem iAggKind_eq (a b : Int) : I.isAggKind a b = some (decide (aggKind a b)) := by
  unfold I.isAggKind
  simp only [in_eq, Option.bind_some, Bool.cond_eq_ite, decide_eq_true_eq, beq_iff_eq]
  repeat' split
  all_goals first
    | exact sfal (by unfold aggKind; omega)
    | exact sbool (by unfold aggKind; rw [beq_iff_eq]; omega)
    | exact sdec (by unfold aggKind; omega)
def queryOk (k s p a b : Int) (x y : List (Int × Int)) : Prop := exprOk x ∧ exprOk y ∧ winOk k s p ∧ aggKind a b
instance (k s p a b : Int) (x y : List (Int × Int)) : Decidable (queryOk k s p a b x y) := by unfold queryOk; exact inferInstance
theorem sQueryOk_eq (k s p a b : Int) (x y : List (Int × Int)) (h0 : -9223372036854775808 ≤ p) (h1 : p < 9223372036854775808) : S.QueryOk k s p a b x y = some (decide (queryOk k s p a b x y)) := by
  unfold S.QueryOk
  simp only [sExprOk_eq, sWinOk_eq k s p h0 h1, sAggKind_eq, Option.bind_some, cds]
  exact sdec Iff.rfl
theorem iQueryOk_eq (k s p a b : Int) (x y : List (Int × Int)) (h0 : -9223372036854775808 ≤ p) (h1 : p < 9223372036854775808) (hx : x.length ≤ 1000000000000) (hy : y.length ≤ 1000000000000) : I.isQuery k s p a b x y = some (decide (queryOk k s p a b x y)) := by
  unfold I.isQuery
  simp only [iExprOk_eq x hx, iExprOk_eq y hy, iWinOk_eq k s p h0 h1, iAggKind_eq, Option.bind_some, cds]
  exact sdec Iff.rfl
/-! Elements -/
theorem isSource_eq (a : Int) : I.isSource a = some (decide (0 ≤ a ∧ a ≤ 3)) := by unfold I.isSource; rw [in_eq]; rfl
theorem isTime_eq (a : Int) : I.isTime a = some (decide (0 ≤ a ∧ a ≤ 1000)) := by unfold I.isTime; rw [in_eq]; rfl
theorem isKey_eq (a : Int) : I.isKey a = some (decide (0 ≤ a ∧ a ≤ 15)) := by unfold I.isKey; rw [in_eq]; rfl
theorem isElem_eq (a b c d : Int) : I.isElem a b c d = some (decide ((0 ≤ a ∧ a ≤ 3) ∧ (0 ≤ b ∧ b ≤ 15) ∧ (0 ≤ d ∧ d ≤ 1000))) := by
  unfold I.isElem; simp only [isSource_eq, isKey_eq, isTime_eq, Option.bind_some, cond_some, cond_and, dand]
theorem l04Src_eq (a : Int) : S.l04Src a = some (decide (0 ≤ a ∧ a ≤ 3)) := by
  unfold S.l04Src; rw [cond_some, cond_and, dand]; congr 2; apply propext; omega
theorem l05Time_eq (a : Int) : S.l05Time a = some (decide (0 ≤ a ∧ a ≤ 1000)) := by unfold S.l05Time; rw [cond_some, cond_and, dand]
theorem l04Key_eq (a : Int) : S.l04Key a = some (decide (0 ≤ a ∧ a ≤ 15)) := by unfold S.l04Key; rw [cond_some, cond_and, dand]
theorem ElemOk_eq (a b c d : Int) : S.ElemOk a b c d = some (decide ((0 ≤ a ∧ a ≤ 3) ∧ (0 ≤ b ∧ b ≤ 15) ∧ (0 ≤ d ∧ d ≤ 1000))) := by
  unfold S.ElemOk; simp only [l04Src_eq, l04Key_eq, l05Time_eq, Option.bind_some, cond_some, cond_and, dand]
/-! Wide numbers: a pair that stands for a number, up to multiples of 2^128 -/
def inI (n : Int) : Prop := -9223372036854775808 ≤ n ∧ n < 9223372036854775808
instance (n : Int) : Decidable (inI n) := by unfold inI; exact inferInstance
def inW (n : Int) : Prop := -170141183460469231731687303715884105728 ≤ n ∧ n < 170141183460469231731687303715884105728
def wd (n : Int) : Int × Int := (IntKind.i64.wrap (n / 18446744073709551616), n % 18446744073709551616)
theorem i64_u64 (n : Int) : IntKind.i64.wrap (IntKind.u64.wrap n) = IntKind.i64.wrap n := by rw [u64_mod, IntKind.wrap_i64, IntKind.wrap_i64]; omega
theorem u64_i64 (n : Int) : IntKind.u64.wrap (IntKind.i64.wrap n) = IntKind.u64.wrap n := by rw [u64_mod, u64_mod, IntKind.wrap_i64]; omega
theorem u64_add (a b : Int) : IntKind.u64.wrap (IntKind.u64.wrap a + IntKind.u64.wrap b) = IntKind.u64.wrap (a + b) := by simp only [u64_mod]; omega
theorem i64_add (a b : Int) : IntKind.i64.wrap (IntKind.i64.wrap a + b) = IntKind.i64.wrap (a + b) := by simp only [IntKind.wrap_i64]; omega
theorem i64_add2 (a b : Int) : IntKind.i64.wrap (a + IntKind.i64.wrap b) = IntKind.i64.wrap (a + b) := by simp only [IntKind.wrap_i64]; omega
theorem i64_range (n : Int) : inI (IntKind.i64.wrap n) := by unfold inI; rw [IntKind.wrap_i64]; omega
theorem wd_range (n : Int) : inI (wd n).1 ∧ 0 ≤ (wd n).2 ∧ (wd n).2 < 18446744073709551616 := ⟨i64_range _, by unfold wd; omega, by unfold wd; omega⟩
theorem wd_of {h l n : Int} (h0 : inI h) (h1 : 0 ≤ l) (h2 : l < 18446744073709551616) (hn : n = h * 18446744073709551616 + l) : (h, l) = wd n := by
  unfold inI at h0
  unfold wd
  have e1 : n / 18446744073709551616 = h := by omega
  have e2 : n % 18446744073709551616 = l := by omega
  rw [e1, e2, w64 h0.1 h0.2]
theorem wd_inj {m n : Int} (hm : inW m) (hn : inW n) (h : wd m = wd n) : m = n := by
  unfold inW at hm hn
  unfold wd at h
  simp only [Prod.mk.injEq, IntKind.wrap_i64] at h
  omega
theorem sWideOf_eq (n : Int) (h : inI n) : S.WideOf n = some (wd n) := by
  unfold inI at h
  unfold S.WideOf wd
  have e2 : IntKind.u64.wrap n = n % 18446744073709551616 := u64_mod n
  by_cases c : n < 0
  · rw [cdp c, e2, show n / 18446744073709551616 = -1 from by omega, w64 (by omega) (by omega)]
  · rw [cdn c, e2, show n / 18446744073709551616 = 0 from by omega, w64 (by omega) (by omega)]
theorem sWideAdd_eq (a b : Int) : S.WideAdd (wd a).1 (wd a).2 (wd b).1 (wd b).2 = some (wd (a + b)) := by
  unfold S.WideAdd wd
  simp only [u64_i64, u64_add, i64_u64]
  have ha := Int.mul_ediv_add_emod a 18446744073709551616
  have hb := Int.mul_ediv_add_emod b 18446744073709551616
  have ha2 := Int.emod_lt_of_pos a (show (0 : Int) < 18446744073709551616 by decide)
  have hb2 := Int.emod_lt_of_pos b (show (0 : Int) < 18446744073709551616 by decide)
  have ha0 := Int.emod_nonneg a (show (18446744073709551616 : Int) ≠ 0 by decide)
  have hb0 := Int.emod_nonneg b (show (18446744073709551616 : Int) ≠ 0 by decide)
  generalize a / 18446744073709551616 = A at *
  generalize a % 18446744073709551616 = p at *
  generalize b / 18446744073709551616 = B at *
  generalize b % 18446744073709551616 = q at *
  have e2 : IntKind.u64.wrap (p + q) = (a + b) % 18446744073709551616 := by rw [u64_mod]; omega
  by_cases c : IntKind.u64.wrap (p + q) < p
  · rw [cdp c, e2]
    rw [u64_mod] at c
    have e1 : (a + b) / 18446744073709551616 = A + B + 1 := by omega
    rw [e1]
    congr 2
    rw [u64_mod, IntKind.wrap_i64, IntKind.wrap_i64]
    omega
  · rw [cdn c, e2]
    rw [u64_mod] at c
    have e1 : (a + b) / 18446744073709551616 = A + B := by omega
    rw [e1]
theorem sWideNeg_eq (a : Int) : S.WideNeg (wd a).1 (wd a).2 = some (wd (-a)) := by
  unfold S.WideNeg
  have e1 : (IntKind.i64.wrap (-1 - (wd a).1), IntKind.u64.wrap (18446744073709551615 - (wd a).2)) = wd (-1 - a) := by
    unfold wd
    simp only [Prod.mk.injEq, u64_mod, IntKind.wrap_i64]
    omega
  have h1 := congrArg Prod.fst e1
  have h2 := congrArg Prod.snd e1
  simp only at h1 h2
  have e3 : wd 1 = (0, 1) := by decide
  have := sWideAdd_eq (-1 - a) 1
  rw [e3] at this
  rw [h1, h2, this, show -1 - a + 1 = -a from by omega]
  rfl
theorem sWideInt_eq (n : Int) (h : inW n) : S.WideInt (wd n).1 (wd n).2 = some (if inI n then (n, true) else (0, false)) := by
  unfold S.WideInt
  have hr := i64_range (wd n).2
  simp only [sWideOf_eq _ hr, Option.bind_some]
  have hw : inW (IntKind.i64.wrap (wd n).2) := by unfold inW inI at *; omega
  by_cases c : inI n
  · have e : IntKind.i64.wrap (wd n).2 = n := by unfold inI at c; unfold wd; rw [IntKind.wrap_i64]; omega
    rw [e, if_pos c]; simp
  · have e : wd (IntKind.i64.wrap (wd n).2) ≠ wd n := fun e => by rw [← wd_inj hw h e] at c; exact c hr
    rw [if_neg c]
    have : (((wd (IntKind.i64.wrap (wd n).2)).1 == (wd n).1) && (((wd (IntKind.i64.wrap (wd n).2)).2 == (wd n).2) && true)) = false := by
      rw [Bool.eq_false_iff]
      intro h
      simp only [Bool.and_true, Bool.and_eq_true, beq_iff_eq] at h
      exact e (Prod.ext h.1 h.2)
    rw [this]; rfl
theorem mul_range {a b : Int} (ha : inI a) (hb : inI b) : inW (a * b) := by
  have h1 : a.natAbs ≤ 9223372036854775808 := by unfold inI at ha; omega
  have h2 : b.natAbs ≤ 9223372036854775808 := by unfold inI at hb; omega
  have h3 : (a * b).natAbs ≤ 9223372036854775808 * 9223372036854775808 := by rw [Int.natAbs_mul]; exact Nat.mul_le_mul h1 h2
  unfold inW; omega
theorem sTimes_l (e : Int → Int → Int → Int → Option (Int × Int)) (c1 c2 : Int) (m : Nat) : ∀ (d x : Nat) (W A : Int), x < 2 ^ d → x < 18446744073709551616 →
    S.l03Times_l0 (d + 1 + m) e (x : Int) c1 c2 (wd W).1 (wd W).2 (wd A).1 (wd A).2 = e c1 c2 (wd (W + (x : Int) * A)).1 (wd (W + (x : Int) * A)).2 := by
  intro d
  induction d with
  | zero =>
    intro x W A hx hx2
    obtain rfl : x = 0 := by simpa using hx
    rw [show 0 + 1 + m = m + 1 from by omega, S.l03Times_l0, cdn (by omega)]
    simp
  | succ d ih =>
    intro x W A hx hx2
    rw [show d + 1 + 1 + m = (d + 1 + m) + 1 from by omega, S.l03Times_l0]
    by_cases c : ¬ 0 < x
    · obtain rfl : x = 0 := by omega
      rw [cdn (by omega)]; simp
    rw [cdp (by omega), cdn (by decide)]
    simp only [sWideAdd_eq, Option.bind_some]
    rw [tmod_nat _ _ (by omega), tdiv_nat _ _ (by omega), u64w (by omega) (by omega)]
    have hq : x / 2 < 2 ^ d := by rw [Nat.pow_succ] at hx; omega
    have hi := fun W' => ih (x / 2) W' (A + A) hq (by omega)
    rw [show (x : Int) / 2 = ((x / 2 : Nat) : Int) from by omega]
    by_cases c2 : (x : Int) % 2 = 1
    · rw [cep c2, cdn (by decide), hi]
      rw [show (x : Int) = 2 * ((x / 2 : Nat) : Int) + 1 from by omega, Int.add_mul, Int.mul_add, Int.mul_assoc, Int.one_mul]
      generalize ((x / 2 : Nat) : Int) * A = Y
      rw [show W + A + (Y + Y) = W + (2 * Y + A) from by omega]
    · rw [cen c2, cdn (by decide), hi]
      rw [show (x : Int) = 2 * ((x / 2 : Nat) : Int) from by omega, Int.mul_add, Int.mul_assoc]
      generalize ((x / 2 : Nat) : Int) * A = Y
      rw [show W + (Y + Y) = W + 2 * Y from by omega]
theorem sTimes_eq (a b : Int) (ha : inI a) (hb : inI b) : S.l03Times a b = some (wd (a * b)) := by
  unfold S.l03Times
  rw [sWideOf_eq a ha, Option.bind_some]
  obtain ⟨m, hm⟩ := fu_ge 64 (by omega)
  have e0 : wd 0 = (0, 0) := by decide
  have key := fun (x : Nat) (A : Int) (hx : x < 18446744073709551616) => sTimes_l (fun y22 y23 y24 y25 => some (y24, y25)) 0 0 m 64 x 0 A (by omega) hx
  simp only [e0] at key
  unfold inI at hb
  by_cases c : b < 0
  · obtain ⟨x, hx⟩ := Int.eq_ofNat_of_zero_le (show 0 ≤ -b from by omega)
    simp only []
    rw [cdp c, sWideNeg_eq, Option.bind_some, hm, show IntKind.u64.wrap (0 - IntKind.u64.wrap b) = (x : Int) from by simp only [u64_mod]; omega]
    refine (key x (-a) (by omega)).trans ?_
    rw [← hx, Int.neg_mul_neg, Int.mul_comm b a, Int.zero_add]
  · obtain ⟨x, hx⟩ := Int.eq_ofNat_of_zero_le (show 0 ≤ b from by omega)
    simp only []
    rw [cdn c, hm, show IntKind.u64.wrap b = (x : Int) from by simp only [u64_mod]; omega]
    refine (key x a (by omega)).trans ?_
    rw [← hx, Int.mul_comm b a, Int.zero_add]
/-! Expressions: what they come to -/
def bit (p : Prop) [Decidable p] : Int := if p then 1 else 0
theorem sBool_eq (b : Bool) : S.l03Bool b = some (bif b then 1 else 0) := by cases b <;> rfl
theorem iTruth_eq (b : Bool) : I.truth b = some (bif b then 1 else 0) := by cases b <;> rfl
def num1 (n : Int) : Int × Int := if inI n then (n, 0) else (0, 2)
def applyF (op a b : Int) : Int × Int :=
  if op = 4 then num1 (a + b) else if op = 5 then num1 (a - b) else if op = 6 then num1 (a * b)
  else if op = 7 then (if b = 0 then (0, 3) else num1 (a.tdiv b))
  else if op = 8 then num1 (bif decide (a < b) then 1 else 0) else if op = 9 then num1 (bif (a == b) then 1 else 0)
  else num1 (bif (a != 0) then (bif (b != 0) then 1 else 0) else 0)
theorem num1_range (n : Int) : inI (num1 n).1 := by unfold num1; split <;> simp_all [inI]
theorem applyF_range (op a b : Int) : inI (applyF op a b).1 := by
  unfold applyF
  repeat' split
  all_goals first | exact num1_range _ | simp [inI]
theorem bit_inW (c : Bool) : inW (bif c then 1 else 0) ∧ inI (bif c then 1 else 0) := by cases c <;> simp [inW, inI]
theorem tdiv_range {a b : Int} (ha : inI a) (hb0 : b ≠ 0) (hb1 : b ≠ -1) : inI (a.tdiv b) := by
  have h : (a.tdiv b).natAbs = a.natAbs / b.natAbs := Int.natAbs_tdiv a b
  unfold inI at *
  by_cases c : b = 1
  · subst c; rw [Int.tdiv_one]; exact ha
  · have h2 : a.natAbs / b.natAbs ≤ a.natAbs / 2 := Nat.div_le_div_left (by omega) (by decide)
    generalize a.tdiv b = q at *
    generalize a.natAbs / b.natAbs = z at *
    omega
theorem neg_range {a : Int} (ha : inI a) : inW (-a) := by unfold inI inW at *; omega
theorem inI_inW {a : Int} (ha : inI a) : inW a := by unfold inI inW at *; omega
theorem sTwo_eq (op a b : Int) (hop : 4 ≤ op ∧ op ≤ 10) (ha : inI a) (hb : inI b) : (op = 7 ∧ b = 0 ∧ S.l03Two op a b = some (0, 0, 3)) ∨ (¬ (op = 7 ∧ b = 0) ∧ ∃ N, inW N ∧ S.l03Two op a b = some ((wd N).1, (wd N).2, 0) ∧ applyF op a b = num1 N) := by
  unfold S.l03Two applyF
  by_cases c4 : op = 4
  · subst c4
    refine .inr ⟨by omega, a + b, by unfold inI inW at *; omega, ?_, by simp⟩
    rw [cep rfl, sWideOf_eq a ha, sWideOf_eq b hb, Option.bind_some, Option.bind_some, sWideAdd_eq]; rfl
  rw [cen c4, if_neg c4]
  by_cases c5 : op = 5
  · subst c5
    refine .inr ⟨by omega, a - b, by unfold inI inW at *; omega, ?_, by simp⟩
    rw [cep rfl, sWideOf_eq a ha, sWideOf_eq b hb, Option.bind_some, Option.bind_some, sWideNeg_eq, Option.bind_some, sWideAdd_eq]; rfl
  rw [cen c5, if_neg c5]
  by_cases c6 : op = 6
  · subst c6
    refine .inr ⟨by omega, a * b, mul_range ha hb, ?_, by simp⟩
    rw [cep rfl, sTimes_eq a b ha hb]; rfl
  rw [cen c6, if_neg c6]
  by_cases c7 : op = 7
  · subst c7
    rw [cep rfl]
    by_cases cb : b = 0
    · exact .inl ⟨rfl, cb, by rw [cep cb]⟩
    refine .inr ⟨by omega, a.tdiv b, ?_, ?_, by simp [cb]⟩
    · by_cases c : b = -1
      · subst c; rw [Int.tdiv_neg, Int.tdiv_one]; exact neg_range ha
      · exact inI_inW (tdiv_range ha cb c)
    · rw [cen cb]
      by_cases c : b = -1
      · rw [cep c, sWideOf_eq a ha, Option.bind_some, sWideNeg_eq, c, Int.tdiv_neg, Int.tdiv_one]; rfl
      · have hr := tdiv_range ha cb c
        rw [cen c, cdn cb, w64 hr.1 hr.2, sWideOf_eq _ hr]; rfl
  rw [cen c7, if_neg c7]
  by_cases c8 : op = 8
  · subst c8
    refine .inr ⟨by omega, _, (bit_inW _).1, ?_, by rw [if_pos rfl]⟩
    rw [cep rfl, sBool_eq, Option.bind_some, sWideOf_eq _ (bit_inW _).2]; rfl
  rw [cen c8, if_neg c8]
  by_cases c9 : op = 9
  · subst c9
    refine .inr ⟨by omega, _, (bit_inW _).1, ?_, by rw [if_pos rfl]⟩
    rw [cep rfl, sBool_eq, Option.bind_some, sWideOf_eq _ (bit_inW _).2]; rfl
  rw [cen c9, if_neg c9]
  have key : ∀ c : Bool, (Option.bind (S.l03Bool c) fun r21 => Option.bind (S.WideOf r21) fun r22 => some (r22.1, r22.2, (0 : Int))) = some ((wd (bif c then 1 else 0)).1, (wd (bif c then 1 else 0)).2, 0) := fun c => by
    rw [sBool_eq, Option.bind_some, sWideOf_eq _ (bit_inW _).2]; rfl
  by_cases ca : a = 0
  · refine .inr ⟨by omega, _, (bit_inW false).1, ?_, by rw [ca]; rfl⟩
    rw [cnn ca]; exact key false
  · refine .inr ⟨by omega, _, (bit_inW (b != 0)).1, ?_, by rw [cnp ca]⟩
    rw [cnp ca]; exact key _
theorem iAdded (a b : Int) (ha : inI a) (hb : inI b) : I.added a b = some (IntKind.i64.wrap (a + b), decide (inI (a + b))) := by
  unfold inI at ha hb
  unfold I.added
  simp only []
  congr 2
  rw [Bool.eq_iff_iff]
  simp only [beq_iff_eq, decide_eq_decide, decide_eq_true_eq, IntKind.wrap_i64]
  constructor
  · intro h
    unfold inI
    by_cases c : 0 < b
    · have := h.2 c; omega
    · have := fun q => c (h.1 q); omega
  · intro h
    unfold inI at h
    constructor <;> intro q <;> omega
theorem iMinus (a b : Int) (ha : inI a) (hb : inI b) : I.minus a b = some (IntKind.i64.wrap (a - b), decide (inI (a - b))) := by
  unfold inI at ha hb
  unfold I.minus
  simp only []
  congr 2
  rw [Bool.eq_iff_iff]
  simp only [beq_iff_eq, decide_eq_decide, decide_eq_true_eq, IntKind.wrap_i64]
  constructor
  · intro h
    unfold inI
    by_cases c : 0 < b
    · have := h.2 c; omega
    · have := fun q => c (h.1 q); omega
  · intro h
    unfold inI at h
    constructor <;> intro q <;> omega
theorem tdiv_back {p b : Int} (hb : b ≠ 0) : (p - p.tdiv b * b).natAbs < b.natAbs := by
  have h := Int.tmod_add_mul_tdiv p b
  have h2 : p - p.tdiv b * b = p.tmod b := by rw [Int.mul_comm]; omega
  rw [h2, Int.natAbs_tmod]
  exact Nat.mod_lt _ (by omega)
theorem times_iff {a b : Int} (ha : inI a) (hb : inI b) (ha0 : a ≠ 0) (hb0 : b ≠ 0) :
    (IntKind.i64.wrap ((IntKind.i64.wrap (a * b)).tdiv b) = a ∧ ¬ (a = -1 ∧ b = -9223372036854775808) ∧ ¬ (b = -1 ∧ a = -9223372036854775808)) ↔ inI (a * b) := by
  constructor
  · rintro ⟨h1, h2, h3⟩
    have hp := i64_range (a * b)
    by_cases hb1 : b = -1
    · subst hb1; unfold inI at *; omega
    have hr := tdiv_range hp hb0 hb1
    rw [w64 hr.1 hr.2] at h1
    have h4 := tdiv_back (p := IntKind.i64.wrap (a * b)) hb0
    rw [h1] at h4
    have h5 := IntKind.wrap_i64 (a * b)
    unfold inI at *
    generalize a * b = q at *
    generalize IntKind.i64.wrap q = p at *
    omega
  · intro h
    rw [w64 h.1 h.2, Int.mul_tdiv_cancel _ hb0]
    refine ⟨w64 ha.1 ha.2, ?_, ?_⟩
    · rintro ⟨rfl, rfl⟩; exact absurd h (by decide)
    · rintro ⟨rfl, rfl⟩; exact absurd h (by decide)
theorem iTimes (a b : Int) (ha : inI a) (hb : inI b) : ∃ c, I.times a b = some (c, decide (inI (a * b))) ∧ (inI (a * b) → c = a * b) := by
  unfold I.times
  by_cases ca : a = 0
  · subst ca; exact ⟨0, by rw [cep rfl]; simp [inI], by simp⟩
  rw [cen ca]
  by_cases cb : b = 0
  · subst cb; exact ⟨0, by rw [cep rfl]; simp [inI], by simp⟩
  rw [cen cb]
  refine ⟨IntKind.i64.wrap (a * b), ?_, fun h => w64 h.1 h.2⟩
  simp only []
  rw [cdn cb]
  have hi := times_iff ha hb ca cb
  by_cases h1 : IntKind.i64.wrap ((IntKind.i64.wrap (a * b)).tdiv b) = a
  · rw [cep h1]
    by_cases h2 : a = -1
    · rw [cep h2]
      by_cases h3 : b = -9223372036854775808
      · rw [show (!(b == -9223372036854775808)) = false from by simp [h3], cond_false, decide_eq_false (fun h => (hi.2 h).2.1 ⟨h2, h3⟩)]
      · rw [show (!(b == -9223372036854775808)) = true from by simp [h3], cond_true]
        by_cases h4 : b = -1
        · rw [cep h4, decide_eq_true (hi.1 ⟨h1, by omega, by omega⟩), show (!(a == -9223372036854775808)) = true from by simp [h2]]
        · rw [cen h4, decide_eq_true (hi.1 ⟨h1, by omega, by omega⟩)]
    · rw [cen h2]
      by_cases h4 : b = -1
      · rw [cep h4]
        by_cases h5 : a = -9223372036854775808
        · rw [show (!(a == -9223372036854775808)) = false from by simp [h5], decide_eq_false (fun h => (hi.2 h).2.2 ⟨h4, h5⟩)]
        · rw [show (!(a == -9223372036854775808)) = true from by simp [h5], decide_eq_true (hi.1 ⟨h1, by omega, by omega⟩)]
      · rw [cen h4, decide_eq_true (hi.1 ⟨h1, by omega, by omega⟩)]
  · rw [cen h1, decide_eq_false (fun h => h1 (hi.2 h).1)]
theorem okEnd (n c : Int) (h : inI n → c = n) : (bif (!decide (inI n)) then some ((0 : Int), (2 : Int)) else some (c, 0)) = some (num1 n) := by
  unfold num1
  by_cases hn : inI n
  · rw [decide_eq_true hn, if_pos hn, h hn]; rfl
  · rw [decide_eq_false hn, if_neg hn]; rfl
theorem bit_num1 (c : Bool) : num1 (bif c then 1 else 0) = (bif c then 1 else 0, 0) := by cases c <;> simp [num1, inI]
theorem iApply_eq (op a b : Int) (hop : 4 ≤ op ∧ op ≤ 10) (ha : inI a) (hb : inI b) : I.apply op a b = some (applyF op a b) := by
  unfold I.apply applyF
  by_cases c4 : op = 4
  · rw [cep c4, if_pos c4, iAdded a b ha hb, Option.bind_some]; exact okEnd _ _ fun h => w64 h.1 h.2
  rw [cen c4, if_neg c4]
  by_cases c5 : op = 5
  · rw [cep c5, if_pos c5, iMinus a b ha hb, Option.bind_some]; exact okEnd _ _ fun h => w64 h.1 h.2
  rw [cen c5, if_neg c5]
  by_cases c6 : op = 6
  · obtain ⟨c, h1, h2⟩ := iTimes a b ha hb
    rw [cep c6, if_pos c6, h1, Option.bind_some]; exact okEnd _ _ h2
  rw [cen c6, if_neg c6]
  by_cases c7 : op = 7
  · rw [cep c7, if_pos c7]
    by_cases cb : b = 0
    · rw [cep cb, if_pos cb]
    rw [cen cb, if_neg cb]
    by_cases c : b = -1
    · subst c
      rw [Int.tdiv_neg, Int.tdiv_one]
      unfold num1
      by_cases cm : a = -9223372036854775808
      · subst cm; rfl
      · have hr : inI (-a) := by unfold inI at *; omega
        rw [cnp cm, cdn (by decide), if_pos hr, w64 hr.1 hr.2]
    · have hr := tdiv_range ha cb c
      rw [show (!(b != -1)) = false from by simp [c], cond_false, cdn cb, w64 hr.1 hr.2]
      unfold num1
      rw [if_pos hr]
      by_cases cm : a = -9223372036854775808
      · rw [cnn cm, cnp c]
      · rw [cnp cm]
  rw [cen c7, if_neg c7]
  by_cases c8 : op = 8
  · rw [cep c8, if_pos c8, iTruth_eq, bit_num1]; rfl
  rw [cen c8, if_neg c8]
  by_cases c9 : op = 9
  · rw [cep c9, if_pos c9, iTruth_eq, bit_num1]; rfl
  rw [cen c9, if_neg c9, cep (show op = 10 by omega)]
  by_cases ca : a = 0
  · rw [cnn ca, cnn ca, iTruth_eq, show num1 0 = (0, 0) from by decide]; rfl
  · rw [cnp ca, cnp ca, iTruth_eq, bit_num1]; rfl
def pushF (t : Int × Int) (k v u : Int) : Int := if t.1 = 1 then k else if t.1 = 2 then v else if t.1 = 3 then u else t.2
theorem iPush_eq (a b s k v u : Int) : I.Tok_push a b s k v u = some (pushF (a, b) k v u) := by
  unfold I.Tok_push pushF
  simp only
  by_cases c1 : a = 1
  · rw [cep c1, if_pos c1]
  rw [cen c1, if_neg c1]
  by_cases c2 : a = 2
  · rw [cep c2, if_pos c2]
  rw [cen c2, if_neg c2]
  by_cases c3 : a = 3
  · rw [cep c3, if_pos c3]
  rw [cen c3, if_neg c3]
def runGo (k v u : Int) : List (Int × Int) → List Int → Int × Int
  | [], st => (nthI st 0 0, 0)
  | t :: ts, st =>
    if takesF t.1 = 0 then runGo k v u ts (st ++ [pushF t k v u])
    else if takesF t.1 = 1 then runGo k v u ts (st.set (st.length - 1) (bif (nthI st ((st.length - 1 : Nat) : Int) 0 == 0) then 1 else 0))
    else if (applyF t.1 (nthI st ((st.length - 2 : Nat) : Int) 0) (nthI st ((st.length - 1 : Nat) : Int) 0)).2 = 0 then
      runGo k v u ts (st.take (st.length - 2) ++ [(applyF t.1 (nthI st ((st.length - 2 : Nat) : Int) 0) (nthI st ((st.length - 1 : Nat) : Int) 0)).1])
    else (0, (applyF t.1 (nthI st ((st.length - 2 : Nat) : Int) 0) (nthI st ((st.length - 1 : Nat) : Int) 0)).2)
theorem inI_nth {st : List Int} (h : ∀ y ∈ st, inI y) (i : Nat) (hi : i < st.length) : inI (nthI st (i : Int) 0) := h _ (nthI_mem st i 0 hi)
theorem run_l (s k v u : Int) (hk : inI k) (hv : inI v) (hu : inI u) (x : List (Int × Int)) (hx : x.length ≤ 20) (hxi : ∀ t ∈ x, inI t.2) (m m' : Nat) : ∀ (d i : Nat) (st : List Int) (mo : Int) (r : Int × Int), i + d = x.length → st.length ≤ i → (∀ y ∈ st, inI y) → depthGo (x.drop i) (st.length : Int) mo = some r → r.1 = 1 →
    S.ExprRun_l0 (d + 1 + m) (fun y40 y41 y42 => some (y40, y41)) (fun y43 => bif decide ((0 : Int) ≤ 0 ∧ 0 < (y43.length : Int)) then some ((nthI y43 0 (0 : Int)), 0) else none) (i : Int) s k v u x st = some (runGo k v u (x.drop i) st) ∧
    I.run_l0 (d + 1 + m') (fun y40 y41 y42 => some (y40, y41)) (fun y43 => bif decide ((0 : Int) ≤ 0 ∧ 0 < (y43.length : Int)) then some ((nthI y43 0 (0 : Int)), 0) else none) (x.length : Int) (i : Int) s k v u st x = some (runGo k v u (x.drop i) st) := by
  intro d
  induction d with
  | zero =>
    intro i st mo r hi hl hst hd hr
    rw [List.drop_of_length_le (by omega)] at hd ⊢
    simp only [depthGo, Option.some.injEq] at hd
    subst hd
    have h1 : st.length = 1 := by have : ((st.length : Nat) : Int) = 1 := hr; omega
    refine ⟨?_, ?_⟩
    · rw [show 0 + 1 + m = m + 1 from by omega, S.ExprRun_l0, cdn (by omega), cdp (by omega)]; rfl
    · rw [show 0 + 1 + m' = m' + 1 from by omega, I.run_l0, cdn (by omega), cdp (by omega)]; rfl
  | succ d ih =>
    intro i st mo r hi hl hst hd hr
    rw [drop_at x i ((0 : Int), (0 : Int)) (by omega)] at hd ⊢
    have hmem := nthI_mem x i ((0 : Int), (0 : Int)) (by omega)
    have ht2 := hxi _ hmem
    rw [show d + 1 + 1 + m = (d + 1 + m) + 1 from by omega, show d + 1 + 1 + m' = (d + 1 + m') + 1 from by omega, S.ExprRun_l0, I.run_l0]
    generalize nthI x (i : Int) ((0 : Int), (0 : Int)) = t at *
    have hdec : decide ((0 : Int) ≤ (i : Int) ∧ (i : Int) < (x.length : Int)) = true := by simp; omega
    have hlt : decide ((i : Int) < (x.length : Int)) = true := by simp; omega
    simp only [hdec, hlt, cond_true, iTakes_eq, iPush_eq, Option.bind_some, dup_eq]
    simp only [depthGo] at hd
    have hf : tokFits t (st.length : Int) := by
      by_cases hf : tokFits t (st.length : Int)
      · exact hf
      · rw [if_neg hf] at hd; cases hd
    rw [if_pos hf] at hd
    obtain ⟨⟨f1, f2⟩, f3, f4⟩ := hf
    rw [w64 (n := (i : Int) + 1) (by omega) (by omega), show (i : Int) + 1 = ((i + 1 : Nat) : Int) from by omega, runGo]
    -- a number is pushed
    have push : ∀ q : Int, inI q → takesF t.1 = 0 →
        S.ExprRun_l0 (d + 1 + m) (fun y40 y41 y42 => some (y40, y41)) (fun y43 => bif decide ((0 : Int) ≤ 0 ∧ 0 < (y43.length : Int)) then some ((nthI y43 0 (0 : Int)), 0) else none) ((i + 1 : Nat) : Int) s k v u x (st ++ [q]) = some (runGo k v u (x.drop (i + 1)) (st ++ [q])) ∧
        I.run_l0 (d + 1 + m') (fun y40 y41 y42 => some (y40, y41)) (fun y43 => bif decide ((0 : Int) ≤ 0 ∧ 0 < (y43.length : Int)) then some ((nthI y43 0 (0 : Int)), 0) else none) (x.length : Int) ((i + 1 : Nat) : Int) s k v u (st ++ [q]) x = some (runGo k v u (x.drop (i + 1)) (st ++ [q])) := fun q hq h0 => by
      refine ih (i + 1) (st ++ [q]) (max mo ((st.length : Int) - takesF t.1 + 1)) r (by omega) (by simp; omega) (fun y hy => ?_) ?_ hr
      · rcases List.mem_append.1 hy with hy | hy
        · exact hst y hy
        · rw [List.mem_singleton.1 hy]; exact hq
      · rw [List.length_append, show ((st.length + [q].length : Nat) : Int) = (st.length : Int) - takesF t.1 + 1 from by simp; omega]; exact hd
    have hl8 : ∀ q : Int, decide ((st.length + [q].length) * 8 ≤ 140737488355328) = true := fun q => by simp; omega
    by_cases c0 : takesF t.1 = 0
    · rw [if_pos c0, cep c0]
      have h3 : t.1 ≤ 3 := by unfold takesF at c0; split at c0 <;> (try split at c0) <;> omega
      unfold pushF
      by_cases d0 : t.1 = 0
      · rw [cep d0, if_neg (by omega), if_neg (by omega), if_neg (by omega)]
        simp only [hl8, cond_true]
        exact push _ ht2 c0
      rw [cen d0]
      by_cases d1 : t.1 = 1
      · rw [cep d1, if_pos d1]
        simp only [hl8, cond_true]
        exact push _ hk c0
      rw [cen d1, if_neg d1]
      by_cases d2 : t.1 = 2
      · rw [cep d2, if_pos d2]
        simp only [hl8, cond_true]
        exact push _ hv c0
      rw [cen d2, if_neg d2, cep (show t.1 = 3 by omega), if_pos (show t.1 = 3 by omega)]
      simp only [hl8, cond_true]
      exact push _ hu c0
    rw [if_neg c0, cen c0]
    have h4 : 4 ≤ t.1 := by unfold takesF at c0; split at c0 <;> omega
    rw [cen (show t.1 ≠ 0 by omega), cen (show t.1 ≠ 1 by omega), cen (show t.1 ≠ 2 by omega), cen (show t.1 ≠ 3 by omega)]
    by_cases c1 : takesF t.1 = 1
    · have h11 : t.1 = 11 := by unfold takesF at c1; split at c1 <;> (try split at c1) <;> omega
      have e1 : IntKind.i64.wrap ((st.length : Int) - 1) = ((st.length - 1 : Nat) : Int) := by rw [w64 (by omega) (by omega)]; omega
      rw [if_pos c1, cep c1, cep h11]
      simp only [e1, Int.toNat_natCast, sBool_eq, iTruth_eq, Option.bind_some]
      have hdec2 : decide ((0 : Int) ≤ ((st.length - 1 : Nat) : Int) ∧ ((st.length - 1 : Nat) : Int) < (st.length : Int)) = true := by simp; omega
      simp only [hdec2, cond_true]
      refine ih (i + 1) (st.set (st.length - 1) (bif (nthI st ((st.length - 1 : Nat) : Int) 0 == 0) then 1 else 0)) (max mo ((st.length : Int) - takesF t.1 + 1)) r (by omega) (by rw [List.length_set]; omega) (fun y hy => ?_) ?_ hr
      · rcases List.mem_or_eq_of_mem_set hy with hy | rfl
        · exact hst y hy
        · exact (bit_inW _).2
      · have e3 : (st.length : Int) - takesF t.1 + 1 = (st.length : Int) := by omega
        rw [e3] at hd ⊢
        rw [List.length_set]; exact hd
    · have hop : 4 ≤ t.1 ∧ t.1 ≤ 10 := ⟨h4, by unfold takesF at c1; split at c1 <;> (try split at c1) <;> omega⟩
      have h2 : takesF t.1 = 2 := by unfold takesF at c0 c1 ⊢; split at c0 <;> (try split at c1) <;> simp_all
      have e1 : IntKind.i64.wrap ((st.length : Int) - 1) = ((st.length - 1 : Nat) : Int) := by rw [w64 (by omega) (by omega)]; omega
      have e2 : IntKind.i64.wrap ((st.length : Int) - 2) = ((st.length - 2 : Nat) : Int) := by rw [w64 (by omega) (by omega)]; omega
      rw [if_neg c1, cen c1, cen (show t.1 ≠ 11 by omega)]
      simp only [e1, e2, Int.toNat_natCast]
      have hdec1 : decide ((0 : Int) ≤ ((st.length - 1 : Nat) : Int) ∧ ((st.length - 1 : Nat) : Int) < (st.length : Int)) = true := by simp; omega
      have hdec2 : decide ((0 : Int) ≤ ((st.length - 2 : Nat) : Int) ∧ ((st.length - 2 : Nat) : Int) < (st.length : Int)) = true := by simp; omega
      have hdec3 : decide ((0 : Int) ≤ 0 ∧ (0 : Int) ≤ ((st.length - 2 : Nat) : Int) ∧ ((st.length - 2 : Nat) : Int) ≤ (st.length : Int)) = true := decide_eq_true (by omega)
      simp only [hdec1, hdec2, hdec3, cond_true]
      have ha := inI_nth hst (st.length - 2) (by omega)
      have hb := inI_nth hst (st.length - 1) (by omega)
      rw [iApply_eq _ _ _ hop ha hb, Option.bind_some]
      have hap := applyF_range t.1 (nthI st ((st.length - 2 : Nat) : Int) 0) (nthI st ((st.length - 1 : Nat) : Int) 0)
      have two := sTwo_eq t.1 _ _ hop ha hb
      have hlen : ∀ q : Int, ((((st.take (st.length - 2)).length + [q].length) * 8 ≤ 140737488355328) ↔ True) := fun q => by simp; omega
      have next : ∀ q : Int, inI q → depthGo (x.drop (i + 1)) ((st.take (st.length - 2) ++ [q]).length : Int) (max mo ((st.length : Int) - takesF t.1 + 1)) = some r := fun q hq => by
        rw [List.length_append, List.length_take, show ((min (st.length - 2) st.length + [q].length : Nat) : Int) = (st.length : Int) - takesF t.1 + 1 from by simp; omega]; exact hd
      have goes : ∀ q : Int, inI q → _ := fun q hq => ih (i + 1) (st.take (st.length - 2) ++ [q]) (max mo ((st.length : Int) - takesF t.1 + 1)) r (by omega) (by simp; omega) (fun y hy => by
        rcases List.mem_append.1 hy with hy | hy
        · exact hst y (List.mem_of_mem_take hy)
        · rw [List.mem_singleton.1 hy]; exact hq) (next q hq) hr
      obtain ⟨ap, hapd⟩ : ∃ ap, applyF t.1 (nthI st ((st.length - 2 : Nat) : Int) 0) (nthI st ((st.length - 1 : Nat) : Int) 0) = ap := ⟨_, rfl⟩
      simp only [hapd] at hap ⊢
      have spec : (Option.bind (S.l03Two t.1 (nthI st ((st.length - 2 : Nat) : Int) 0) (nthI st ((st.length - 1 : Nat) : Int) 0)) fun r35 =>
          bif (r35.2.2 != 0) then some (0, r35.2.2) else Option.bind (S.WideInt r35.1 r35.2.1) fun r36 => bif (!r36.2) then some (0, 2) else
            S.ExprRun_l0 (d + 1 + m) (fun y40 y41 y42 => some (y40, y41)) (fun y43 => bif decide ((0 : Int) ≤ 0 ∧ 0 < (y43.length : Int)) then some ((nthI y43 0 (0 : Int)), 0) else none) ((i + 1 : Nat) : Int) s k v u x (st.take (st.length - 2) ++ [r36.1])) =
          some (if ap.2 = 0 then runGo k v u (x.drop (i + 1)) (st.take (st.length - 2) ++ [ap.1]) else (0, ap.2)) := by
        rcases two with ⟨t1, t2, t3⟩ | ⟨t1, N, t2, t3, t4⟩
        · have hap0 : ap = (0, 3) := by rw [← hapd]; unfold applyF; rw [if_neg (by omega), if_neg (by omega), if_neg (by omega), if_pos t1, if_pos t2]
          rw [t3, hap0]; rfl
        · rw [t3, Option.bind_some]
          simp only [bne_self_eq_false, cond_false]
          rw [sWideInt_eq N t2, Option.bind_some]
          rw [hapd] at t4
          rw [t4]
          unfold num1
          by_cases hN : inI N
          · rw [if_pos hN, if_pos hN]
            exact (goes N hN).1
          · rw [if_neg hN, if_neg hN]; rfl
      simp only [hlen, decide_true, cond_true]
      refine ⟨spec, ?_⟩
      by_cases hz : ap.2 = 0
      · rw [cnn hz, if_pos hz]; exact (goes ap.1 hap).2
      · rw [cnp hz, if_neg hz]
theorem exprOk_run {x : List (Int × Int)} (h : exprOk x) : x.length ≤ 20 ∧ ∃ r, depthGo x 0 0 = some r ∧ r.1 = 1 := by
  unfold exprOk depthF at h
  split at h
  · rename_i hl
    refine ⟨hl.2, ?_⟩
    split at h
    · rename_i r hr
      split at h
      · rename_i h1; exact ⟨r, hr, h1⟩
      · omega
    · omega
  · omega
theorem exprRun_eq (s k v u : Int) (hk : inI k) (hv : inI v) (hu : inI u) (x : List (Int × Int)) (h : exprOk x) (hxi : ∀ t ∈ x, inI t.2) : S.ExprRun s k v u x = some (runGo k v u x []) ∧ I.run s k v u x = some (runGo k v u x []) := by
  obtain ⟨hl, r, h1, h2⟩ := exprOk_run h
  obtain ⟨m, hm⟩ := fu_ge x.length (by omega)
  have := run_l s k v u hk hv hu x hl hxi m m x.length 0 [] 0 r (by omega) (by simp) (by simp) (by simpa using h1) h2
  unfold S.ExprRun I.run
  rw [sExprOk_eq, Option.bind_some, decide_eq_true h, hm]
  simpa using this
theorem FnExactQueryTake : StmtFnExactQueryTake.Stmt := by
  intro x y k s p a b e f g h hx hy hk hs hp ha hb he hf hg hh
  have hp' := i64_wf hp
  have hx2 : ∀ t ∈ x, inI t.2 := fun t ht => i64_wf (hx.2 t ht).2
  have hy2 : ∀ t ∈ y, inI t.2 := fun t ht => i64_wf (hy.2 t ht).2
  have hsz : L.szQuery k s p a b 1048576 x y = some (if ((x.length + y.length : Nat) : Int) ≤ 1048576 then 1048576 - ((x.length + y.length : Nat) : Int) else -1) := szQuery_eq (x, y, (k, s, p), a, b) 1048576 (by omega) (by omega) ⟨hx, hy, ⟨hk, hs, hp⟩, ha, hb⟩
  unfold L.FnExactQueryTake
  rw [hsz, Option.bind_some]
  by_cases hl : ((x.length + y.length : Nat) : Int) ≤ 1048576
  · have hto : L.toQuery k s p a b x y = some (k, s, p, a, b, x, y) := toQuery_eq (x, y, (k, s, p), a, b) (show x.length + y.length ≤ _ by omega)
    have hte : L.toElem e f g h = some (e, f, g, h) := toElem_eq (e, f, g, h)
    have heq : L.eqQuery k s p a b k s p a b x y x y = some (decide (_ = _)) := eqQuery_eq (x, y, (k, s, p), a, b) (x, y, (k, s, p), a, b) (show x.length + y.length ≤ _ by omega)
    have key : ∃ r, S.QueryTake k s p a b e f g h x y = some r ∧ I.QueryTake k s p a b e f g h x y = some r := by
      unfold S.QueryTake I.QueryTake I.take
      rw [sQueryOk_eq k s p a b x y hp'.1 hp'.2, iQueryOk_eq k s p a b x y hp'.1 hp'.2 (by omega) (by omega), ElemOk_eq, isElem_eq]
      simp only [Option.bind_some]
      by_cases hq : queryOk k s p a b x y
      · have h1 := exprRun_eq e f g h (i64_wf hf) (i64_wf hg) (i64_wf hh) x hq.1 hx2
        have h2 := exprRun_eq e f g h (i64_wf hf) (i64_wf hg) (i64_wf hh) y hq.2.1 hy2
        rw [h1.1, h1.2, h2.1, h2.2]
        simp only [Option.bind_some]
        generalize decide (queryOk k s p a b x y) = c1
        generalize decide ((0 ≤ e ∧ e ≤ 3) ∧ (0 ≤ f ∧ f ≤ 15) ∧ 0 ≤ h ∧ h ≤ 1000) = c2
        generalize runGo f g h x [] = r1
        generalize runGo f g h y [] = r2
        cases c1 <;> cases c2 <;> simp only [Bool.not_true, Bool.not_false, cond_true, cond_false]
        iterate 3 exact ⟨_, rfl, rfl⟩
        cases (r1.2 != 0) <;> cases (r1.1 == 0) <;> cases (r2.2 != 0) <;> exact ⟨_, rfl, rfl⟩
      · rw [decide_eq_false hq]
        exact ⟨_, rfl, rfl⟩
    obtain ⟨r, h1, h2⟩ := key
    rw [if_pos hl, cdn (by omega)]
    simp only [hto, hte, h1, h2, heq, Option.bind_some, decide_true, bne_self_eq_false, Bool.not_true, cond_false]
  · rw [if_neg hl, cdp (by omega)]
end Go.Proofs.Ytflagchmcnfigaa.Pure
