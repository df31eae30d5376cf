/- OpTextRead of the program returns what the reference's returns. For every argument. -/
import Derived.Test.YtlaklfpelkmjjaaGreatDoorStmtFnExactOpTextRead
import Derived.Laws.BitsLemmas
import Derived.Laws.BitsAllLaws
import Derived.Laws.Bits64b
namespace Go.Proofs.YtlaklfpelkmjjaaGreatDoor.Pure
open Go Go.RowKit Go.Proofs.YtlaklfpelkmjjaaGreatDoor.Run Go.Proofs.YtlaklfpelkmjjaaGreatDoor.StmtFnExactOpTextRead Go.Proofs.YtlaklfpelkmjjaaGreatDoorW.PrintWords Go.Proofs.YtlaklfpelkmjjaaGreatDoor.Vm
set_option linter.unusedVariables false
set_option linter.unusedSimpArgs false
set_option linter.unusedSectionVars false
theorem cdp {α : Type} {p : Prop} [Decidable p] {a b : α} (h : p) : (bif decide p then a else b) = a := by simp [h]
theorem cdn {α : Type} {p : Prop} [Decidable p] {a b : α} (h : ¬ p) : (bif decide p then a else b) = b := by simp [h]
theorem cnp {α : Type} {x y : Int} {a b : α} (h : x ≠ y) : (bif (x != y) then a else b) = a := by rw [show (x != y) = true from by simpa using h]; rfl
theorem cnn {α : Type} {x y : Int} {a b : α} (h : x = y) : (bif (x != y) then a else b) = b := by simp [bne, h]
theorem cep {α : Type} {x y : Int} {a b : α} (h : x = y) : (bif (x == y) then a else b) = a := by simp [h]
theorem cen {α : Type} {x y : Int} {a b : α} (h : x ≠ y) : (bif (x == y) then a else b) = b := by rw [show (x == y) = false from by simpa using h]; rfl
theorem cond_some {α : Type} (c : Bool) (x y : α) : (bif c then some x else some y) = some (bif c then x else y) := by cases c <;> rfl
theorem cond_and (c x : Bool) : (bif c then x else false) = (c && x) := by cases c <;> rfl
theorem dand (p q : Prop) [Decidable p] [Decidable q] : (decide p && decide q) = decide (p ∧ q) := by by_cases p <;> by_cases q <;> simp_all
theorem w64 {n : Int} (h0 : -9223372036854775808 ≤ n) (h1 : n < 9223372036854775808) : IntKind.i64.wrap n = n := by rw [IntKind.wrap_i64]; omega
theorem u64_mod (n : Int) : IntKind.u64.wrap n = n % 18446744073709551616 := by simp [IntKind.wrap, IntKind.bits, IntKind.signed]
theorem u64w {n : Int} (h0 : 0 ≤ n) (h1 : n < 18446744073709551616) : IntKind.u64.wrap n = n := by rw [u64_mod]; omega
theorem u8_mod (n : Int) : IntKind.u8.wrap n = n % 256 := by simp [IntKind.wrap, IntKind.bits, IntKind.signed]
theorem i64_wf {n : Int} (h : (Lit.int .i64 n).wf = true) : -9223372036854775808 ≤ n ∧ n < 9223372036854775808 := by
  simp only [Lit.wf, IntKind.min, IntKind.max, IntKind.signed, IntKind.bits, Bool.and_eq_true, decide_eq_true_eq, if_true] at h
  omega
theorem u8_wf {n : Int} (h : (Lit.int .u8 n).wf = true) : 0 ≤ n ∧ n < 256 := by
  simp [Lit.wf, IntKind.min, IntKind.max, IntKind.signed, IntKind.bits, Bool.and_eq_true] at h
  omega
theorem tmod_nat (n : Int) (m : Int) (h : 0 ≤ n) : Int.tmod n m = n % m := Int.tmod_eq_emod_of_nonneg h
theorem tdiv_nat (n : Int) (m : Int) (h : 0 ≤ n) : Int.tdiv n m = n / m := Int.tdiv_eq_ediv_of_nonneg h
theorem bits_or_128 (x : Int) (h0 : 0 ≤ x) (h1 : x < 256) : Go.bits .or .u8 x 128 = 128 + x % 128 := by
  obtain ⟨n, rfl⟩ := Int.eq_ofNat_of_zero_le h0
  have hn : n < 256 := by omega
  have key : ∀ m : Fin 256, Go.bits .or .u8 ((m.val : Nat) : Int) 128 = 128 + ((m.val : Nat) : Int) % 128 := by decide +kernel
  exact key ⟨n, hn⟩
theorem bits_xor_zero (x : Int) (h0 : 0 ≤ x) (h1 : x < 18446744073709551616) : Go.bits .xor .u64 x 0 = x := by
  obtain ⟨n, rfl⟩ := Int.eq_ofNat_of_zero_le h0
  have hn : n < 18446744073709551616 := by omega
  show IntKind.u64.wrap (((BitVec.ofInt 64 ((n : Nat) : Int)) ^^^ (BitVec.ofInt 64 0)).toNat : Int) = n
  have e : (BitVec.ofInt 64 0) = 0#64 := by decide
  rw [e, BitVec.xor_zero, BitVec.ofInt_natCast, BitVec.toNat_ofNat, u64_mod]
  omega
theorem bits_xor_ones (x : Int) (h0 : 0 ≤ x) (h1 : x < 18446744073709551616) : Go.bits .xor .u64 x 18446744073709551615 = 18446744073709551615 - x := by
  obtain ⟨n, rfl⟩ := Int.eq_ofNat_of_zero_le h0
  have hn : n < 18446744073709551616 := by omega
  show IntKind.u64.wrap (((BitVec.ofInt 64 ((n : Nat) : Int)) ^^^ (BitVec.ofInt 64 18446744073709551615)).toNat : Int) = 18446744073709551615 - n
  have e : (BitVec.ofInt 64 18446744073709551615) = BitVec.allOnes 64 := by decide
  rw [e, BitVec.xor_allOnes, BitVec.toNat_not, BitVec.ofInt_natCast, BitVec.toNat_ofNat, u64_mod]
  omega
theorem fu_ge (d : Nat) (h : d ≤ 1000000000000) : ∃ m, fu = d + 1 + m := ⟨fu - d - 1, by rw [fu_eq]; omega⟩
theorem nthI_nat {α : Type} (xs : List α) (i : Nat) (d : α) : nthI xs (i : Int) d = xs.getD i d := rfl
theorem drop_nth (xs : List Int) (i : Nat) (h : i < xs.length) : xs.drop i = nthI xs (i : Int) 0 :: xs.drop (i + 1) := by
  rw [nthI_nat, List.getD_eq_getElem?_getD, List.getElem?_eq_getElem h]; exact List.drop_eq_getElem_cons h
theorem nthI_mem {α : Type} (a : List α) (i : Nat) (d : α) (h : i < a.length) : nthI a (i : Int) d ∈ a := by
  rw [nthI_nat, List.getD_eq_getElem?_getD, List.getElem?_eq_getElem h]; simp
theorem nthI_set {α : Type} (xs : List α) (i : Nat) (y d : α) (h : i < xs.length) : nthI (xs.set i y) (i : Int) d = y := by
  rw [nthI_nat, List.getD_eq_getElem?_getD, List.getElem?_set_self h]; rfl
theorem drop_at {α : Type} (xs : List α) (i : Nat) (d : α) (h : i < xs.length) : xs.drop i = nthI xs (i : Int) d :: xs.drop (i + 1) := by
  rw [nthI_nat, List.getD_eq_getElem?_getD, List.getElem?_eq_getElem h]; exact List.drop_eq_getElem_cons h
theorem cneI {x y : Int} {k : Option Bool} : (bif (x != y) then some false else k) = bif decide (x = y) then k else some false := by
  by_cases h : x = y
  · rw [cnn h, cdp h]
  · rw [cnp h, cdn h]
theorem cneB {x y : Bool} {k : Option Bool} : (bif (!(x == y)) then some false else k) = bif decide (x = y) then k else some false := by
  cases x <;> cases y <;> rfl
theorem cbeB {x y : Bool} {k : Option Bool} : (bif (x == y) then k else some false) = bif decide (x = y) then k else some false := by cases x <;> cases y <;> rfl
theorem cnotb {r : Bool} {k : Option Bool} : (bif (!r) then some false else k) = bif r then k else some false := by cases r <;> rfl
theorem cds {p q : Prop} [Decidable p] [Decidable q] : (bif decide p then some (decide q) else some false) = some (decide (p ∧ q)) := by
  by_cases p <;> by_cases q <;> simp_all
theorem cdt {p : Prop} [Decidable p] : (bif decide p then some true else some false) = some (decide p) := by by_cases p <;> simp_all
theorem sdec {p q : Prop} [Decidable p] [Decidable q] (h : q ↔ p) : some (decide q) = some (decide p) := congrArg some (decide_eq_decide.mpr h)
theorem sfal {p : Prop} [Decidable p] (h : ¬ p) : some false = some (decide p) := by rw [decide_eq_false h]
theorem stru {p : Prop} [Decidable p] (h : p) : some true = some (decide p) := by rw [decide_eq_true h]
theorem sbool {b : Bool} {p : Prop} [Decidable p] (h : b = true ↔ p) : some b = some (decide p) := by
  by_cases c : p
  · rw [h.2 c, decide_eq_true c]
  · rw [decide_eq_false c, Bool.eq_false_iff.2 fun e => c (h.1 e)]
theorem sum_mem {l : List Nat} {x : Nat} (h : x ∈ l) : x ≤ l.sum := by
  induction l with
  | nil => cases h
  | cons y l ih =>
    rw [List.sum_cons]
    rcases List.mem_cons.1 h with rfl | h
    · omega
    · have := ih h; omega
theorem toLoop {α : Type} (F : Nat → Int → List α → Option (List α)) (a : List α) (d : α) (hn : a.length ≤ 1000000000000)
    (hs : ∀ (i m : Nat) (xs : List α), i < a.length → xs.length = a.length → F (m + 1) (i : Int) xs = F m ((i + 1 : Nat) : Int) (xs.set i (nthI a (i : Int) d)))
    (he : ∀ (m : Nat) (xs : List α), F (m + 1) (a.length : Int) xs = some xs) (xs : List α) (hx : xs.length = a.length) : F fu 0 xs = some a := by
  obtain ⟨M, hM⟩ := fu_ge a.length hn
  have h1 : ∀ k i : Nat, ∀ xs : List α, xs.length = a.length → i ≤ a.length → a.length - i = k → xs.take i = a.take i → F (k + 1 + M) (i : Int) xs = some a := by
    intro k
    induction k with
    | zero =>
      intro i xs hx hi hd ht
      obtain rfl : i = a.length := by omega
      rw [List.take_of_length_le (by omega), List.take_of_length_le (by omega)] at ht
      subst ht
      rw [show 0 + 1 + M = M + 1 from by omega]
      exact he M xs
    | succ k ih =>
      intro i xs hx hi hd ht
      have hi2 : i < a.length := by omega
      rw [show k + 1 + 1 + M = (k + 1 + M) + 1 from by omega, hs i _ xs hi2 hx]
      refine ih (i + 1) _ (by simpa using hx) (by omega) (by omega) ?_
      rw [nthI_nat, List.getD_eq_getElem?_getD, List.getElem?_eq_getElem hi2, Option.getD_some, List.take_add_one, List.take_add_one, List.take_set_of_le (Nat.le_refl i), ht]
      simp [show i < xs.length from by omega, hi2]
  rw [hM]
  exact h1 a.length 0 xs hx (by omega) (by omega) (by simp)
theorem eqLoop {α : Type} [DecidableEq α] (F : Nat → Int → Option Bool) (a b : List α) (d : α) (hl : a.length = b.length) (hn : a.length ≤ 1000000000000)
    (hs : ∀ (i m : Nat), i < a.length → F (m + 1) (i : Int) = bif decide (nthI a (i : Int) d = nthI b (i : Int) d) then F m ((i + 1 : Nat) : Int) else some false)
    (he : ∀ m : Nat, F (m + 1) (a.length : Int) = some true) : F fu 0 = some (decide (a = b)) := by
  obtain ⟨M, hM⟩ := fu_ge a.length hn
  have h1 : ∀ k i : Nat, i ≤ a.length → a.length - i = k → F (k + 1 + M) (i : Int) = some (decide (a.drop i = b.drop i)) := by
    intro k
    induction k with
    | zero =>
      intro i hi hd
      obtain rfl : i = a.length := by omega
      rw [show 0 + 1 + M = M + 1 from by omega, he, List.drop_of_length_le (by omega), List.drop_of_length_le (by omega)]
      simp
    | succ k ih =>
      intro i hi hd
      rw [show k + 1 + 1 + M = (k + 1 + M) + 1 from by omega, hs i _ (by omega), drop_at a i d (by omega), drop_at b i d (by omega), ih (i + 1) (by omega) (by omega)]
      by_cases e : nthI a (i : Int) d = nthI b (i : Int) d
      · rw [cdp e, e]
        generalize nthI b (i : Int) d = x
        simp
      · rw [cdn e]
        generalize nthI b (i : Int) d = x at *
        generalize nthI a (i : Int) d = y at *
        simp [e]
  rw [hM]
  simpa using h1 a.length 0 (by omega) (by omega)
theorem eqTop {α : Type} [DecidableEq α] (a b : List α) {k : Option Bool} (h : a.length = b.length → k = some (decide (a = b))) : (bif ((a.length : Int) != (b.length : Int)) then some false else k) = some (decide (a = b)) := by
  by_cases e : a.length = b.length
  · rw [cnn (by omega), h e]
  · rw [cnp (by omega), decide_eq_false (fun h => e (by rw [h]))]
theorem szLoop {α : Type} (F : Nat → Int → Int → Option Int) (a : List α) (d : α) (c : α → Nat) (hn : a.length ≤ 1000000000000)
    (hs : ∀ (i m : Nat) (l : Int), i < a.length → 0 ≤ l → l ≤ 1000000000000 → F (m + 1) l (i : Int) = if (c (nthI a (i : Int) d) : Int) ≤ l then F m (l - (c (nthI a (i : Int) d) : Int)) ((i + 1 : Nat) : Int) else some (-1))
    (he : ∀ (m : Nat) (l : Int), F (m + 1) l (a.length : Int) = some l) (l : Int) (h0 : 0 ≤ l) (h1 : l ≤ 1000000000000) : F fu l 0 = some (if (((a.map c).sum : Nat) : Int) ≤ l then l - (((a.map c).sum : Nat) : Int) else -1) := by
  obtain ⟨M, hM⟩ := fu_ge a.length hn
  have h2 : ∀ k i : Nat, ∀ l : Int, 0 ≤ l → l ≤ 1000000000000 → i ≤ a.length → a.length - i = k → F (k + 1 + M) l (i : Int) = some (if ((((a.drop i).map c).sum : Nat) : Int) ≤ l then l - ((((a.drop i).map c).sum : Nat) : Int) else -1) := by
    intro k
    induction k with
    | zero =>
      intro i l h0 h1 hi hd
      obtain rfl : i = a.length := by omega
      rw [show 0 + 1 + M = M + 1 from by omega, he, List.drop_of_length_le (by omega)]
      simp [h0]
    | succ k ih =>
      intro i l h0 h1 hi hd
      rw [show k + 1 + 1 + M = (k + 1 + M) + 1 from by omega, hs i _ l (by omega) h0 h1, drop_at a i d (by omega), List.map_cons, List.sum_cons]
      by_cases e : (c (nthI a (i : Int) d) : Int) ≤ l
      · rw [if_pos e, ih (i + 1) _ (by omega) (by omega) (by omega) (by omega)]
        congr 1
        split <;> split <;> omega
      · rw [if_neg e, if_neg (by omega)]
  rw [hM]
  simpa using h2 a.length 0 l h0 h1 (by omega) (by omega)
def markAll {α : Type} (m1 : Int → α → α) (w1 : α → Nat) : Int → List α → List α
  | _, [] => []
  | k, x :: xs => m1 k x :: markAll m1 w1 (k + (w1 x : Int)) xs
theorem markAll_length {α : Type} (m1 : Int → α → α) (w1 : α → Nat) : ∀ (a : List α) (k : Int), (markAll m1 w1 k a).length = a.length
  | [], _ => rfl
  | x :: xs, k => by simp [markAll, markAll_length m1 w1 xs]
theorem sum_const {α : Type} (w : α → Nat) (a : List α) (n : Nat) (h : ∀ x, w x = n) : (a.map w).sum = n * a.length := by
  induction a with
  | nil => simp
  | cons x xs ih => simp [h x, ih, Nat.mul_add]; omega
theorem cmod3 : decide ((3 : Int) = 0) = false := rfl
theorem markLoop {α : Type} (F : Nat → Int → Int → List α → Option (Int × List α)) (m1 : Int → α → α) (w1 : α → Nat) (a : List α) (d : α) (nl : Nat) (hw : ∀ x, w1 x = nl) {k : Int} (h0 : 0 ≤ k) (hn : a.length ≤ 1000000000000) (hc : k + (nl : Int) * (a.length : Int) ≤ 1000000000000)
    (hs : ∀ (i m : Nat) (k : Int) (xs : List α), i < a.length → xs.length = a.length → 0 ≤ k → k + (nl : Int) ≤ 1000000000000 → F (m + 1) k (i : Int) xs = F m (k + (nl : Int)) ((i + 1 : Nat) : Int) (xs.set i (m1 k (nthI xs (i : Int) d))))
    (he : ∀ (m : Nat) (k : Int) (xs : List α), xs.length = a.length → F (m + 1) k (a.length : Int) xs = some (k, xs)) : F fu k 0 a = some (k + (nl : Int) * (a.length : Int), markAll m1 w1 k a) := by
  obtain ⟨M, hM⟩ := fu_ge a.length hn
  have h1 : ∀ q i : Nat, ∀ (k : Int) (xs : List α), xs.length = a.length → i ≤ a.length → a.length - i = q → 0 ≤ k → k + (nl : Int) * (q : Int) ≤ 1000000000000 → F (q + 1 + M) k (i : Int) xs = some (k + (nl : Int) * (q : Int), xs.take i ++ markAll m1 w1 k (xs.drop i)) := by
    intro q
    induction q with
    | zero =>
      intro i k xs hx hi hd h0 hc
      obtain rfl : i = a.length := by omega
      rw [show 0 + 1 + M = M + 1 from by omega, he _ _ _ hx, List.take_of_length_le (by omega), List.drop_of_length_le (by omega)]
      simp [markAll]
    | succ q ih =>
      intro i k xs hx hi hd h0 hc
      have e : (nl : Int) * ((q + 1 : Nat) : Int) = (nl : Int) * (q : Int) + nl := by rw [Int.natCast_add, Int.mul_add]; simp
      have hq : 0 ≤ (nl : Int) * (q : Int) := Int.mul_nonneg (by omega) (by omega)
      rw [e] at hc ⊢
      rw [show q + 1 + 1 + M = (q + 1 + M) + 1 from by omega, hs i _ k xs (by omega) hx h0 (by omega), ih (i + 1) _ _ (by simpa using hx) (by omega) (by omega) (by omega) (by omega), drop_at xs i d (by omega), markAll, hw]
      have hi2 : i < xs.length := by omega
      rw [List.take_add_one, List.getElem?_set_self hi2, List.take_set_of_le (Nat.le_refl i), List.drop_set_of_lt (by omega)]
      simp
      omega
  rw [hM]
  have := h1 a.length 0 k a rfl (by omega) (by omega) h0 hc
  simpa using this
theorem markAll_nth {α : Type} (m1 : Int → α → α) (w1 : α → Nat) (nl : Nat) (hw : ∀ x, w1 x = nl) (d : α) : ∀ (a : List α) (k : Int) (i : Nat), i < a.length → nthI (markAll m1 w1 k a) (i : Int) d = m1 (k + (nl : Int) * (i : Int)) (nthI a (i : Int) d)
  | [], _, i, h => by simp at h
  | x :: xs, k, 0, _ => by simp [markAll, nthI]
  | x :: xs, k, i + 1, h => by
    have := markAll_nth m1 w1 nl hw d xs (k + (w1 x : Int)) i (by simpa using h)
    rw [nthI_nat, nthI_nat] at this ⊢
    rw [markAll, List.getD_cons_succ, List.getD_cons_succ, this, hw, Int.natCast_add, Int.mul_add]
    congr 1
    omega
theorem heldLoop {α : Type} (F : Nat → Int → Int → Option Int) (m1 : Int → α → α) (w1 : α → Nat) (a : List α) (d : α) (nl : Nat) (hw : ∀ x, w1 x = nl) (k : Int) (h0 : 0 ≤ k) (hn : a.length ≤ 1000000000000) (hc : k + (nl : Int) * (a.length : Int) ≤ 1000000000000)
    (hs : ∀ (i m : Nat) (j : Int), i < a.length → 0 ≤ j → j + (nl : Int) ≤ 1000000000000 → nthI (markAll m1 w1 k a) (i : Int) d = m1 j (nthI a (i : Int) d) → F (m + 1) j (i : Int) = F m (j + (nl : Int)) ((i + 1 : Nat) : Int))
    (he : ∀ (m : Nat) (j : Int), F (m + 1) j (a.length : Int) = some j) : F fu k 0 = some (k + (nl : Int) * (a.length : Int)) := by
  obtain ⟨M, hM⟩ := fu_ge a.length hn
  have h1 : ∀ q i : Nat, i ≤ a.length → a.length - i = q → F (q + 1 + M) (k + (nl : Int) * (i : Int)) (i : Int) = some (k + (nl : Int) * (a.length : Int)) := by
    intro q
    induction q with
    | zero =>
      intro i hi hd
      obtain rfl : i = a.length := by omega
      rw [show 0 + 1 + M = M + 1 from by omega, he]
    | succ q ih =>
      intro i hi hd
      have e : (nl : Int) * ((i + 1 : Nat) : Int) = (nl : Int) * (i : Int) + nl := by rw [Int.natCast_add, Int.mul_add]; simp
      have hq : 0 ≤ (nl : Int) * (i : Int) := Int.mul_nonneg (by omega) (by omega)
      have hle : (nl : Int) * ((i + 1 : Nat) : Int) ≤ (nl : Int) * (a.length : Int) := Int.mul_le_mul_of_nonneg_left (by omega) (by omega)
      rw [show q + 1 + 1 + M = (q + 1 + M) + 1 from by omega, hs i _ _ (by omega) (by omega) (by omega) (markAll_nth m1 w1 nl hw d a k i (by omega))]
      have := ih (i + 1) (by omega) (by omega)
      rw [e] at this
      rw [show k + (nl : Int) * (i : Int) + (nl : Int) = k + ((nl : Int) * (i : Int) + (nl : Int)) from by omega]
      exact this
  rw [hM]
  have := h1 a.length 0 (by omega) (by omega)
  simpa using this
theorem allLoop (F : Nat → Int → Option Bool) (n : Nat) (p : Nat → Prop) [DecidablePred p] (e : Bool) (hn : n ≤ 1000000000000)
    (hs : ∀ (i m : Nat), i < n → F (m + 1) (i : Int) = bif decide (p i) then F m ((i + 1 : Nat) : Int) else some false)
    (he : ∀ m : Nat, F (m + 1) (n : Int) = some e) : F fu 0 = some (decide (∀ j, j < n → p j) && e) := by
  obtain ⟨M, hM⟩ := fu_ge n hn
  have h1 : ∀ k i : Nat, i + k = n → (∀ j, j < i → p j) → F (k + 1 + M) (i : Int) = some (decide (∀ j, j < n → p j) && e) := by
    intro k
    induction k with
    | zero =>
      intro i hi hp
      obtain rfl : i = n := by omega
      rw [show 0 + 1 + M = M + 1 from by omega, he, decide_eq_true hp]
      rfl
    | succ k ih =>
      intro i hi hp
      rw [show k + 1 + 1 + M = (k + 1 + M) + 1 from by omega, hs i _ (by omega)]
      by_cases c : p i
      · rw [cdp c]
        refine ih (i + 1) (by omega) fun j hj => ?_
        rcases Nat.lt_or_ge j i with h | h
        · exact hp j h
        · obtain rfl : j = i := by omega
          exact c
      · rw [cdn c, decide_eq_false fun h => c (h i (by omega))]
        rfl
  rw [hM]
  exact h1 n 0 (by omega) fun j hj => by omega
def cmpF (a b : Int) : Int := if a < b then -1 else if b < a then 1 else 0
theorem allLoopK (F : Nat → Int → Option Bool) (n : Nat) (p : Nat → Prop) [DecidablePred p] (E : Option Bool) (hn : n ≤ 1000000000000)
    (hs : ∀ (i m : Nat), i < n → F (m + 1) (i : Int) = bif decide (p i) then F m ((i + 1 : Nat) : Int) else some false)
    (he : ∀ m : Nat, F (m + 1) (n : Int) = E) : F fu 0 = if ∀ j, j < n → p j then E else some false := by
  obtain ⟨M, hM⟩ := fu_ge n hn
  have h1 : ∀ k i : Nat, i + k = n → (∀ j, j < i → p j) → F (k + 1 + M) (i : Int) = if ∀ j, j < n → p j then E else some false := by
    intro k
    induction k with
    | zero =>
      intro i hi hp
      obtain rfl : i = n := by omega
      rw [show 0 + 1 + M = M + 1 from by omega, he, if_pos hp]
    | succ k ih =>
      intro i hi hp
      rw [show k + 1 + 1 + M = (k + 1 + M) + 1 from by omega, hs i _ (by omega)]
      by_cases c : p i
      · rw [cdp c]
        refine ih (i + 1) (by omega) fun j hj => ?_
        rcases Nat.lt_or_ge j i with h | h
        · exact hp j h
        · obtain rfl : j = i := by omega
          exact c
      · rw [cdn c, if_neg fun h => c (h i (by omega))]
  rw [hM]
  exact h1 n 0 (by omega) fun j hj => by omega
theorem dlt0 {x : Int} (h : 0 ≤ x) : decide (x < 0) = false := decide_eq_false (by omega)
theorem markLoopW {α : Type} (F : Nat → Int → Int → List α → Option (Int × List α)) (m1 : Int → α → α) (w1 : α → Nat) (a : List α) (d : α) {k : Int} (h0 : 0 ≤ k) (hn : a.length ≤ 1000000000000) (hc : k + (((a.map w1).sum : Nat) : Int) ≤ 1000000000000)
    (hs : ∀ (i m : Nat) (k : Int) (xs : List α), i < a.length → xs.length = a.length → 0 ≤ k → k + ((w1 (nthI xs (i : Int) d) : Nat) : Int) ≤ 1000000000000 → F (m + 1) k (i : Int) xs = F m (k + ((w1 (nthI xs (i : Int) d) : Nat) : Int)) ((i + 1 : Nat) : Int) (xs.set i (m1 k (nthI xs (i : Int) d))))
    (he : ∀ (m : Nat) (k : Int) (xs : List α), xs.length = a.length → F (m + 1) k (a.length : Int) xs = some (k, xs)) : F fu k 0 a = some (k + (((a.map w1).sum : Nat) : Int), markAll m1 w1 k a) := by
  obtain ⟨M, hM⟩ := fu_ge a.length hn
  have h1 : ∀ q i : Nat, ∀ (k : Int) (xs : List α), xs.length = a.length → i ≤ a.length → a.length - i = q → 0 ≤ k → k + ((((xs.drop i).map w1).sum : Nat) : Int) ≤ 1000000000000 → F (q + 1 + M) k (i : Int) xs = some (k + ((((xs.drop i).map w1).sum : Nat) : Int), xs.take i ++ markAll m1 w1 k (xs.drop i)) := by
    intro q
    induction q with
    | zero =>
      intro i k xs hx hi hd h0 hc
      obtain rfl : i = a.length := by omega
      rw [show 0 + 1 + M = M + 1 from by omega, he _ _ _ hx, List.take_of_length_le (by omega), List.drop_of_length_le (by omega)]
      simp [markAll]
    | succ q ih =>
      intro i k xs hx hi hd h0 hc
      have hi2 : i < xs.length := by omega
      rw [drop_at xs i d hi2, List.map_cons, List.sum_cons] at hc ⊢
      rw [show q + 1 + 1 + M = (q + 1 + M) + 1 from by omega, hs i _ k xs (by omega) hx h0 (by omega)]
      have e : (xs.set i (m1 k (nthI xs (i : Int) d))).drop (i + 1) = xs.drop (i + 1) := List.drop_set_of_lt (by omega)
      rw [ih (i + 1) _ _ (by simpa using hx) (by omega) (by omega) (by omega) (by rw [e]; omega), e, markAll]
      rw [List.take_add_one, List.getElem?_set_self hi2, List.take_set_of_le (Nat.le_refl i)]
      simp
      omega
  rw [hM]
  have := h1 a.length 0 k a rfl (by omega) (by omega) h0 hc
  simpa using this
theorem markAll_nthW {α : Type} (m1 : Int → α → α) (w1 : α → Nat) (d : α) : ∀ (a : List α) (k : Int) (i : Nat), i < a.length → nthI (markAll m1 w1 k a) (i : Int) d = m1 (k + ((((a.take i).map w1).sum : Nat) : Int)) (nthI a (i : Int) d)
  | [], _, i, h => by simp at h
  | x :: xs, k, 0, _ => by simp [markAll, nthI]
  | x :: xs, k, i + 1, h => by
    have := markAll_nthW m1 w1 d xs (k + (w1 x : Int)) i (by simpa using h)
    rw [nthI_nat, nthI_nat] at this ⊢
    rw [markAll, List.getD_cons_succ, List.getD_cons_succ, this, List.take_succ_cons, List.map_cons, List.sum_cons]
    congr 1
    omega
theorem sum_take_succ {α : Type} (w1 : α → Nat) (d : α) (a : List α) (i : Nat) (h : i < a.length) : ((a.take (i + 1)).map w1).sum = ((a.take i).map w1).sum + w1 (nthI a (i : Int) d) := by
  rw [List.take_add_one, List.map_append, List.sum_append, nthI_nat, List.getD_eq_getElem?_getD, List.getElem?_eq_getElem h]
  simp
theorem sum_take_le {α : Type} (w1 : α → Nat) (a : List α) (i : Nat) : ((a.take i).map w1).sum ≤ (a.map w1).sum := by
  have : (a.map w1).sum = ((a.take i).map w1).sum + ((a.drop i).map w1).sum := by rw [← List.sum_append, ← List.map_append, List.take_append_drop]
  omega
theorem heldLoopW {α : Type} (F : Nat → Int → Int → Option Int) (m1 : Int → α → α) (w1 : α → Nat) (a : List α) (d : α) (k : Int) (h0 : 0 ≤ k) (hn : a.length ≤ 1000000000000) (hc : k + (((a.map w1).sum : Nat) : Int) ≤ 1000000000000)
    (hs : ∀ (i m : Nat) (j : Int), i < a.length → 0 ≤ j → j + ((w1 (nthI a (i : Int) d) : Nat) : Int) ≤ 1000000000000 → nthI (markAll m1 w1 k a) (i : Int) d = m1 j (nthI a (i : Int) d) → F (m + 1) j (i : Int) = F m (j + ((w1 (nthI a (i : Int) d) : Nat) : Int)) ((i + 1 : Nat) : Int))
    (he : ∀ (m : Nat) (j : Int), F (m + 1) j (a.length : Int) = some j) : F fu k 0 = some (k + (((a.map w1).sum : Nat) : Int)) := by
  obtain ⟨M, hM⟩ := fu_ge a.length hn
  have h1 : ∀ q i : Nat, i ≤ a.length → a.length - i = q → F (q + 1 + M) (k + ((((a.take i).map w1).sum : Nat) : Int)) (i : Int) = some (k + (((a.map w1).sum : Nat) : Int)) := by
    intro q
    induction q with
    | zero =>
      intro i hi hd
      obtain rfl : i = a.length := by omega
      rw [show 0 + 1 + M = M + 1 from by omega, he, List.take_of_length_le (Nat.le_refl _)]
    | succ q ih =>
      intro i hi hd
      have hi2 : i < a.length := by omega
      have e := sum_take_succ w1 d a i hi2
      have hle := sum_take_le w1 a (i + 1)
      rw [show q + 1 + 1 + M = (q + 1 + M) + 1 from by omega, hs i _ _ hi2 (by omega) (by omega) (markAll_nthW m1 w1 d a k i hi2)]
      have := ih (i + 1) (by omega) (by omega)
      rw [e] at this
      rw [show k + ((((a.take i).map w1).sum : Nat) : Int) + ((w1 (nthI a (i : Int) d) : Nat) : Int) = k + ((((a.take i).map w1).sum + w1 (nthI a (i : Int) d) : Nat) : Int) from by omega]
      exact this
  rw [hM]
  have := h1 a.length 0 (by omega) (by omega)
  simpa using this
def bInt (x : Int) : Prop := (Lit.int .i64 x).wf = true
abbrev TElem : Type := Int × Int × Int × Int
instance : DecidableEq TElem := (@instDecidableEqProd _ _ (inferInstance : DecidableEq Int) (@instDecidableEqProd _ _ (inferInstance : DecidableEq Int) (@instDecidableEqProd _ _ (inferInstance : DecidableEq Int) (inferInstance : DecidableEq Int))))
def bElem (x : TElem) : Prop := ((Lit.int .i64 x.1).wf = true ∧ (Lit.int .i64 x.2.1).wf = true ∧ (Lit.int .i64 x.2.2.1).wf = true ∧ (Lit.int .i64 x.2.2.2).wf = true)
theorem eqElem_eq (x y : TElem) : L.eqElem x.1 x.2.1 x.2.2.1 x.2.2.2 y.1 y.2.1 y.2.2.1 y.2.2.2 = some (decide (x = y)) := by
  unfold L.eqElem
  simp only [cneI, cneB, cnotb, cbeB, cds, cdt, Option.bind_some]
  exact sdec ⟨fun h => (Prod.ext h.1 (Prod.ext h.2.1 (Prod.ext h.2.2.1 h.2.2.2))), by rintro rfl; exact ⟨rfl, rfl, rfl, rfl⟩⟩
abbrev TPunct : Type := Int × Int × Int × Int
instance : DecidableEq TPunct := (@instDecidableEqProd _ _ (inferInstance : DecidableEq Int) (@instDecidableEqProd _ _ (inferInstance : DecidableEq Int) (@instDecidableEqProd _ _ (inferInstance : DecidableEq Int) (inferInstance : DecidableEq Int))))
def bPunct (x : TPunct) : Prop := ((Lit.int .i64 x.1).wf = true ∧ (Lit.int .i64 x.2.1).wf = true ∧ (Lit.int .i64 x.2.2.1).wf = true ∧ (Lit.int .i64 x.2.2.2).wf = true)
theorem eqPunct_eq (x y : TPunct) : L.eqPunct x.1 x.2.1 x.2.2.1 x.2.2.2 y.1 y.2.1 y.2.2.1 y.2.2.2 = some (decide (x = y)) := by
  unfold L.eqPunct
  simp only [cneI, cneB, cnotb, cbeB, cds, cdt, Option.bind_some]
  exact sdec ⟨fun h => (Prod.ext h.1 (Prod.ext h.2.1 (Prod.ext h.2.2.1 h.2.2.2))), by rintro rfl; exact ⟨rfl, rfl, rfl, rfl⟩⟩
abbrev TOp : Type := Int × (TElem) × (TPunct) × Int × Int
instance : DecidableEq TOp := (@instDecidableEqProd _ _ (inferInstance : DecidableEq Int) (@instDecidableEqProd _ _ (inferInstance : DecidableEq TElem) (@instDecidableEqProd _ _ (inferInstance : DecidableEq TPunct) (@instDecidableEqProd _ _ (inferInstance : DecidableEq Int) (inferInstance : DecidableEq Int)))))
def bOp (x : TOp) : Prop := ((Lit.int .i64 x.1).wf = true ∧ ((Lit.int .i64 x.2.1.1).wf = true ∧ (Lit.int .i64 x.2.1.2.1).wf = true ∧ (Lit.int .i64 x.2.1.2.2.1).wf = true ∧ (Lit.int .i64 x.2.1.2.2.2).wf = true) ∧ ((Lit.int .i64 x.2.2.1.1).wf = true ∧ (Lit.int .i64 x.2.2.1.2.1).wf = true ∧ (Lit.int .i64 x.2.2.1.2.2.1).wf = true ∧ (Lit.int .i64 x.2.2.1.2.2.2).wf = true) ∧ (Lit.int .i64 x.2.2.2.1).wf = true ∧ (Lit.int .i64 x.2.2.2.2).wf = true)
theorem eqOp_eq (x y : TOp) : L.eqOp x.1 x.2.1.1 x.2.1.2.1 x.2.1.2.2.1 x.2.1.2.2.2 x.2.2.1.1 x.2.2.1.2.1 x.2.2.1.2.2.1 x.2.2.1.2.2.2 x.2.2.2.1 x.2.2.2.2 y.1 y.2.1.1 y.2.1.2.1 y.2.1.2.2.1 y.2.1.2.2.2 y.2.2.1.1 y.2.2.1.2.1 y.2.2.1.2.2.1 y.2.2.1.2.2.2 y.2.2.2.1 y.2.2.2.2 = some (decide (x = y)) := by
  unfold L.eqOp
  simp only [eqElem_eq x.2.1 y.2.1, eqPunct_eq x.2.2.1 y.2.2.1, cneI, cneB, cnotb, cbeB, cds, cdt, Option.bind_some]
  exact sdec ⟨fun h => (Prod.ext h.1 (Prod.ext h.2.1 (Prod.ext h.2.2.1 (Prod.ext h.2.2.2.1 h.2.2.2.2)))), by rintro rfl; exact ⟨rfl, rfl, rfl, rfl, rfl⟩⟩
theorem in_eq (a b c : Int) : I.in a b c = some (decide (b ≤ a ∧ a ≤ c)) := by unfold I.in; rw [cond_some, cond_and, dand]
theorem isSource_eq (a : Int) : I.isSource a = some (decide (0 ≤ a ∧ a ≤ 3)) := by unfold I.isSource; rw [in_eq]; rfl
theorem isTime_eq (a : Int) : I.isTime a = some (decide (0 ≤ a ∧ a ≤ 1000)) := by unfold I.isTime; rw [in_eq]; rfl
theorem isKey_eq (a : Int) : I.isKey a = some (decide (0 ≤ a ∧ a ≤ 15)) := by unfold I.isKey; rw [in_eq]; rfl
theorem isElem_eq (a b c d : Int) : I.isElem a b c d = some (decide ((0 ≤ a ∧ a ≤ 3) ∧ (0 ≤ b ∧ b ≤ 15) ∧ (0 ≤ d ∧ d ≤ 1000))) := by
  unfold I.isElem; simp only [isSource_eq, isKey_eq, isTime_eq, Option.bind_some, cond_some, cond_and, dand]
theorem l04Src_eq (a : Int) : S.l04Src a = some (decide (0 ≤ a ∧ a ≤ 3)) := by
  unfold S.l04Src; rw [cond_some, cond_and, dand]; congr 2; apply propext; omega
theorem l05Time_eq (a : Int) : S.l05Time a = some (decide (0 ≤ a ∧ a ≤ 1000)) := by unfold S.l05Time; rw [cond_some, cond_and, dand]
theorem l04Key_eq (a : Int) : S.l04Key a = some (decide (0 ≤ a ∧ a ≤ 15)) := by unfold S.l04Key; rw [cond_some, cond_and, dand]
theorem ElemOk_eq (a b c d : Int) : S.ElemOk a b c d = some (decide ((0 ≤ a ∧ a ≤ 3) ∧ (0 ≤ b ∧ b ≤ 15) ∧ (0 ≤ d ∧ d ≤ 1000))) := by
  unfold S.ElemOk; simp only [l04Src_eq, l04Key_eq, l05Time_eq, Option.bind_some, cond_some, cond_and, dand]
def opOk (a1 a2 a3 a4 a5 a6 a7 a8 a9 a10 a11 : Int) : Bool :=
  bif a1 == 1 then decide ((0 ≤ a2 ∧ a2 ≤ 3) ∧ (0 ≤ a3 ∧ a3 ≤ 15) ∧ (0 ≤ a5 ∧ a5 ≤ 1000) ∧ a6 = 0 ∧ a7 = 0 ∧ a8 = 0 ∧ a9 = 0 ∧ a10 = 0 ∧ a11 = 0)
  else bif a1 == 2 then decide ((0 ≤ a6 ∧ a6 ≤ 3) ∧ (0 ≤ a7 ∧ a7 ≤ 4) ∧ (0 ≤ a8 ∧ a8 ≤ 15) ∧ (0 ≤ a9 ∧ a9 ≤ 15) ∧ a2 = 0 ∧ a3 = 0 ∧ a4 = 0 ∧ a5 = 0 ∧ a10 = 0 ∧ a11 = 0)
  else bif a1 == 3 then decide ((0 ≤ a6 ∧ a6 ≤ 3) ∧ (0 ≤ a7 ∧ a7 ≤ 4) ∧ (0 ≤ a8 ∧ a8 ≤ 15) ∧ a9 = 0 ∧ a2 = 0 ∧ a3 = 0 ∧ a4 = 0 ∧ a5 = 0 ∧ a10 = 0 ∧ a11 = 0)
  else bif a1 == 4 then decide ((0 ≤ a10 ∧ a10 ≤ 3) ∧ (0 ≤ a11 ∧ a11 ≤ 1000) ∧ a2 = 0 ∧ a3 = 0 ∧ a4 = 0 ∧ a5 = 0 ∧ a6 = 0 ∧ a7 = 0 ∧ a8 = 0 ∧ a9 = 0)
  else bif a1 == 5 || a1 == 6 then decide ((0 ≤ a10 ∧ a10 ≤ 3) ∧ a11 = 0 ∧ a2 = 0 ∧ a3 = 0 ∧ a4 = 0 ∧ a5 = 0 ∧ a6 = 0 ∧ a7 = 0 ∧ a8 = 0 ∧ a9 = 0)
  else bif a1 == 7 || a1 == 8 || a1 == 9 then decide ((0 ≤ a10 ∧ a10 ≤ 3) ∧ (0 ≤ a11 ∧ a11 ≤ 1000000) ∧ a2 = 0 ∧ a3 = 0 ∧ a4 = 0 ∧ a5 = 0 ∧ a6 = 0 ∧ a7 = 0 ∧ a8 = 0 ∧ a9 = 0)
  else false
theorem isPlace_eq (a b c d : Int) : I.Punct_isPlace a b c d = some (decide ((0 ≤ a ∧ a ≤ 3) ∧ (0 ≤ b ∧ b ≤ 4) ∧ (0 ≤ c ∧ c ≤ 15))) := by
  unfold I.Punct_isPlace; simp only [isSource_eq, isKey_eq, in_eq, Option.bind_some, cond_some, cond_and, dand]
theorem l10Count_eq (a : Int) : S.l10Count a = some (decide (0 ≤ a ∧ a ≤ 1000000)) := by unfold S.l10Count; rw [cond_some, cond_and, dand]
theorem l04Bits_eq (a : Int) : S.l04Bits a = some (decide (0 ≤ a ∧ a ≤ 4)) := by unfold S.l04Bits; rw [cond_some, cond_and, dand]
theorem l11Punct_eq (a b c d : Int) : S.l11Punct a b c d = some (decide ((0 ≤ a ∧ a ≤ 3) ∧ (0 ≤ b ∧ b ≤ 4) ∧ (0 ≤ c ∧ c ≤ 15) ∧ (0 ≤ d ∧ d ≤ 15))) := by
  unfold S.l11Punct; simp only [l04Src_eq, l04Key_eq, l04Bits_eq, Option.bind_some, cond_some, cond_and, dand]; congr 2; apply propext; omega
theorem specOpOk_eq (a b c d e f g h i j k : Int) : S.OpOk a b c d e f g h i j k = some (opOk a b c d e f g h i j k) := by
  unfold S.OpOk
  simp only [ElemOk_eq, l11Punct_eq, l04Src_eq, l05Time_eq, l10Count_eq, Option.bind_some, cond_some, cond_and]
  congr 1
  unfold opOk
  rw [Bool.eq_iff_iff]
  by_cases h1 : a = 1
  · subst h1; simp; omega
  by_cases h2 : a = 2
  · subst h2; simp; omega
  by_cases h3 : a = 3
  · subst h3; simp; omega
  by_cases h4 : a = 4
  · subst h4; simp; omega
  by_cases h5 : a = 5
  · subst h5; simp; omega
  by_cases h6 : a = 6
  · subst h6; simp; omega
  by_cases h7 : a = 7
  · subst h7; simp; omega
  by_cases h8 : a = 8
  · subst h8; simp; omega
  by_cases h9 : a = 9
  · subst h9; simp; omega
  simp [h1, h2, h3, h4, h5, h6, h7, h8, h9]
theorem isOp_eq (a b c d e f g h i j k : Int) : I.isOp a b c d e f g h i j k = some (opOk a b c d e f g h i j k) := by
  unfold I.isOp
  simp only [isElem_eq, isPlace_eq, in_eq, isSource_eq, isTime_eq, dup_eq, Option.bind_some, cond_some, cond_and]
  congr 1
  unfold opOk
  rw [Bool.eq_iff_iff]
  by_cases h1 : a = 1
  · subst h1; simp; omega
  by_cases h2 : a = 2
  · subst h2; simp; omega
  by_cases h3 : a = 3
  · subst h3; simp; omega
  by_cases h4 : a = 4
  · subst h4; simp; omega
  by_cases h5 : a = 5
  · subst h5; simp; omega
  by_cases h6 : a = 6
  · subst h6; simp; omega
  by_cases h7 : a = 7
  · subst h7; simp; omega
  by_cases h8 : a = 8
  · subst h8; simp; omega
  by_cases h9 : a = 9
  · subst h9; simp; omega
  simp [h1, h2, h3, h4, h5, h6, h7, h8, h9]
def inI (n : Int) : Prop := -9223372036854775808 ≤ n ∧ n < 9223372036854775808
instance (n : Int) : Decidable (inI n) := by unfold inI; exact inferInstance
def inW (n : Int) : Prop := -170141183460469231731687303715884105728 ≤ n ∧ n < 170141183460469231731687303715884105728
def wd (n : Int) : Int × Int := (IntKind.i64.wrap (n / 18446744073709551616), n % 18446744073709551616)
theorem i64_u64 (n : Int) : IntKind.i64.wrap (IntKind.u64.wrap n) = IntKind.i64.wrap n := by rw [u64_mod, IntKind.wrap_i64, IntKind.wrap_i64]; omega
theorem u64_i64 (n : Int) : IntKind.u64.wrap (IntKind.i64.wrap n) = IntKind.u64.wrap n := by rw [u64_mod, u64_mod, IntKind.wrap_i64]; omega
theorem u64_add (a b : Int) : IntKind.u64.wrap (IntKind.u64.wrap a + IntKind.u64.wrap b) = IntKind.u64.wrap (a + b) := by simp only [u64_mod]; omega
theorem i64_add (a b : Int) : IntKind.i64.wrap (IntKind.i64.wrap a + b) = IntKind.i64.wrap (a + b) := by simp only [IntKind.wrap_i64]; omega
theorem i64_add2 (a b : Int) : IntKind.i64.wrap (a + IntKind.i64.wrap b) = IntKind.i64.wrap (a + b) := by simp only [IntKind.wrap_i64]; omega
theorem i64_range (n : Int) : inI (IntKind.i64.wrap n) := by unfold inI; rw [IntKind.wrap_i64]; omega
theorem wd_range (n : Int) : inI (wd n).1 ∧ 0 ≤ (wd n).2 ∧ (wd n).2 < 18446744073709551616 := ⟨i64_range _, by unfold wd; omega, by unfold wd; omega⟩
theorem wd_of {h l n : Int} (h0 : inI h) (h1 : 0 ≤ l) (h2 : l < 18446744073709551616) (hn : n = h * 18446744073709551616 + l) : (h, l) = wd n := by
  unfold inI at h0
  unfold wd
  have e1 : n / 18446744073709551616 = h := by omega
  have e2 : n % 18446744073709551616 = l := by omega
  rw [e1, e2, w64 h0.1 h0.2]
theorem wd_inj {m n : Int} (hm : inW m) (hn : inW n) (h : wd m = wd n) : m = n := by
  unfold inW at hm hn
  unfold wd at h
  simp only [Prod.mk.injEq, IntKind.wrap_i64] at h
  omega
theorem sWideOf_eq (n : Int) (h : inI n) : S.WideOf n = some (wd n) := by
  unfold inI at h
  unfold S.WideOf wd
  have e2 : IntKind.u64.wrap n = n % 18446744073709551616 := u64_mod n
  by_cases c : n < 0
  · rw [cdp c, e2, show n / 18446744073709551616 = -1 from by omega, w64 (by omega) (by omega)]
  · rw [cdn c, e2, show n / 18446744073709551616 = 0 from by omega, w64 (by omega) (by omega)]
theorem sWideAdd_eq (a b : Int) : S.WideAdd (wd a).1 (wd a).2 (wd b).1 (wd b).2 = some (wd (a + b)) := by
  unfold S.WideAdd wd
  simp only [u64_i64, u64_add, i64_u64]
  have ha := Int.mul_ediv_add_emod a 18446744073709551616
  have hb := Int.mul_ediv_add_emod b 18446744073709551616
  have ha2 := Int.emod_lt_of_pos a (show (0 : Int) < 18446744073709551616 by decide)
  have hb2 := Int.emod_lt_of_pos b (show (0 : Int) < 18446744073709551616 by decide)
  have ha0 := Int.emod_nonneg a (show (18446744073709551616 : Int) ≠ 0 by decide)
  have hb0 := Int.emod_nonneg b (show (18446744073709551616 : Int) ≠ 0 by decide)
  generalize a / 18446744073709551616 = A at *
  generalize a % 18446744073709551616 = p at *
  generalize b / 18446744073709551616 = B at *
  generalize b % 18446744073709551616 = q at *
  have e2 : IntKind.u64.wrap (p + q) = (a + b) % 18446744073709551616 := by rw [u64_mod]; omega
  by_cases c : IntKind.u64.wrap (p + q) < p
  · rw [cdp c, e2]
    rw [u64_mod] at c
    have e1 : (a + b) / 18446744073709551616 = A + B + 1 := by omega
    rw [e1]
    congr 2
    rw [u64_mod, IntKind.wrap_i64, IntKind.wrap_i64]
    omega
  · rw [cdn c, e2]
    rw [u64_mod] at c
    have e1 : (a + b) / 18446744073709551616 = A + B := by omega
    rw [e1]
theorem sWideNeg_eq (a : Int) : S.WideNeg (wd a).1 (wd a).2 = some (wd (-a)) := by
  unfold S.WideNeg
  have e1 : (IntKind.i64.wrap (-1 - (wd a).1), IntKind.u64.wrap (18446744073709551615 - (wd a).2)) = wd (-1 - a) := by
    unfold wd
    simp only [Prod.mk.injEq, u64_mod, IntKind.wrap_i64]
    omega
  have h1 := congrArg Prod.fst e1
  have h2 := congrArg Prod.snd e1
  simp only at h1 h2
  have e3 : wd 1 = (0, 1) := by decide
  have := sWideAdd_eq (-1 - a) 1
  rw [e3] at this
  rw [h1, h2, this, show -1 - a + 1 = -a from by omega]
  rfl
theorem mul_range {a b : Int} (ha : inI a) (hb : inI b) : inW (a * b) := by
  have h1 : a.natAbs ≤ 9223372036854775808 := by unfold inI at ha; omega
  have h2 : b.natAbs ≤ 9223372036854775808 := by unfold inI at hb; omega
  have h3 : (a * b).natAbs ≤ 9223372036854775808 * 9223372036854775808 := by rw [Int.natAbs_mul]; exact Nat.mul_le_mul h1 h2
  unfold inW; omega
theorem div_step {q r y X : Nat} (hX : X = q * y + r) (hr : r < y) : X / y = q ∧ X % y = r := by
  have hy : 0 < y := by omega
  constructor
  · rw [hX, Nat.mul_comm, Nat.mul_add_div hy, Nat.div_eq_of_lt hr, Nat.add_zero]
  · rw [hX, Nat.mul_comm, Nat.mul_add_mod, Nat.mod_eq_of_lt hr]
def meanF (W n : Int) : Int × Bool := if inI (W / n) then (W / n, true) else (0, false)
def lowBits (x d : Nat) : List Int := (List.range d).map fun j => ((x / 2 ^ j % 2 : Nat) : Int)
theorem lowBits_length (x d : Nat) : (lowBits x d).length = d := by simp [lowBits]
theorem lowBits_nth (x d k : Nat) (h : k < d) : nthI (lowBits x d) (k : Int) 0 = ((x / 2 ^ k % 2 : Nat) : Int) := by
  rw [nthI_nat, List.getD_eq_getElem?_getD, lowBits, List.getElem?_map, List.getElem?_range h]; rfl
theorem lowBits_succ (x d : Nat) : lowBits x (d + 1) = ((x % 2 : Nat) : Int) :: lowBits (x / 2) d := by
  unfold lowBits
  rw [List.range_succ_eq_map, List.map_cons, List.map_map]
  congr 1
  · rw [Nat.pow_zero, Nat.div_one]
  · apply List.map_congr_left
    intro j _
    show ((x / 2 ^ (j + 1) % 2 : Nat) : Int) = ((x / 2 / 2 ^ j % 2 : Nat) : Int)
    rw [Nat.pow_succ, Nat.mul_comm, ← Nat.div_div_eq_div_mul]
theorem lowBits_add : ∀ (a x b : Nat), lowBits x (a + b) = lowBits x a ++ lowBits (x / 2 ^ a) b
  | 0, x, b => by rw [Nat.zero_add, Nat.pow_zero, Nat.div_one]; rfl
  | a + 1, x, b => by rw [Nat.add_right_comm, lowBits_succ, lowBits_succ, lowBits_add a, Nat.pow_succ, Nat.mul_comm (2 ^ a) 2, Nat.div_div_eq_div_mul]; rfl
theorem lowBits_mod : ∀ (d x : Nat), lowBits (x % 2 ^ d) d = lowBits x d
  | 0, x => rfl
  | d + 1, x => by rw [lowBits_succ, lowBits_succ, Nat.pow_succ, Nat.mul_comm (2 ^ d) 2, Nat.mod_mul_right_mod, Nat.mod_mul_right_div_self, lowBits_mod d]
theorem bits_split (h l : Nat) (hl : l < 18446744073709551616) : lowBits (h * 18446744073709551616 + l) 128 = lowBits l 64 ++ lowBits h 64 := by
  have e1 : (h * 18446744073709551616 + l) % 2 ^ 64 = l := by rw [show (2 : Nat) ^ 64 = 18446744073709551616 from by decide]; omega
  have e2 : (h * 18446744073709551616 + l) / 2 ^ 64 = h := by rw [show (2 : Nat) ^ 64 = 18446744073709551616 from by decide]; omega
  rw [show 128 = 64 + 64 from rfl, lowBits_add, e2, ← lowBits_mod 64 (h * 18446744073709551616 + l), e1]
theorem sBits_l0 (e : Int → Int → List Int → Option (List Int)) (a5 a6 : Int) (m : Nat) : ∀ (d k x : Nat) (acc : List Int), k + d = 64 → acc.length = k → x < 18446744073709551616 →
    S.l02Bits_l0 (d + 1 + m) e (x : Int) (k : Int) a5 a6 acc = e a5 a6 (acc ++ lowBits x d) := by
  intro d
  induction d with
  | zero =>
    intro k x acc hk ha hx
    rw [show 0 + 1 + m = m + 1 from by omega, S.l02Bits_l0, cdn (by omega)]
    simp [lowBits]
  | succ d ih =>
    intro k x acc hk ha hx
    rw [show d + 1 + 1 + m = (d + 1 + m) + 1 from by omega, S.l02Bits_l0, cdp (by omega), cdn (by decide)]
    simp only []
    rw [tmod_nat _ _ (by omega), tdiv_nat _ _ (by omega), cdp (by simp only [List.length_cons, List.length_nil]; omega), cdn (by decide), u64w (by omega) (by omega), w64 (n := (k : Int) + 1) (by omega) (by omega), w64 (n := (x : Int) % 2) (by omega) (by omega)]
    have hi := ih (k + 1) (x / 2) (acc ++ [((x % 2 : Nat) : Int)]) (by omega) (by simp; omega) (by omega)
    rw [List.append_assoc] at hi
    rw [lowBits_succ]
    exact hi
theorem sBits_l1 (e : List Int → Option (List Int)) (m : Nat) : ∀ (d k x : Nat) (acc : List Int), k + d = 64 → acc.length = k + 64 → x < 18446744073709551616 →
    S.l02Bits_l1 (d + 1 + m) e (x : Int) (k : Int) acc = e (acc ++ lowBits x d) := by
  intro d
  induction d with
  | zero =>
    intro k x acc hk ha hx
    rw [show 0 + 1 + m = m + 1 from by omega, S.l02Bits_l1, cdn (by omega)]
    simp [lowBits]
  | succ d ih =>
    intro k x acc hk ha hx
    rw [show d + 1 + 1 + m = (d + 1 + m) + 1 from by omega, S.l02Bits_l1, cdp (by omega), cdn (by decide)]
    simp only []
    rw [tmod_nat _ _ (by omega), tdiv_nat _ _ (by omega), cdp (by simp only [List.length_cons, List.length_nil]; omega), cdn (by decide), u64w (by omega) (by omega), w64 (n := (k : Int) + 1) (by omega) (by omega), w64 (n := (x : Int) % 2) (by omega) (by omega)]
    have hi := ih (k + 1) (x / 2) (acc ++ [((x % 2 : Nat) : Int)]) (by omega) (by simp; omega) (by omega)
    rw [List.append_assoc] at hi
    rw [lowBits_succ]
    exact hi
theorem sBits_eq (A : Nat) (h : A < 340282366920938463463374607431768211456) : S.l02Bits (wd (A : Int)).1 (wd (A : Int)).2 = some (lowBits A 128) := by
  unfold S.l02Bits
  obtain ⟨m, hm⟩ := fu_ge 64 (by omega)
  have e2 : (wd (A : Int)).2 = ((A % 18446744073709551616 : Nat) : Int) := rfl
  have e1 : IntKind.u64.wrap (wd (A : Int)).1 = ((A / 18446744073709551616 : Nat) : Int) := by show IntKind.u64.wrap (IntKind.i64.wrap ((A : Int) / 18446744073709551616)) = _; rw [u64_i64, u64w (by omega) (by omega)]; rfl
  have key := sBits_l0 (fun y13 y14 y15 => (S.l02Bits_l1 fu (fun y25 => (some y25)) (IntKind.u64.wrap y13) 0 y15)) (wd (A : Int)).1 (wd (A : Int)).2 m 64 0 (A % 18446744073709551616) [] (by omega) rfl (by omega)
  rw [← hm, ← e2] at key
  refine key.trans ?_
  rw [e1, hm]
  refine (sBits_l1 _ m 64 0 (A / 18446744073709551616) ([] ++ lowBits (A % 18446744073709551616) 64) (by omega) (by simp [lowBits_length]) (by omega)).trans ?_
  rw [List.nil_append, ← bits_split _ _ (by omega)]
  congr 2; omega
theorem div_two (M b n : Nat) (hn : 0 < n) (hb : b < 2) : (n ≤ 2 * (M % n) + b → (2 * M + b) / n % 2 = 1 ∧ (2 * M + b) % n = 2 * (M % n) + b - n) ∧ (¬ n ≤ 2 * (M % n) + b → (2 * M + b) / n % 2 = 0 ∧ (2 * M + b) % n = 2 * (M % n) + b) := by
  have e := Nat.div_add_mod M n
  have hl := Nat.mod_lt M hn
  constructor
  · intro c
    have h1 : 2 * M + b = (2 * (M / n) + 1) * n + (2 * (M % n) + b - n) := by
      rw [Nat.add_mul, Nat.mul_assoc, Nat.mul_comm (M / n) n, Nat.one_mul]
      generalize n * (M / n) = X at *
      omega
    obtain ⟨h2, h3⟩ := div_step h1 (by omega)
    rw [h2, h3]; omega
  · intro c
    have h1 : 2 * M + b = (2 * (M / n)) * n + (2 * (M % n) + b) := by
      rw [Nat.mul_assoc, Nat.mul_comm (M / n) n]
      generalize n * (M / n) = X at *
      omega
    obtain ⟨h2, h3⟩ := div_step h1 (by omega)
    rw [h2, h3]; omega
def quoBits (Q j : Nat) : List Int := (List.range 128).map fun i => if j ≤ i then ((Q / 2 ^ i % 2 : Nat) : Int) else 0
theorem quoBits_length (Q j : Nat) : (quoBits Q j).length = 128 := by simp [quoBits]
theorem quoBits_set (Q j : Nat) (h : j < 128) (hb : Q / 2 ^ j % 2 = 1) : (quoBits Q (j + 1)).set j 1 = quoBits Q j := by
  apply List.ext_getElem (by simp [quoBits])
  intro i h1 h2
  simp only [quoBits, List.getElem_set, List.getElem_map, List.getElem_range]
  by_cases c : j = i
  · subst c; rw [if_pos rfl, if_pos (Nat.le_refl _), hb]; rfl
  · rw [if_neg c]
    by_cases c2 : j ≤ i
    · rw [if_pos (by omega), if_pos c2]
    · rw [if_neg (by omega), if_neg c2]
theorem quoBits_skip (Q j : Nat) (hb : Q / 2 ^ j % 2 = 0) : quoBits Q (j + 1) = quoBits Q j := by
  unfold quoBits
  apply List.map_congr_left
  intro i _
  by_cases c : j = i
  · subst c; rw [if_neg (by omega), if_pos (Nat.le_refl _), hb]; rfl
  · by_cases c2 : j ≤ i
    · rw [if_pos (by omega), if_pos c2]
    · rw [if_neg (by omega), if_neg c2]
theorem quoBits_zero (Q : Nat) : quoBits Q 0 = lowBits Q 128 := by
  unfold quoBits lowBits
  apply List.map_congr_left
  intro i _
  rw [if_pos (by omega)]
theorem quoBits_top (Q : Nat) : quoBits Q 128 = List.replicate (Int.toNat 128) (0 : Int) := by
  rw [show Int.toNat 128 = 128 from rfl, List.eq_replicate_iff]
  refine ⟨quoBits_length _ _, fun b hb => ?_⟩
  unfold quoBits at hb
  obtain ⟨i, hi, rfl⟩ := List.mem_map.1 hb
  rw [if_neg (by have := List.mem_range.1 hi; omega)]
theorem sDivide_l (e : Int → List Int → Option (Int × List Int)) (n N : Nat) (hn : 0 < n) (hn2 : n ≤ 1000000) (m : Nat) : ∀ (j : Nat), j ≤ 128 →
    S.l02Divide_l0 (j + 1 + m) e (n : Int) ((N / 2 ^ j % n : Nat) : Int) ((j : Int) - 1) (lowBits N 128) (quoBits (N / n) j) = e ((N % n : Nat) : Int) (lowBits (N / n) 128) := by
  intro j
  induction j with
  | zero =>
    intro _
    rw [show 0 + 1 + m = m + 1 from by omega, S.l02Divide_l0, cdn (by omega), Nat.pow_zero, Nat.div_one, quoBits_zero]
  | succ j ih =>
    intro hj
    have hj2 : ((j + 1 : Nat) : Int) - 1 = (j : Int) := by omega
    rw [show j + 1 + 1 + m = (j + 1 + m) + 1 from by omega, S.l02Divide_l0, hj2, cdp (by omega), cdp (by rw [lowBits_length]; omega), lowBits_nth _ _ _ (by omega)]
    obtain ⟨M, hM⟩ : ∃ M, M = N / 2 ^ (j + 1) := ⟨_, rfl⟩
    obtain ⟨b, hb⟩ : ∃ b, b = N / 2 ^ j % 2 := ⟨_, rfl⟩
    have hM2 : N / 2 ^ j / 2 = M := by rw [hM, Nat.pow_succ, Nat.div_div_eq_div_mul]
    have hK : N / 2 ^ j = 2 * M + b := by omega
    have hbl : b < 2 := by omega
    have hl := Nat.mod_lt M hn
    have hQ : N / n / 2 ^ j = (2 * M + b) / n := by rw [Nat.div_div_eq_div_mul, Nat.mul_comm, ← Nat.div_div_eq_div_mul, hK]
    obtain ⟨t1, t2⟩ := div_two M b n hn hbl
    rw [← hM, ← hb]
    simp only []
    rw [w64 (n := 2 * ((M % n : Nat) : Int)) (by omega) (by omega), w64 (n := 2 * ((M % n : Nat) : Int) + (b : Int)) (by omega) (by omega), w64 (n := (j : Int) - 1) (by omega) (by omega)]
    by_cases c : n ≤ 2 * (M % n) + b
    · obtain ⟨t3, t4⟩ := t1 c
      rw [cdp (by omega), cdp (by rw [quoBits_length]; omega), w64 (by omega) (by omega), Int.toNat_natCast, quoBits_set _ _ (by omega) (by rw [hQ, t3]), ← ih (by omega), hK, t4]
      congr 1; omega
    · obtain ⟨t3, t4⟩ := t2 c
      rw [cdn (by omega), quoBits_skip _ _ (by rw [hQ, t3]), ← ih (by omega), hK, t4]
      congr 1
theorem sDivide_eq (n N : Nat) (hn : 0 < n) (hn2 : n ≤ 1000000) (hN : N < 340282366920938463463374607431768211456) : S.l02Divide (n : Int) (lowBits N 128) = some (((N % n : Nat) : Int), lowBits (N / n) 128) := by
  unfold S.l02Divide
  rw [cdp (by decide)]
  obtain ⟨m, hm⟩ := fu_ge 128 (by omega)
  have key := sDivide_l (fun y17 y18 => (some (y17, y18))) n N hn hn2 m 128 (by omega)
  have h0 : N / 2 ^ 128 % n = 0 := by rw [show N / 2 ^ 128 = 0 from Nat.div_eq_of_lt (by rw [show (2 : Nat) ^ 128 = 340282366920938463463374607431768211456 from by decide]; exact hN), Nat.zero_mod]
  rw [h0, quoBits_top, ← hm] at key
  exact key
theorem neg_div (A n : Nat) (hn : 0 < n) : (-(A : Int)) / (n : Int) = if A % n = 0 then -((A / n : Nat) : Int) else -((A / n : Nat) : Int) - 1 := by
  have e := Nat.div_add_mod A n
  have hl := Nat.mod_lt A hn
  have e2 : (n : Int) * ((A / n : Nat) : Int) + ((A % n : Nat) : Int) = (A : Int) := by rw [← Int.natCast_mul, ← Int.natCast_add, e]
  split
  · rename_i c
    refine ((Int.ediv_emod_unique (r := 0) (by omega)).2 ⟨?_, by omega, by omega⟩).1
    rw [Int.mul_neg]; omega
  · rename_i c
    refine ((Int.ediv_emod_unique (r := (n : Int) - ((A % n : Nat) : Int)) (by omega)).2 ⟨?_, by omega, by omega⟩).1
    rw [Int.mul_sub, Int.mul_neg, Int.mul_one]; omega
theorem some_eta (r : Int × Bool) : some (r.1, r.2) = some r := rfl
theorem ba_app (a b : List UInt8) : ((⟨a.toArray⟩ : ByteArray) ++ ⟨b.toArray⟩) = ⟨(a ++ b).toArray⟩ := by
  apply ByteArray.ext; rw [ByteArray.data_append]; simp
theorem ba_size (a : List UInt8) : (⟨a.toArray⟩ : ByteArray).size = a.length := by show a.toArray.size = _; simp
theorem ba_fit {a b : Nat} (h : a + b ≤ 140737488355328) : decide (((a + b : Nat) : Int) ≤ IntKind.max .i64) = true := by
  have : IntKind.max .i64 = 9223372036854775807 := by decide
  rw [this]
  exact decide_eq_true (by omega)
theorem dec_rec (u : Nat) : Lib.decDigits u = if u < 10 then [UInt8.ofNat (48 + u)] else Lib.decDigits (u / 10) ++ [UInt8.ofNat (48 + u % 10)] := by
  rw [Lib.decDigits]
  by_cases h : u < 10
  · rw [dif_pos h, if_pos h]
  · rw [dif_neg h, if_neg h]
theorem dec_len : ∀ (d u : Nat), u < 10 ^ (d + 1) → (Lib.decDigits u).length ≤ d + 1
  | 0, u, h => by rw [dec_rec, if_pos (by simpa using h)]; simp
  | d + 1, u, h => by
    rw [dec_rec]
    split
    · simp
    · have := dec_len d (u / 10) (by rw [Nat.div_lt_iff_lt_mul (by omega)]; rw [Nat.pow_succ] at h; omega)
      simp only [List.length_append, List.length_cons, List.length_nil]
      omega
theorem itoa_len (n : Int) (h : inI n) : (Lib.itoa n).length ≤ 20 := by
  unfold inI at h
  unfold Lib.itoa
  split
  · have := dec_len 18 n.natAbs (by omega)
    simp only [List.length_cons]
    omega
  · have := dec_len 18 n.toNat (by omega)
    omega
def numsOf (l : List UInt8) : List Int := l.map fun b => ((b.toNat : Nat) : Int)
theorem numsOf_str (l : List UInt8) : strOfNums (numsOf l) = ⟨l.toArray⟩ := by
  apply ByteArray.ext
  have : (strOfNums (numsOf l)).data.toList = l := by
    rw [strOfNums_data]
    unfold numsOf
    rw [List.map_map]
    refine (List.map_congr_left fun b _ => ?_).trans (List.map_id l)
    show UInt8.ofNat (Int.toNat ((b.toNat : Nat) : Int)) = b
    rw [Int.toNat_natCast]
    exact UInt8.ofNat_toNat
  rw [← Array.toList_inj, this]
theorem low_zero : ∀ (d M : Nat), M < 2 ^ d → (∀ k, k < d → M / 2 ^ k % 2 = 0) → M = 0
  | 0, M, h, _ => by simpa using h
  | d + 1, M, h, hk => by
    have h0 := hk 0 (by omega)
    have := low_zero d (M / 2) (by rw [Nat.pow_succ] at h; omega) (fun k hk2 => by
      have := hk (k + 1) (by omega)
      rw [Nat.pow_succ, Nat.mul_comm, ← Nat.div_div_eq_div_mul] at this
      exact this)
    simp at h0
    omega
theorem more_l (e : Bool → Int → Int → List Int → List Int → Option ByteArray) (c1 c2 : Int) (out : List Int) (M : Nat) (hM : M < 2 ^ 128) (m : Nat) : ∀ (d k : Nat) (b : Bool), k + d = 128 → (b = false → ∀ j, j < k → M / 2 ^ j % 2 = 0) → (b = true → M ≠ 0) →
    S.WideText_l1 (d + 1 + m) e b (k : Int) c1 c2 (lowBits M 128) out = e (decide (M ≠ 0)) c1 c2 (lowBits M 128) out := by
  intro d
  induction d with
  | zero =>
    intro k b hk hb ht
    rw [show 0 + 1 + m = m + 1 from by omega, S.WideText_l1, cdn (by omega)]
    cases b with
    | true => rw [decide_eq_true (ht rfl)]
    | false =>
      have := low_zero 128 M hM (fun j hj => hb rfl j (by omega))
      rw [decide_eq_false (by omega)]
  | succ d ih =>
    intro k b hk hb ht
    have hw : IntKind.wrap .i64 ((k : Int) + 1) = ((k + 1 : Nat) : Int) := by rw [w64 (by omega) (by omega)]; rfl
    rw [show d + 1 + 1 + m = (d + 1 + m) + 1 from by omega, S.WideText_l1, cdp (by omega), hw]
    cases b with
    | true =>
      rw [cond_true]
      exact ih (k + 1) true (by omega) (fun h => by cases h) ht
    | false =>
      rw [cond_false, cdp (by rw [lowBits_length]; omega), lowBits_nth M 128 k (by omega)]
      by_cases h1 : M / 2 ^ k % 2 = 1
      · have e1 : ((((M / 2 ^ k % 2 : Nat) : Int)) == 1) = true := by rw [h1]; rfl
        rw [e1]
        exact ih (k + 1) true (by omega) (fun h => by cases h) (fun _ h0 => by rw [h0] at h1; simp at h1)
      · have h0 : M / 2 ^ k % 2 = 0 := by omega
        have e1 : ((((M / 2 ^ k % 2 : Nat) : Int)) == 1) = false := by rw [h0]; rfl
        rw [e1]
        refine ih (k + 1) false (by omega) (fun _ j hj => ?_) (fun h => by cases h)
        rcases Nat.lt_or_ge j k with h | h
        · exact hb rfl j h
        · obtain rfl : j = k := by omega
          exact h0
theorem digit_eq (N : Nat) : IntKind.wrap .u8 (IntKind.wrap .i64 (48 + ((N % 10 : Nat) : Int))) = ((UInt8.ofNat (48 + N % 10)).toNat : Int) := by
  rw [w64 (by omega) (by omega), u8_mod]
  have : (UInt8.ofNat (48 + N % 10)).toNat = 48 + N % 10 := by
    rw [UInt8.toNat_ofNat']
    omega
  rw [this]
  omega
theorem wtext_l (e : Int → Int → List Int → Option ByteArray) (c1 c2 : Int) (m : Nat) : ∀ (d N : Nat) (out : List Int), N < 10 ^ (d + 1) → N < 2 ^ 128 → out.length + d ≤ 100 →
    S.WideText_l0 (d + 2 + m) e true c1 c2 (lowBits N 128) out = e c1 c2 (numsOf (Lib.decDigits N) ++ out) := by
  intro d
  induction d with
  | zero =>
    intro N out h h2 ho
    have h10 : N < 10 := by simpa using h
    obtain ⟨W, hW⟩ := fu_ge 128 (by omega)
    have hl := more_l (fun y25 y26 y27 y28 y29 => (S.WideText_l0 (m + 1) e y25 y26 y27 y28 y29)) c1 c2 ([((UInt8.ofNat (48 + N % 10)).toNat : Int)] ++ out) (N / 10) (by omega) W 128 0 false (by omega) (fun _ j hj => by omega) (fun h => by cases h)
    rw [show 0 + 2 + m = (m + 1) + 1 from by omega, S.WideText_l0, cond_true, show S.l02Divide 10 (lowBits N 128) = some (((N % 10 : Nat) : Int), lowBits (N / 10) 128) from sDivide_eq 10 N (by omega) (by omega) (by omega), Option.bind_some]
    simp only [digit_eq]
    rw [cdp (by simp only [List.length_cons, List.length_nil]; omega), hW]
    refine hl.trans ?_
    have h0 : N / 10 = 0 := by omega
    have hm : N % 10 = N := by omega
    simp only [h0, ne_eq, not_true, decide_false]
    rw [S.WideText_l0, cond_false, dec_rec, if_pos h10, hm]
    rfl
  | succ d ih =>
    intro N out h h2 ho
    obtain ⟨W, hW⟩ := fu_ge 128 (by omega)
    have hl := more_l (fun y25 y26 y27 y28 y29 => (S.WideText_l0 (d + 2 + m) e y25 y26 y27 y28 y29)) c1 c2 ([((UInt8.ofNat (48 + N % 10)).toNat : Int)] ++ out) (N / 10) (by omega) W 128 0 false (by omega) (fun _ j hj => by omega) (fun h => by cases h)
    rw [show d + 1 + 2 + m = (d + 2 + m) + 1 from by omega, S.WideText_l0, cond_true, show S.l02Divide 10 (lowBits N 128) = some (((N % 10 : Nat) : Int), lowBits (N / 10) 128) from sDivide_eq 10 N (by omega) (by omega) (by omega), Option.bind_some]
    simp only [digit_eq]
    rw [cdp (by simp only [List.length_cons, List.length_nil]; omega), hW]
    refine hl.trans ?_
    by_cases h0 : N / 10 = 0
    · have hm : N % 10 = N := by omega
      simp only [h0, ne_eq, not_true, decide_false]
      rw [show d + 2 + m = (d + 1 + m) + 1 from by omega, S.WideText_l0, cond_false, dec_rec, if_pos (by omega), hm]
      rfl
    · simp only [ne_eq, h0, not_false_iff, decide_true]
      rw [ih (N / 10) _ (by rw [Nat.div_lt_iff_lt_mul (by omega)]; rw [Nat.pow_succ] at h; omega) (by omega) (by simp only [List.length_append, List.length_cons, List.length_nil]; omega), dec_rec N, if_neg (by omega)]
      simp [numsOf]
theorem wd_fst {n : Int} (h : inI n) : (wd n).1 = if n < 0 then -1 else 0 := by
  unfold inI at h
  unfold wd
  rw [IntKind.wrap_i64]
  split <;> omega
theorem sNum_eq (n : Int) (h : inI n) : S.l03Num n = some ⟨(Lib.itoa n).toArray⟩ := by
  have hn := h
  unfold inI at hn
  unfold S.l03Num
  rw [sWideOf_eq n h, Option.bind_some]
  unfold S.WideText
  obtain ⟨W, hW⟩ := fu_ge 40 (by omega)
  by_cases h0 : n < 0
  · have hW2 : inW n := by unfold inW; omega
    have hb := sBits_eq (n + 340282366920938463463374607431768211456).toNat (by omega)
    have hwd : wd (((n + 340282366920938463463374607431768211456).toNat : Nat) : Int) = wd n := by
      rw [Int.toNat_of_nonneg (by omega)]
      unfold wd
      congr 1
      · rw [IntKind.wrap_i64, IntKind.wrap_i64]; omega
      · omega
    rw [hwd] at hb
    have hneg : (-n) = ((n.natAbs : Nat) : Int) := by omega
    rw [hb, Option.bind_some, cdp (by rw [wd_fst h, if_pos h0]; omega), sWideNeg_eq, Option.bind_some, hneg, sBits_eq n.natAbs (by omega), Option.bind_some, hW]
    have := wtext_l (fun y30 y31 y32 =>
      (bif (decide (y30 < 0)) then
      (bif decide (([45].length + y32.length) * 1 ≤ 140737488355328) then
      (some (strOfNums ([45] ++ y32)))
      else
      none)
      else
      (some (strOfNums y32)))) (wd n).1 (wd n).2 W 39 n.natAbs [] (by omega) (by omega) (by simp)
    rw [show 40 + 1 + W = 39 + 2 + W from by omega, this]
    have hl := dec_len 39 n.natAbs (by omega)
    have hln : (numsOf (Lib.decDigits n.natAbs)).length = (Lib.decDigits n.natAbs).length := by simp [numsOf]
    rw [List.append_nil, cdp (by rw [wd_fst h, if_pos h0]; omega), cdp (by simp only [List.length_cons, List.length_nil]; omega), Option.bind_some]
    unfold Lib.itoa
    rw [if_pos h0]
    exact congrArg some (numsOf_str (45 :: Lib.decDigits n.natAbs))
  · have hb := sBits_eq n.toNat (by omega)
    rw [Int.toNat_of_nonneg (by omega)] at hb
    rw [hb, Option.bind_some, cdn (by rw [wd_fst h, if_neg h0]; omega), hW]
    have := wtext_l (fun y36 y37 y38 =>
      (bif (decide (y36 < 0)) then
      (bif decide (([45].length + y38.length) * 1 ≤ 140737488355328) then
      (some (strOfNums ([45] ++ y38)))
      else
      none)
      else
      (some (strOfNums y38)))) (wd n).1 (wd n).2 W 39 n.toNat [] (by omega) (by omega) (by simp)
    rw [show 40 + 1 + W = 39 + 2 + W from by omega, this, List.append_nil, cdn (by rw [wd_fst h, if_neg h0]; omega), Option.bind_some]
    unfold Lib.itoa
    rw [if_neg h0]
    exact congrArg some (numsOf_str (Lib.decDigits n.toNat))
def numsB (sep : List UInt8) (xs : List Int) : List UInt8 := Lib.join (xs.map Lib.itoa) sep
theorem joinTail_len (sep : List UInt8) (c : Nat) : ∀ r : List (List UInt8), (∀ x ∈ r, x.length ≤ c) → (Lib.joinTail sep r).length ≤ r.length * (sep.length + c)
  | [], _ => by simp [Lib.joinTail]
  | x :: r, h => by
    have h1 := joinTail_len sep c r fun y hy => h y (List.mem_cons_of_mem _ hy)
    have h2 := h x (List.mem_cons_self ..)
    unfold Lib.joinTail at h1 ⊢
    simp only [List.map_cons, List.flatten_cons, List.length_append, List.length_cons, Nat.add_mul, Nat.one_mul] at h1 ⊢
    omega
theorem numsB_len (sep : List UInt8) (xs : List Int) (hx : ∀ x ∈ xs, inI x) : (numsB sep xs).length ≤ xs.length * (sep.length + 20) := by
  unfold numsB
  match xs, hx with
  | [], _ => simp [Lib.join_nil]
  | x :: xs, hx =>
    rw [List.map_cons, Lib.join_cons]
    have h1 := itoa_len x (hx x (List.mem_cons_self ..))
    have h2 := joinTail_len sep 20 (xs.map Lib.itoa) fun y hy => by
      obtain ⟨z, hz, rfl⟩ := List.mem_map.1 hy
      exact itoa_len z (hx z (List.mem_cons_of_mem _ hz))
    rw [List.length_map] at h2
    simp only [List.length_append, List.length_cons, Nat.add_mul, Nat.one_mul] at h2 ⊢
    omega
theorem numsB_snoc (sep : List UInt8) (x : Int) (xs : List Int) (y : Int) : numsB sep ((x :: xs) ++ [y]) = numsB sep (x :: xs) ++ sep ++ Lib.itoa y := by
  unfold numsB
  rw [List.map_append, List.map_cons, List.cons_append, Lib.join_cons, Lib.join_cons]
  simp [Lib.joinTail]
theorem sJoin_eq (sep : List UInt8) (hs : sep.length ≤ 1000) (xs : List Int) (hn : xs.length ≤ 1048576) (hx : ∀ x ∈ xs, inI x) : S.l14Join ⟨sep.toArray⟩ xs = some ⟨(numsB sep xs).toArray⟩ := by
  unfold S.l14Join
  obtain ⟨W, hW⟩ := fu_ge xs.length (by omega)
  have key : ∀ (d k : Nat), k + d = xs.length → S.l14Join_l0 (d + 1 + W) (fun y15 => some y15) ⟨sep.toArray⟩ ⟨(numsB sep (xs.take k)).toArray⟩ (k : Int) xs = some ⟨(numsB sep xs).toArray⟩ := by
    intro d
    induction d with
    | zero =>
      intro k hk
      rw [show 0 + 1 + W = W + 1 from by omega, S.l14Join_l0, cdn (by omega), List.take_of_length_le (by omega)]
    | succ d ih =>
      intro k hk
      have hk2 : k < xs.length := by omega
      have hlen : (numsB sep (xs.take k)).length ≤ 1048576 * 1020 := by
        have h1 := numsB_len sep (xs.take k) fun x hx' => hx x (List.mem_of_mem_take hx')
        have h2 : (xs.take k).length * (sep.length + 20) ≤ 1048576 * 1020 := Nat.mul_le_mul (by rw [List.length_take]; omega) (by omega)
        omega
      have hy := hx _ (nthI_mem xs k 0 hk2)
      have hyl := itoa_len _ hy
      have htk : xs.take (k + 1) = xs.take k ++ [nthI xs (k : Int) 0] := by
        rw [List.take_add_one, nthI_nat, List.getD_eq_getElem?_getD, List.getElem?_eq_getElem hk2]; rfl
      have hw : IntKind.wrap .i64 ((k : Int) + 1) = ((k + 1 : Nat) : Int) := by rw [w64 (by omega) (by omega)]; rfl
      have hdec : decide ((0 : Int) ≤ (k : Int) ∧ (k : Int) < (xs.length : Int)) = true := decide_eq_true (by omega)
      rw [show d + 1 + 1 + W = (d + 1 + W) + 1 from by omega, S.l14Join_l0, cdp (by omega), ← ih (k + 1) (by omega), htk]
      rcases Nat.eq_zero_or_pos k with h0 | h0
      · subst h0
        rw [cdn (by omega)]
        simp only [hdec, cond_true, sNum_eq _ hy, Option.bind_some, ba_size, hw, ba_app]
        rw [ba_fit (by omega), cond_true]
        simp [numsB, Lib.join_nil, Lib.join_one]
      · rw [cdp (by omega)]
        match hxs : xs.take k, (by rw [List.length_take]; omega : 0 < (xs.take k).length) with
        | z :: zs, _ =>
          rw [hxs] at hlen
          simp only [hdec, cond_true, sNum_eq _ hy, Option.bind_some, ba_size, hw, ba_app, List.length_append]
          rw [ba_fit (by omega), cond_true, ba_fit (by omega), cond_true, numsB_snoc]
  rw [hW]
  have := key xs.length 0 (by omega)
  exact this
theorem xItoa_eq (n : Int) (h : inI n) : X.itoa n = some ⟨(Lib.itoa n).toArray⟩ := by
  unfold inI at h
  unfold X.itoa
  rw [cdp (by omega)]
theorem iNums_eq (sep : List UInt8) (hs : sep.length ≤ 1000) (xs : List Int) (hn : xs.length ≤ 1048576) (hx : ∀ x ∈ xs, inI x) : I.numbersText ⟨sep.toArray⟩ xs = some ⟨(numsB sep xs).toArray⟩ := by
  unfold I.numbersText
  obtain ⟨W, hW⟩ := fu_ge xs.length (by omega)
  have key : ∀ (d k : Nat), k + d = xs.length → I.numbersText_l0 (d + 1 + W) (fun y13 y14 => (Option.bind (X.join y13 y14) fun r15 => (some r15))) ⟨sep.toArray⟩ (xs.length : Int) (k : Int) ((xs.take k).map fun x => (⟨(Lib.itoa x).toArray⟩ : ByteArray)) xs = some ⟨(numsB sep xs).toArray⟩ := by
    intro d
    induction d with
    | zero =>
      intro k hk
      have hl := numsB_len sep xs hx
      have h2 : xs.length * (sep.length + 20) ≤ 1048576 * 1020 := Nat.mul_le_mul (by omega) (by omega)
      have e : ((xs.map fun x => (⟨(Lib.itoa x).toArray⟩ : ByteArray)).map fun b => b.data.toList) = xs.map Lib.itoa := by
        rw [List.map_map]; exact List.map_congr_left fun x _ => by simp
      have e2 : Lib.join (xs.map Lib.itoa) ((⟨sep.toArray⟩ : ByteArray).data.toList) = numsB sep xs := by simp [numsB]
      rw [show 0 + 1 + W = W + 1 from by omega, I.numbersText_l0, cdn (by omega), List.take_of_length_le (by omega)]
      unfold X.join
      rw [e, e2, cdp (by rw [List.length_map]; omega), Option.bind_some]
    | succ d ih =>
      intro k hk
      have hk2 : k < xs.length := by omega
      have hy := hx _ (nthI_mem xs k 0 hk2)
      have htk : xs.take (k + 1) = xs.take k ++ [nthI xs (k : Int) 0] := by
        rw [List.take_add_one, nthI_nat, List.getD_eq_getElem?_getD, List.getElem?_eq_getElem hk2]; rfl
      have hw : IntKind.wrap .i64 ((k : Int) + 1) = ((k + 1 : Nat) : Int) := by rw [w64 (by omega) (by omega)]; rfl
      have hdec : decide ((0 : Int) ≤ (k : Int) ∧ (k : Int) < (xs.length : Int)) = true := decide_eq_true (by omega)
      rw [show d + 1 + 1 + W = (d + 1 + W) + 1 from by omega, I.numbersText_l0, cdp (by omega), ← ih (k + 1) (by omega), htk]
      simp only [hdec, cond_true, xItoa_eq _ hy, Option.bind_some, hw]
      rw [cdp (by simp only [List.length_map, List.length_take, List.length_cons, List.length_nil]; omega)]
      simp
  rw [hW]
  exact key xs.length 0 (by omega)
theorem inI_wf {x : Int} (h : (Lit.int .i64 x).wf = true) : inI x := i64_wf h
def opsL (a b c d e f g h i j k : Int) : List Int :=
  if a = 1 then [b, c, d, e] else if a = 2 then [f, g, h, i] else if a = 3 then [f, g, h] else if a = 5 then [j] else if a = 6 then [j] else [j, k]
theorem sFields_eq (a b c d e f g h i j k : Int) : S.l14Fields a b c d e f g h i j k = some (opsL a b c d e f g h i j k) := by
  unfold S.l14Fields opsL
  by_cases h1 : a = 1
  · rw [cep h1, if_pos h1]
  rw [cen h1, if_neg h1]
  by_cases h2 : a = 2
  · rw [cep h2, if_pos h2]
  rw [cen h2, if_neg h2]
  by_cases h3 : a = 3
  · rw [cep h3, if_pos h3]
  rw [cen h3, if_neg h3]
  by_cases h5 : a = 5
  · rw [cep h5, if_pos h5]
  rw [cen h5, if_neg h5]
  by_cases h6 : a = 6
  · rw [cep h6, if_pos h6]
  rw [cen h6, if_neg h6]
theorem iFields_eq (a b c d e f g h i j k : Int) : I.Op_operands a b c d e f g h i j k = some (opsL a b c d e f g h i j k) := by
  unfold I.Op_operands opsL
  by_cases h1 : a = 1
  · rw [cep h1, if_pos h1]
  rw [cen h1, if_neg h1]
  by_cases h2 : a = 2
  · rw [cep h2, if_pos h2]
  rw [cen h2, if_neg h2]
  by_cases h3 : a = 3
  · rw [cep h3, if_pos h3]
  rw [cen h3, if_neg h3]
  by_cases h5 : a = 5
  · rw [cep h5, if_pos h5]
  rw [cen h5, if_neg h5]
  by_cases h6 : a = 6
  · rw [cep h6, if_pos h6]
  rw [cen h6, if_neg h6]
noncomputable def words9 : List ByteArray := [lit1, lit2, lit3, lit4, lit5, lit6, lit7, lit8, lit9]
theorem words_size : ∀ k : Fin 9, (nthI words9 ((k.val : Nat) : Int) ByteArray.empty).size ≤ 5 := by decide +kernel
theorem fields9 : X.fields lit11 = some words9 := by
  unfold X.fields
  have h1 : decide ((lit11.size < 4294967281 ∧ ∀ b ∈ lit11.data.toList, b.toNat < 128) ∧ (Lib.fields lit11.data.toList).length ≤ 9223372036854775807) = true := by decide +kernel
  rw [h1, cond_true]
  have h2 : ((Lib.fields lit11.data.toList).map fun l => (⟨l.toArray⟩ : ByteArray)) = words9 := by kernel_rfl
  rw [h2]
theorem opOk_kind {a b c d e f g h i j k : Int} (ho : opOk a b c d e f g h i j k = true) : 1 ≤ a ∧ a ≤ 9 := by
  unfold opOk at ho
  by_cases h1 : 1 ≤ a ∧ a ≤ 9
  · exact h1
  · exfalso
    revert ho
    have e1 : a ≠ 1 := by omega
    have e2 : a ≠ 2 := by omega
    have e3 : a ≠ 3 := by omega
    have e4 : a ≠ 4 := by omega
    have e5 : a ≠ 5 := by omega
    have e6 : a ≠ 6 := by omega
    have e7 : a ≠ 7 := by omega
    have e8 : a ≠ 8 := by omega
    have e9 : a ≠ 9 := by omega
    simp [e1, e2, e3, e4, e5, e6, e7, e8, e9]
theorem cfit {ρ : Type} {a b : Nat} {k : Option ρ} (h : a + b ≤ 140737488355328) : (bif decide (((a + b : Nat) : Int) ≤ IntKind.max .i64) then k else none) = k := by rw [ba_fit h, cond_true]
section
variable (a b c d e f g h i j k : Int) (hx : ∀ x ∈ [a, b, c, d, e, f, g, h, i, j, k], inI x)
include hx
theorem ops_in : ∀ x ∈ opsL a b c d e f g h i j k, inI x := by
  intro x hm
  refine hx x ?_
  unfold opsL at hm
  split at hm
  · simp only [List.mem_cons, List.not_mem_nil, or_false] at hm
    rcases hm with hm | hm | hm | hm <;> (rw [hm]; simp)
  split at hm
  · simp only [List.mem_cons, List.not_mem_nil, or_false] at hm
    rcases hm with hm | hm | hm | hm <;> (rw [hm]; simp)
  split at hm
  · simp only [List.mem_cons, List.not_mem_nil, or_false] at hm
    rcases hm with hm | hm | hm <;> (rw [hm]; simp)
  split at hm
  · simp only [List.mem_cons, List.not_mem_nil, or_false] at hm
    (rw [hm]; simp)
  split at hm
  · simp only [List.mem_cons, List.not_mem_nil, or_false] at hm
    (rw [hm]; simp)
  · simp only [List.mem_cons, List.not_mem_nil, or_false] at hm
    rcases hm with hm | hm <;> (rw [hm]; simp)
omit hx in
theorem ops_len : (opsL a b c d e f g h i j k).length ≤ 4 := by
  unfold opsL
  split
  · simp
  split
  · simp
  split
  · simp
  split
  · simp
  split <;> simp
noncomputable def opT : ByteArray := if opOk a b c d e f g h i j k = true then (nthI words9 (a - 1) ByteArray.empty ++ lit10) ++ ⟨(numsB [32] (opsL a b c d e f g h i j k)).toArray⟩ else lit0
theorem sOpText_eq : S.OpText a b c d e f g h i j k = some (opT a b c d e f g h i j k) := by
  unfold S.OpText opT
  rw [specOpOk_eq, Option.bind_some]
  by_cases ho : opOk a b c d e f g h i j k = true
  · rw [ho, if_pos rfl, Bool.not_true, cond_false]
    have hk := opOk_kind ho
    obtain ⟨n, hn⟩ : ∃ n : Nat, a - 1 = (n : Int) := ⟨(a - 1).toNat, by omega⟩
    have hn9 : n < 9 := by omega
    have hs : (nthI words9 ((n : Nat) : Int) ByteArray.empty).size ≤ 5 := words_size ⟨n, hn9⟩
    have hw : IntKind.wrap .i64 (a - 1) = ((n : Nat) : Int) := by rw [w64 (by omega) (by omega), hn]
    have hin := ops_in a b c d e f g h i j k hx
    have hll := ops_len a b c d e f g h i j k
    have l1 := numsB_len [32] _ hin
    have l2 : (opsL a b c d e f g h i j k).length * ([32].length + 20) ≤ 4 * 21 := Nat.mul_le_mul hll (by simp)
    have j1 : S.l14Join lit10 (opsL a b c d e f g h i j k) = some ⟨(numsB [32] (opsL a b c d e f g h i j k)).toArray⟩ := sJoin_eq [32] (by simp) _ (by omega) hin
    have z : lit10.size = 1 := rfl
    have e1 : (nthI words9 ((n : Nat) : Int) ByteArray.empty ++ lit10).size ≤ 6 := by rw [ByteArray.size_append, z]; omega
    have e2 : (⟨(numsB [32] (opsL a b c d e f g h i j k)).toArray⟩ : ByteArray).size ≤ 84 := by rw [ba_size]; omega
    unfold S.l14Words
    rw [hw, hn]
    change (Option.bind (some words9) _) = _
    rw [Option.bind_some, cdp ⟨by omega, by show (n : Int) < 9; omega⟩, cfit (by rw [z]; omega)]
    change (Option.bind (S.l14Fields a b c d e f g h i j k) _) = _
    rw [sFields_eq, Option.bind_some, j1, Option.bind_some, cfit (Nat.le_trans (Nat.add_le_add e1 e2) (by decide))]
  · have ho' : opOk a b c d e f g h i j k = false := by simpa using ho
    rw [ho', if_neg (by simp), Bool.not_false, cond_true]
end
theorem idx_hit : ∀ (w r : List UInt8), (32 : UInt8) ∉ w → Lib.index (w ++ 32 :: r) [32] = (w.length : Int)
  | [], r, _ => by unfold Lib.index; rfl
  | b :: w, r, h => by
    have hb : ¬ (32 : UInt8) = b := fun e => h (by rw [e]; exact List.mem_cons_self)
    have ih := idx_hit w r fun e => h (List.mem_cons_of_mem _ e)
    show Lib.index (b :: (w ++ 32 :: r)) [32] = _
    unfold Lib.index
    have hp : ([32] : List UInt8).isPrefixOf (b :: (w ++ 32 :: r)) = false := by simp [List.isPrefixOf, hb]
    have hn : ((w.length : Int) == -1) = false := by rw [beq_eq_false_iff_ne]; omega
    rw [hp, ih, hn]
    simp
theorem idx_miss : ∀ (w : List UInt8), (32 : UInt8) ∉ w → Lib.index w [32] = -1
  | [], _ => rfl
  | b :: w, h => by
    have hb : ¬ (32 : UInt8) = b := fun e => h (by rw [e]; exact List.mem_cons_self)
    have ih := idx_miss w fun e => h (List.mem_cons_of_mem _ e)
    unfold Lib.index
    have hp : ([32] : List UInt8).isPrefixOf (b :: w) = false := by simp [List.isPrefixOf, hb]
    rw [hp, ih]
    rfl
theorem ba_list (s : ByteArray) : (⟨s.data.toList.toArray⟩ : ByteArray) = s := rfl
def sepB : ByteArray := ⟨#[32]⟩
def wordB (w : List UInt8) : ByteArray := ⟨w.toArray⟩
theorem extract_l (l : List UInt8) (i j : Nat) : (wordB l).extract i j = wordB ((l.drop i).take (j - i)) := by
  unfold wordB
  apply ByteArray.ext
  rw [ByteArray.data_extract]
  apply Array.toList_inj.1
  simp
theorem split_words : ∀ (ws : List (List UInt8)) (w : List UInt8), (∀ x ∈ w :: ws, (32 : UInt8) ∉ x) → Lib.countB (wordB (w ++ Lib.joinTail [32] ws)) sepB = ws.length ∧ Lib.splitB sepB 0 ws.length (wordB (w ++ Lib.joinTail [32] ws)) = (w :: ws).map wordB
  | [], w, h => by
    have hw := h w List.mem_cons_self
    have e : w ++ Lib.joinTail [32] [] = w := by simp [Lib.joinTail]
    rw [e]
    have hm : Lib.indexB (wordB w) sepB = -1 := idx_miss w hw
    exact ⟨Lib.countB_miss _ _ hm, rfl⟩
  | v :: ws, w, h => by
    have hw := h w List.mem_cons_self
    have ih := split_words ws v fun x hx => h x (List.mem_cons_of_mem _ hx)
    have e : w ++ Lib.joinTail [32] (v :: ws) = w ++ 32 :: (v ++ Lib.joinTail [32] ws) := by simp [Lib.joinTail]
    rw [e]
    have hm : Lib.indexB (wordB (w ++ 32 :: (v ++ Lib.joinTail [32] ws))) sepB = (w.length : Int) := idx_hit w _ hw
    have hs : sepB.size = 1 := rfl
    have hz : (wordB (w ++ 32 :: (v ++ Lib.joinTail [32] ws))).size = w.length + 1 + (v ++ Lib.joinTail [32] ws).length := by
      show (w ++ 32 :: (v ++ Lib.joinTail [32] ws)).toArray.size = _
      simp; omega
    have ht : (wordB (w ++ 32 :: (v ++ Lib.joinTail [32] ws))).extract (w.length + sepB.size) (wordB (w ++ 32 :: (v ++ Lib.joinTail [32] ws))).size = wordB (v ++ Lib.joinTail [32] ws) := by
      rw [extract_l, hs, hz]
      congr 1
      rw [show w ++ 32 :: (v ++ Lib.joinTail [32] ws) = (w ++ [32]) ++ (v ++ Lib.joinTail [32] ws) by simp, show w.length + 1 = (w ++ [32]).length by simp, List.drop_left, List.take_of_length_le (by simp)]
    refine ⟨?_, ?_⟩
    · rw [Lib.countB_hit _ _ w.length (by rw [hs]; omega) hm, ht, ih.1, List.length_cons]; omega
    · rw [List.length_cons, Lib.splitB_hit _ _ _ _ w.length hm, ht, ih.2, extract_l]
      congr 2
      simp
theorem split_sizes (sep : ByteArray) : ∀ (k : Nat) (s : ByteArray), ∀ x ∈ Lib.splitB sep 0 k s, x.size ≤ s.size
  | 0, s, x, h => by
    have : x ∈ [s] := h
    rw [List.mem_singleton.1 this]; exact Nat.le_refl _
  | k + 1, s, x, h => by
    rcases Lib.indexB_cases s sep with hix | ⟨i, hix, _⟩
    · rw [Lib.splitB_miss _ _ _ _ hix] at h
      rw [List.mem_singleton.1 h]; exact Nat.le_refl _
    · rw [Lib.splitB_hit _ _ _ _ i hix] at h
      rcases List.mem_cons.1 h with rfl | h
      · rw [ByteArray.size_extract]; omega
      · have := split_sizes sep k _ x h
        rw [ByteArray.size_extract] at this; omega
def digs (l : List UInt8) : Prop := ∀ b ∈ l, 48 ≤ b.toNat ∧ b.toNat ≤ 57
theorem dec_step (u : Nat) : Lib.decDigits u = if u < 10 then [UInt8.ofNat (48 + u)] else Lib.decDigits (u / 10) ++ [UInt8.ofNat (48 + u % 10)] := by
  rw [Lib.decDigits]
  by_cases h : u < 10
  · rw [dif_pos h, if_pos h]
  · rw [dif_neg h, if_neg h]
theorem dig_nat {d : Nat} (h : d < 10) : (UInt8.ofNat (48 + d)).toNat = 48 + d := by
  rw [UInt8.toNat_ofNat']; omega
theorem dec_digs : ∀ (n u : Nat), u < n → digs (Lib.decDigits u)
  | 0, u, h => absurd h (Nat.not_lt_zero _)
  | n + 1, u, h => by
    rw [dec_step]
    split
    · rename_i hu
      intro b hb
      rw [List.mem_singleton.1 hb, dig_nat hu]; omega
    · rename_i hu
      intro b hb
      rcases List.mem_append.1 hb with hb | hb
      · exact dec_digs n (u / 10) (by omega) b hb
      · rw [List.mem_singleton.1 hb, dig_nat (by omega)]; omega
theorem dec_ne (u : Nat) : Lib.decDigits u ≠ [] := by
  rw [dec_step]
  split <;> simp
def decV (a : Nat) (l : List UInt8) : Nat := l.foldl (fun a b => a * 10 + (b.toNat - 48)) a
theorem decV_dec : ∀ (n u : Nat), u < n → decV 0 (Lib.decDigits u) = u
  | 0, u, h => absurd h (Nat.not_lt_zero _)
  | n + 1, u, h => by
    rw [dec_step]
    split
    · rename_i hu
      show 0 * 10 + ((UInt8.ofNat (48 + u)).toNat - 48) = u
      rw [dig_nat hu]; omega
    · rename_i hu
      have ih := decV_dec n (u / 10) (by omega)
      unfold decV at ih ⊢
      rw [List.foldl_append, ih]
      show u / 10 * 10 + ((UInt8.ofNat (48 + u % 10)).toNat - 48) = u
      rw [dig_nat (by omega)]; omega
theorem decV_mono (l : List UInt8) : ∀ a, a ≤ decV a l := by
  induction l with
  | nil => intro a; exact Nat.le_refl _
  | cons b l ih =>
    intro a
    have := ih (a * 10 + (b.toNat - 48))
    show a ≤ decV (a * 10 + (b.toNat - 48)) l
    omega
theorem parse_digs : ∀ (l : List UInt8) (a : Nat), digs l → decV a l ≤ 9223372036854775808 → Lib.parseUint10 a l = .ok (decV a l)
  | [], a, _, _ => rfl
  | b :: l, a, hd, hv => by
    have hb := hd b List.mem_cons_self
    have hv' : decV (a * 10 + (b.toNat - 48)) l ≤ 9223372036854775808 := hv
    have hm := decV_mono l (a * 10 + (b.toNat - 48))
    unfold Lib.parseUint10
    rw [if_pos hb, if_neg (by omega), if_neg (by omega)]
    exact parse_digs l _ (fun x hx => hd x (List.mem_cons_of_mem _ hx)) hv'
theorem atoi_itoa (n : Int) (h0 : -9223372036854775808 ≤ n) (h1 : n < 9223372036854775808) : Lib.atoiAll (Lib.itoa n) = .ok n := by
  have key : ∀ u : Nat, u ≤ 9223372036854775808 → Lib.parseMag (Lib.decDigits u) = .ok u := by
    intro u hu
    have hv := decV_dec (u + 1) u (by omega)
    unfold Lib.parseMag
    rw [if_neg (dec_ne u), parse_digs _ 0 (dec_digs (u + 1) u (by omega)) (by omega), hv]
  unfold Lib.itoa
  split
  · rename_i hn
    unfold Lib.atoiAll
    have e : Lib.parseMag (Lib.decDigits n.natAbs) = .ok n.natAbs := key _ (by omega)
    simp only [show (45 : UInt8).toNat = 45 from rfl, or_true, if_true, e]
    rw [if_neg (by simp), if_neg (by omega)]
    congr 1
    omega
  · rename_i hn
    have e : Lib.parseMag (Lib.decDigits n.toNat) = .ok n.toNat := key _ (by omega)
    have hd := dec_digs (n.toNat + 1) n.toNat (by omega)
    have hne := dec_ne n.toNat
    generalize Lib.decDigits n.toNat = l at e hd hne ⊢
    match l, hne with
    | c :: r, _ =>
      have hc := hd c List.mem_cons_self
      unfold Lib.atoiAll
      have h43 : ¬ c.toNat = 43 := by omega
      have h45 : ¬ c.toNat = 45 := by omega
      simp only [h43, h45, or_false, if_false, e]
      rw [if_neg (by omega), if_neg (by simp)]
      congr 1
      omega
theorem itoa_32 (n : Int) : (32 : UInt8) ∉ Lib.itoa n := by
  unfold Lib.itoa
  have key : ∀ u, (32 : UInt8) ∉ Lib.decDigits u := fun u h => by
    have := (dec_digs (u + 1) u (by omega) 32 h).1
    exact absurd this (by decide)
  split
  · intro h
    rcases List.mem_cons.1 h with h | h
    · exact absurd h (by decide)
    · exact key _ h
  · exact key _
theorem byteAt_l (l : List UInt8) (i : Nat) : byteAt (wordB l) (i : Int) = ((l.getD i 0).toNat : Int) := by
  unfold byteAt wordB
  rw [Int.toNat_natCast]
  show ((((⟨l.toArray⟩ : ByteArray).data[i]?).getD 0).toNat : Int) = _
  simp [List.getD_eq_getElem?_getD]
theorem wordB_size (l : List UInt8) : (wordB l).size = l.length := by show l.toArray.size = _; simp
theorem wordB_of (s : ByteArray) : s = wordB s.data.toList := rfl
def cutG (s : ByteArray) : Nat → Nat → List ByteArray
  | 0, a => [s.extract a s.size]
  | d + 1, a => if byteAt s ((s.size - (d + 1) : Nat) : Int) = 32 then s.extract a (s.size - (d + 1)) :: cutG s d (s.size - (d + 1) + 1) else cutG s d a
theorem cutG_len (s : ByteArray) : ∀ d a, 0 < (cutG s d a).length ∧ (cutG s d a).length ≤ d + 1
  | 0, a => by simp [cutG]
  | d + 1, a => by
    unfold cutG
    split
    · have := cutG_len s d (s.size - (d + 1) + 1)
      simp only [List.length_cons]; omega
    · have := cutG_len s d a
      omega
theorem cutG_words : ∀ (ws : List (List UInt8)) (w2 pre w1 : List UInt8), (32 : UInt8) ∉ w2 → (∀ x ∈ ws, (32 : UInt8) ∉ x) → cutG (wordB (pre ++ (w1 ++ (w2 ++ Lib.joinTail [32] ws)))) (w2 ++ Lib.joinTail [32] ws).length pre.length = wordB (w1 ++ w2) :: ws.map wordB := by
  intro ws
  induction ws with
  | nil =>
    intro w2
    induction w2 with
    | nil =>
      intro pre w1 _ _
      have e : Lib.joinTail [32] [] = [] := rfl
      rw [e]
      simp only [List.append_nil, List.length_nil, List.map_nil]
      unfold cutG
      rw [extract_l, wordB_size, List.drop_left, List.take_of_length_le (by simp)]
    | cons b w2 ih =>
      intro pre w1 h1 h2
      have hb : b ≠ 32 := fun e => h1 (by rw [e]; exact List.mem_cons_self)
      have hl : (wordB (pre ++ (w1 ++ (b :: w2 ++ Lib.joinTail [32] [])))).size - ((w2 ++ Lib.joinTail [32] []).length + 1) = pre.length + w1.length := by
        rw [wordB_size]; simp only [List.length_append, List.length_cons]; omega
      have h3 := ih pre (w1 ++ [b]) (fun e => h1 (List.mem_cons_of_mem _ e)) h2
      rw [show (b :: w2 ++ Lib.joinTail [32] []).length = (w2 ++ Lib.joinTail [32] []).length + 1 by simp]
      unfold cutG
      rw [hl, byteAt_l]
      have hg : (pre ++ (w1 ++ (b :: w2 ++ Lib.joinTail [32] []))).getD (pre.length + w1.length) 0 = b := by
        rw [List.getD_eq_getElem?_getD, List.getElem?_append_right (by omega), List.getElem?_append_right (by omega)]
        simp [show pre.length + w1.length - pre.length - w1.length = 0 by omega]
      rw [hg, if_neg (fun e => hb (UInt8.toNat_inj.1 (by rw [show (32 : UInt8).toNat = 32 from rfl]; omega)))]
      rw [show pre ++ (w1 ++ (b :: w2 ++ Lib.joinTail [32] [])) = pre ++ ((w1 ++ [b]) ++ (w2 ++ Lib.joinTail [32] [])) by simp, h3]
      simp
  | cons v ws ihw =>
    intro w2
    induction w2 with
    | nil =>
      intro pre w1 _ h2
      have e : Lib.joinTail [32] (v :: ws) = 32 :: (v ++ Lib.joinTail [32] ws) := by simp [Lib.joinTail]
      rw [e]
      simp only [List.nil_append, List.append_nil, List.length_cons, List.map_cons]
      have hl : (wordB (pre ++ (w1 ++ 32 :: (v ++ Lib.joinTail [32] ws)))).size - ((v ++ Lib.joinTail [32] ws).length + 1) = pre.length + w1.length := by
        rw [wordB_size]; simp only [List.length_append, List.length_cons]; omega
      have h3 := ihw v (pre ++ w1 ++ [32]) [] (h2 v List.mem_cons_self) (fun x hx => h2 x (List.mem_cons_of_mem _ hx))
      unfold cutG
      rw [hl, byteAt_l]
      have hg : (pre ++ (w1 ++ 32 :: (v ++ Lib.joinTail [32] ws))).getD (pre.length + w1.length) 0 = 32 := by
        rw [List.getD_eq_getElem?_getD, List.getElem?_append_right (by omega), List.getElem?_append_right (by omega)]
        simp [show pre.length + w1.length - pre.length - w1.length = 0 by omega]
      rw [hg, if_pos (by rfl), extract_l]
      rw [show pre ++ (w1 ++ 32 :: (v ++ Lib.joinTail [32] ws)) = (pre ++ w1 ++ [32]) ++ ([] ++ (v ++ Lib.joinTail [32] ws)) by simp]
      rw [show pre.length + w1.length + 1 = (pre ++ w1 ++ [32]).length by simp; omega, h3]
      congr 1
      congr 1
      rw [show pre ++ w1 ++ [32] ++ ([] ++ (v ++ Lib.joinTail [32] ws)) = pre ++ (w1 ++ ([32] ++ (v ++ Lib.joinTail [32] ws))) by simp, List.drop_left, show pre.length + w1.length - pre.length = w1.length by omega, List.take_left]
    | cons b w2 ih =>
      intro pre w1 h1 h2
      have hb : b ≠ 32 := fun e => h1 (by rw [e]; exact List.mem_cons_self)
      have hl : (wordB (pre ++ (w1 ++ (b :: w2 ++ Lib.joinTail [32] (v :: ws))))).size - ((w2 ++ Lib.joinTail [32] (v :: ws)).length + 1) = pre.length + w1.length := by
        rw [wordB_size]; simp only [List.length_append, List.length_cons]; omega
      have h3 := ih pre (w1 ++ [b]) (fun e => h1 (List.mem_cons_of_mem _ e)) h2
      rw [show (b :: w2 ++ Lib.joinTail [32] (v :: ws)).length = (w2 ++ Lib.joinTail [32] (v :: ws)).length + 1 by simp]
      unfold cutG
      rw [hl, byteAt_l]
      have hg : (pre ++ (w1 ++ (b :: w2 ++ Lib.joinTail [32] (v :: ws)))).getD (pre.length + w1.length) 0 = b := by
        rw [List.getD_eq_getElem?_getD, List.getElem?_append_right (by omega), List.getElem?_append_right (by omega)]
        simp [show pre.length + w1.length - pre.length - w1.length = 0 by omega]
      rw [hg, if_neg (fun e => hb (UInt8.toNat_inj.1 (by rw [show (32 : UInt8).toNat = 32 from rfl]; omega)))]
      rw [show pre ++ (w1 ++ (b :: w2 ++ Lib.joinTail [32] (v :: ws))) = pre ++ ((w1 ++ [b]) ++ (w2 ++ Lib.joinTail [32] (v :: ws))) by simp, h3]
      simp
theorem sCut_eq (s : ByteArray) (hs : s.size ≤ 1048576) : S.l03Cut s 32 = some (cutG s s.size 0) := by
  unfold S.l03Cut
  obtain ⟨W, hW⟩ := fu_ge s.size (by omega)
  generalize hE : (fun (y15 : ByteArray) (y16 : Int) (y17 : List ByteArray) => (bif decide ((0 : Int) ≤ y16 ∧ y16 ≤ (y15.size : Int) ∧ (y15.size : Int) ≤ (y15.size : Int)) then
    (let v18 : List ByteArray := [(ByteArray.extract y15 (Int.toNat y16) (Int.toNat (y15.size : Int)))]
    (bif decide ((y17.length + v18.length) * 16 ≤ 140737488355328) then
    (some (y17 ++ v18))
    else
    none))
    else
    (none : Option (List ByteArray)))) = E
  have key : ∀ (d a i : Nat) (out : List ByteArray), i + d = s.size → a ≤ i → out.length + d ≤ 1048576 → S.l03Cut_l0 (d + 1 + W) E s 32 (a : Int) (i : Int) out = some (out ++ cutG s d a) := by
    intro d
    induction d with
    | zero =>
      intro a i out hi ha hl
      rw [show 0 + 1 + W = W + 1 from by omega, S.l03Cut_l0, cdn (by omega), ← hE]
      simp only [Int.toNat_natCast, List.length_cons, List.length_nil]
      rw [cdp (by omega), cdp (by omega)]
      rfl
    | succ d ih =>
      intro a i out hi ha hl
      have ei : s.size - (d + 1) = i := by omega
      have hw : IntKind.wrap .i64 ((i : Int) + 1) = ((i + 1 : Nat) : Int) := by rw [w64 (by omega) (by omega)]; rfl
      rw [show d + 1 + 1 + W = (d + 1 + W) + 1 from by omega, S.l03Cut_l0, cdp (by omega), cdp (by omega)]
      unfold cutG
      rw [ei]
      by_cases hb : byteAt s (i : Int) = 32
      · rw [cep hb, if_pos hb, cdp (by omega)]
        simp only [Int.toNat_natCast, List.length_cons, List.length_nil]
        rw [cdp (by omega), hw, ih (i + 1) (i + 1) _ (by omega) (Nat.le_refl _) (by rw [List.length_append]; simp only [List.length_cons, List.length_nil]; omega)]
        simp
      · rw [cen hb, if_neg hb, hw, ih a (i + 1) out (by omega) (by omega) (by omega)]
  rw [hW]
  exact (key s.size 0 0 [] (by omega) (Nat.le_refl _) (by simp; omega)).trans rfl
def valL (n : Int) (l : List UInt8) : Int := l.foldl (fun n b => if 48 ≤ (b.toNat : Int) ∧ (b.toNat : Int) ≤ 57 then IntKind.wrap .i64 (IntKind.wrap .i64 (10 * n) - IntKind.wrap .i64 (IntKind.wrap .u8 ((b.toNat : Int) - 48))) else n) n
def valS (l : List UInt8) : Int := if 0 < l.length ∧ ((l.getD 0 0).toNat : Int) = 45 then valL 0 (l.take 20) else IntKind.wrap .i64 (0 - valL 0 (l.take 20))
theorem sValue_eq (l : List UInt8) (hl : l.length ≤ 1048576) : S.l03Value (wordB l) = some (valS l) := by
  unfold S.l03Value
  obtain ⟨W, hW⟩ := fu_ge (min l.length 20) (by omega)
  generalize hE : (fun (y17 : ByteArray) (y18 : Int) => (bif (decide (0 < (y17.size : Int))) then
    (bif decide ((0 : Int) ≤ 0 ∧ 0 < (y17.size : Int)) then
    (bif ((byteAt y17 0) == 45) then
    (some y18)
    else
    (some (IntKind.wrap .i64 (0 - y18))))
    else
    none)
    else
    (some (IntKind.wrap .i64 (0 - y18))))) = E
  have key : ∀ (d i : Nat) (acc : Int), i + d = min l.length 20 → S.l03Value_l0 (d + 1 + W) E (wordB l) acc (i : Int) = E (wordB l) (valL acc ((l.drop i).take d)) := by
    intro d
    induction d with
    | zero =>
      intro i acc hi
      rw [show 0 + 1 + W = W + 1 from by omega, S.l03Value_l0, wordB_size]
      by_cases h : l.length ≤ 20
      · rw [cdn (by omega)]; rfl
      · by_cases h2 : (i : Int) < (l.length : Int)
        · rw [cdp h2, cdn (by omega)]; rfl
        · rw [cdn h2]; rfl
    | succ d ih =>
      intro i acc hi
      have hil : i < l.length := by omega
      have hw : IntKind.wrap .i64 ((i : Int) + 1) = ((i + 1 : Nat) : Int) := by rw [w64 (by omega) (by omega)]; rfl
      have hdr : (l.drop i).take (d + 1) = l.getD i 0 :: (l.drop (i + 1)).take d := by
        rw [List.getD_eq_getElem?_getD, List.getElem?_eq_getElem hil, List.drop_eq_getElem_cons hil]; rfl
      have hb : byteAt (wordB l) (i : Int) = ((l.getD i 0).toNat : Int) := byteAt_l l i
      rw [show d + 1 + 1 + W = (d + 1 + W) + 1 from by omega, S.l03Value_l0, wordB_size, cdp (by omega), cdp (by omega), hb, hdr]
      generalize l.getD i 0 = b
      have hstep : ∀ c : Int, E (wordB l) (valL c ((l.drop (i + 1)).take d)) = S.l03Value_l0 (d + 1 + W) E (wordB l) c ((i + 1 : Nat) : Int) := fun c => (ih (i + 1) c (by omega)).symm
      show _ = E (wordB l) (valL (if 48 ≤ (b.toNat : Int) ∧ (b.toNat : Int) ≤ 57 then _ else acc) ((l.drop (i + 1)).take d))
      rw [hstep, hw, cdp (by omega)]
      by_cases h1 : 48 ≤ (b.toNat : Int)
      · rw [cdp h1, cdp (by omega)]
        by_cases h2 : (b.toNat : Int) ≤ 57
        · rw [cdp h2, cdp (by omega), if_pos ⟨h1, h2⟩]
        · rw [cdn h2, if_neg (fun h => h2 h.2)]
      · rw [cdn h1, if_neg (fun h => h1 h.1)]
  rw [hW]
  have h := key (min l.length 20) 0 0 (by omega)
  refine (show _ = _ from h).trans ?_
  rw [← hE]
  have ht : (l.drop 0).take (min l.length 20) = l.take 20 := by
    rw [List.drop_zero, List.take_eq_take_iff]; omega
  simp only [ht, wordB_size]
  have h0 : byteAt (wordB l) (0 : Int) = ((l.getD 0 0).toNat : Int) := byteAt_l l 0
  unfold valS
  by_cases hp : 0 < l.length
  · rw [cdp (by omega), cdp (by omega), h0]
    by_cases h45 : ((l.getD 0 0).toNat : Int) = 45
    · rw [cep h45, if_pos ⟨hp, h45⟩]
    · rw [cen h45, if_neg (fun h => h45 h.2)]
  · rw [cdn (by omega), if_neg (fun h => hp h.1)]
theorem valL_digs : ∀ (l : List UInt8) (a : Nat), digs l → decV a l ≤ 9223372036854775808 → valL (-(a : Int)) l = -((decV a l : Nat) : Int)
  | [], a, _, _ => rfl
  | b :: l, a, hd, hv => by
    have hb := hd b List.mem_cons_self
    have hv' : decV (a * 10 + (b.toNat - 48)) l ≤ 9223372036854775808 := hv
    have hm := decV_mono l (a * 10 + (b.toNat - 48))
    have e1 : IntKind.wrap .i64 (10 * -(a : Int)) = -(10 * (a : Int)) := by rw [w64 (by omega) (by omega)]; omega
    have e2 : IntKind.wrap .u8 ((b.toNat : Int) - 48) = ((b.toNat - 48 : Nat) : Int) := by
      unfold IntKind.wrap; simp only [IntKind.bits, IntKind.signed, Bool.false_and, Bool.false_eq_true, if_false]; omega
    have e3 : IntKind.wrap .i64 (((b.toNat - 48 : Nat) : Int)) = ((b.toNat - 48 : Nat) : Int) := w64 (by omega) (by omega)
    show valL (if 48 ≤ (b.toNat : Int) ∧ (b.toNat : Int) ≤ 57 then _ else _) l = _
    rw [if_pos ⟨by omega, by omega⟩, e1, e2, e3, w64 (by omega) (by omega)]
    have h := valL_digs l (a * 10 + (b.toNat - 48)) (fun x hx => hd x (List.mem_cons_of_mem _ hx)) hv'
    rw [show -(10 * (a : Int)) - ((b.toNat - 48 : Nat) : Int) = -((a * 10 + (b.toNat - 48) : Nat) : Int) by omega, h]
    rfl
theorem valS_itoa (n : Int) (h : inI n) : valS (Lib.itoa n) = n := by
  have hl := itoa_len n h
  unfold inI at h
  unfold valS
  rw [List.take_of_length_le hl]
  unfold Lib.itoa
  by_cases hn : n < 0
  · rw [if_pos hn]
    have hv := decV_dec (n.natAbs + 1) n.natAbs (by omega)
    have hd := dec_digs (n.natAbs + 1) n.natAbs (by omega)
    have h2 := valL_digs (Lib.decDigits n.natAbs) 0 hd (by omega)
    rw [hv] at h2
    rw [if_pos ⟨by simp, rfl⟩]
    have h3 : valL 0 (45 :: Lib.decDigits n.natAbs) = valL 0 (Lib.decDigits n.natAbs) := by
      unfold valL
      rw [List.foldl_cons, if_neg (by decide)]
    rw [h3]
    exact h2.trans (by omega)
  · rw [if_neg hn]
    have hv := decV_dec (n.toNat + 1) n.toNat (by omega)
    have hd := dec_digs (n.toNat + 1) n.toNat (by omega)
    have hne := dec_ne n.toNat
    have h2 := valL_digs (Lib.decDigits n.toNat) 0 hd (by omega)
    rw [hv] at h2
    have h3 : valL 0 (Lib.decDigits n.toNat) = -((n.toNat : Nat) : Int) := h2
    rw [h3]
    rw [if_neg]
    · rw [w64 (by omega) (by omega)]; omega
    · rintro ⟨_, h45⟩
      generalize Lib.decDigits n.toNat = l at hd hne h45
      match l, hne with
      | c :: r, _ =>
        have hc := (hd c List.mem_cons_self).1
        have h45' : ((c.toNat : Nat) : Int) = 45 := h45
        omega
abbrev T11 := Int × Int × Int × Int × Int × Int × Int × Int × Int × Int × Int
abbrev T12 := Int × Int × Int × Int × Int × Int × Int × Int × Int × Int × Int × Bool
def Z12 : T12 := (0, 0, 0, 0, 0, 0, 0, 0, 0, 0, 0, false)
def fl (o : T11) : T12 := (o.1, o.2.1, o.2.2.1, o.2.2.2.1, o.2.2.2.2.1, o.2.2.2.2.2.1, o.2.2.2.2.2.2.1, o.2.2.2.2.2.2.2.1, o.2.2.2.2.2.2.2.2.1, o.2.2.2.2.2.2.2.2.2.1, o.2.2.2.2.2.2.2.2.2.2, true)
noncomputable def okB (o : T11) : Bool := opOk o.1 o.2.1 o.2.2.1 o.2.2.2.1 o.2.2.2.2.1 o.2.2.2.2.2.1 o.2.2.2.2.2.2.1 o.2.2.2.2.2.2.2.1 o.2.2.2.2.2.2.2.2.1 o.2.2.2.2.2.2.2.2.2.1 o.2.2.2.2.2.2.2.2.2.2
noncomputable def txt (o : T11) : ByteArray := opT o.1 o.2.1 o.2.2.1 o.2.2.2.1 o.2.2.2.2.1 o.2.2.2.2.2.1 o.2.2.2.2.2.2.1 o.2.2.2.2.2.2.2.1 o.2.2.2.2.2.2.2.2.1 o.2.2.2.2.2.2.2.2.2.1 o.2.2.2.2.2.2.2.2.2.2
def allI (o : T11) : Prop := ∀ x ∈ [o.1, o.2.1, o.2.2.1, o.2.2.2.1, o.2.2.2.2.1, o.2.2.2.2.2.1, o.2.2.2.2.2.2.1, o.2.2.2.2.2.2.2.1, o.2.2.2.2.2.2.2.2.1, o.2.2.2.2.2.2.2.2.2.1, o.2.2.2.2.2.2.2.2.2.2], inI x
def Pr (o : T11) (s : ByteArray) : Prop := okB o = true ∧ txt o = s ∧ allI o
def opsO (o : T11) : List Int := opsL o.1 o.2.1 o.2.2.1 o.2.2.2.1 o.2.2.2.2.1 o.2.2.2.2.2.1 o.2.2.2.2.2.2.1 o.2.2.2.2.2.2.2.1 o.2.2.2.2.2.2.2.2.1 o.2.2.2.2.2.2.2.2.2.1 o.2.2.2.2.2.2.2.2.2.2
def bld (c : Int) (n : List Int) : T11 :=
  if c = 1 then (c, nthI n 0 0, nthI n 1 0, nthI n 2 0, nthI n 3 0, 0, 0, 0, 0, 0, 0)
  else if c = 2 then (c, 0, 0, 0, 0, nthI n 0 0, nthI n 1 0, nthI n 2 0, nthI n 3 0, 0, 0)
  else if c = 3 then (c, 0, 0, 0, 0, nthI n 0 0, nthI n 1 0, nthI n 2 0, nthI n 3 0, 0, 0)
  else if c = 5 then (c, 0, 0, 0, 0, 0, 0, 0, 0, nthI n 0 0, 0)
  else if c = 6 then (c, 0, 0, 0, 0, 0, 0, 0, 0, nthI n 0 0, 0)
  else (c, 0, 0, 0, 0, 0, 0, 0, 0, nthI n 0 0, nthI n 1 0)
theorem tl_eq (a b : ByteArray) : (a.toList == b.toList) = decide (a = b) := by
  rw [Bool.eq_iff_iff, beq_iff_eq, decide_eq_true_iff]
  constructor
  · intro h
    rw [ByteArray.toList_eq, ByteArray.toList_eq] at h
    exact ByteArray.ext (Array.toList_inj.1 h)
  · intro h; rw [h]
def valW (b : ByteArray) : Int := valS b.data.toList
theorem sVal_eq (b : ByteArray) (h : b.size ≤ 1048576) : S.l03Value b = some (valW b) := sValue_eq b.data.toList (by rw [Array.length_toList]; exact h)
theorem sR_l0 (E : ByteArray → Int → Int → Int → Int → Int → Int → Int → Int → Int → Int → Int → List ByteArray → List Int → Option T12) (s : ByteArray) (z1 z2 z3 z4 z5 z6 z7 z8 z9 z10 z11 : Int) (w : List ByteArray) (h1 : 1 ≤ w.length) (hw : w.length ≤ 1048577) (hz : ∀ x ∈ w, x.size ≤ 1048576) :
    S.OpTextRead_l0 fu E s 1 z1 z2 z3 z4 z5 z6 z7 z8 z9 z10 z11 w [] = E s z1 z2 z3 z4 z5 z6 z7 z8 z9 z10 z11 w ((w.drop 1).map valW) := by
  obtain ⟨W, hW⟩ := fu_ge (w.length - 1) (by omega)
  have key : ∀ (d i : Nat) (out : List Int), i + d = w.length → out.length + d ≤ 1048577 → S.OpTextRead_l0 (d + 1 + W) E s (i : Int) z1 z2 z3 z4 z5 z6 z7 z8 z9 z10 z11 w out = E s z1 z2 z3 z4 z5 z6 z7 z8 z9 z10 z11 w (out ++ (w.drop i).map valW) := by
    intro d
    induction d with
    | zero =>
      intro i out hi hl
      rw [show 0 + 1 + W = W + 1 from by omega, S.OpTextRead_l0, cdn (by omega), List.drop_of_length_le (by omega), List.map_nil, List.append_nil]
    | succ d ih =>
      intro i out hi hl
      have hil : i < w.length := by omega
      have hv : S.l03Value (nthI w (i : Int) ByteArray.empty) = some (valW w[i]) := by
        rw [nthI_nat, List.getD_eq_getElem?_getD, List.getElem?_eq_getElem hil]
        exact sVal_eq _ (hz _ (List.getElem_mem hil))
      have hwr : IntKind.wrap .i64 ((i : Int) + 1) = ((i + 1 : Nat) : Int) := by rw [w64 (by omega) (by omega)]; rfl
      rw [show d + 1 + 1 + W = (d + 1 + W) + 1 from by omega, S.OpTextRead_l0, cdp (by omega), cdp (by omega), hv, Option.bind_some, cdp (by simp only [List.length_cons, List.length_nil]; omega), hwr,
        ih (i + 1) _ (by omega) (by rw [List.length_append]; simp only [List.length_cons, List.length_nil]; omega), List.drop_eq_getElem_cons hil, List.map_cons, List.append_assoc]
      rfl
  rw [hW]
  exact key (w.length - 1) 1 [] (by omega) (by simp; omega)
def padN (n : List Int) : List Int := n ++ List.replicate (4 - n.length) 0
theorem sR_l1 (E : ByteArray → Int → Int → Int → Int → Int → Int → Int → Int → Int → Int → Int → List ByteArray → List Int → Option T12) (s : ByteArray) (z1 z2 z3 z4 z5 z6 z7 z8 z9 z10 z11 : Int) (w : List ByteArray) (n : List Int) :
    S.OpTextRead_l1 fu E s z1 z2 z3 z4 z5 z6 z7 z8 z9 z10 z11 w n = E s z1 z2 z3 z4 z5 z6 z7 z8 z9 z10 z11 w (padN n) := by
  obtain ⟨W, hW⟩ := fu_ge 4 (by omega)
  have key : ∀ (d : Nat) (out : List Int), 4 - out.length = d → S.OpTextRead_l1 (d + 1 + W) E s z1 z2 z3 z4 z5 z6 z7 z8 z9 z10 z11 w out = E s z1 z2 z3 z4 z5 z6 z7 z8 z9 z10 z11 w (out ++ List.replicate d 0) := by
    intro d
    induction d with
    | zero =>
      intro out hl
      rw [show 0 + 1 + W = W + 1 from by omega, S.OpTextRead_l1, cdn (by omega), List.replicate_zero, List.append_nil]
    | succ d ih =>
      intro out hl
      rw [show d + 1 + 1 + W = (d + 1 + W) + 1 from by omega, S.OpTextRead_l1, cdp (by omega), cdp (by simp only [List.length_cons, List.length_nil]; omega), ih _ (by rw [List.length_append]; simp only [List.length_cons, List.length_nil]; omega)]
      rw [List.replicate_succ]; simp
  have := key (4 - n.length) n rfl
  rw [hW, show 4 + 1 + W = (4 - n.length) + 1 + (4 - (4 - n.length) + W) by omega]
  clear this key
  have key : ∀ (W d : Nat) (out : List Int), 4 - out.length = d → S.OpTextRead_l1 (d + 1 + W) E s z1 z2 z3 z4 z5 z6 z7 z8 z9 z10 z11 w out = E s z1 z2 z3 z4 z5 z6 z7 z8 z9 z10 z11 w (out ++ List.replicate d 0) := by
    intro W d
    induction d with
    | zero =>
      intro out hl
      rw [show 0 + 1 + W = W + 1 from by omega, S.OpTextRead_l1, cdn (by omega), List.replicate_zero, List.append_nil]
    | succ d ih =>
      intro out hl
      rw [show d + 1 + 1 + W = (d + 1 + W) + 1 from by omega, S.OpTextRead_l1, cdp (by omega), cdp (by simp only [List.length_cons, List.length_nil]; omega), ih _ (by rw [List.length_append]; simp only [List.length_cons, List.length_nil]; omega)]
      rw [List.replicate_succ]; simp
  exact key _ _ n rfl
noncomputable def kfold (x : ByteArray) : Nat → Int → Int
  | 0, c => c
  | d + 1, c => kfold x d (if x = words9.getD (9 - (d + 1)) ByteArray.empty then ((9 - (d + 1) : Nat) : Int) + 1 else c)
theorem kfold_in (x : ByteArray) : ∀ (d : Nat) (c : Int), d ≤ 9 → 0 ≤ c → c ≤ 9 → 0 ≤ kfold x d c ∧ kfold x d c ≤ 9
  | 0, c, _, h0, h1 => ⟨h0, h1⟩
  | d + 1, c, hd, h0, h1 => by
    unfold kfold
    split
    · exact kfold_in x d _ (by omega) (by omega) (by omega)
    · exact kfold_in x d _ (by omega) h0 h1
theorem sR_l2 (E : ByteArray → Int → Int → Int → Int → Int → Int → Int → Int → Int → Int → Int → Int → Int → Int → Int → Int → Int → Int → Int → Int → Int → Int → List Int → Option T12) (s : ByteArray) (z1 z2 z3 z4 z5 z6 z7 z8 z9 z10 z11 c0 y1 y2 y3 y4 y5 y6 y7 y8 y9 y10 : Int) (w : List ByteArray) (n : List Int) (h1 : 1 ≤ w.length) :
    S.OpTextRead_l2 fu E s 0 z1 z2 z3 z4 z5 z6 z7 z8 z9 z10 z11 c0 y1 y2 y3 y4 y5 y6 y7 y8 y9 y10 w n = E s z1 z2 z3 z4 z5 z6 z7 z8 z9 z10 z11 (kfold (w.getD 0 ByteArray.empty) 9 c0) y1 y2 y3 y4 y5 y6 y7 y8 y9 y10 n := by
  obtain ⟨W, hW⟩ := fu_ge 9 (by omega)
  have hwords : S.l14Words = some words9 := rfl
  have hlen : words9.length = 9 := rfl
  have key : ∀ (d : Nat) (c : Int), d ≤ 9 → S.OpTextRead_l2 (d + 1 + W) E s ((9 - d : Nat) : Int) z1 z2 z3 z4 z5 z6 z7 z8 z9 z10 z11 c y1 y2 y3 y4 y5 y6 y7 y8 y9 y10 w n = E s z1 z2 z3 z4 z5 z6 z7 z8 z9 z10 z11 (kfold (w.getD 0 ByteArray.empty) d c) y1 y2 y3 y4 y5 y6 y7 y8 y9 y10 n := by
    intro d
    induction d with
    | zero =>
      intro c _
      rw [show 0 + 1 + W = W + 1 from by omega, S.OpTextRead_l2, cdn (by omega)]
      rfl
    | succ d ih =>
      intro c hd
      have hwr : IntKind.wrap .i64 (((9 - (d + 1) : Nat) : Int) + 1) = ((9 - d : Nat) : Int) := by rw [w64 (by omega) (by omega)]; omega
      have e0 : nthI w 0 ByteArray.empty = w.getD 0 ByteArray.empty := rfl
      rw [show d + 1 + 1 + W = (d + 1 + W) + 1 from by omega, S.OpTextRead_l2, cdp (by omega), cdp (by omega), hwords, Option.bind_some, cdp (by rw [hlen]; omega), e0, nthI_nat, hwr]
      simp only [tl_eq]
      unfold kfold
      by_cases hx : w.getD 0 ByteArray.empty = words9.getD (9 - (d + 1)) ByteArray.empty
      · rw [cdp hx, if_pos hx, ih _ (by omega), show ((9 - (d + 1) : Nat) : Int) + 1 = ((9 - d : Nat) : Int) by omega]
      · rw [cdn hx, if_neg hx, ih _ (by omega)]
  rw [hW]
  exact key 9 c0 (Nat.le_refl _)
theorem opT_ne (a b c d e f g h i j k : Int) (ho : opOk a b c d e f g h i j k = true) : opT a b c d e f g h i j k ≠ lit0 := by
  intro hh
  have h2 : (opT a b c d e f g h i j k).size = 0 := by rw [hh]; rfl
  unfold opT at h2
  rw [if_pos ho, ByteArray.size_append, ByteArray.size_append] at h2
  have h3 : lit10.size = 1 := rfl
  omega
theorem fin_eq (a b c d e f g h i j k : Int) (s : ByteArray) : (bif ((opT a b c d e f g h i j k).toList == lit0.toList) then (some (0, 0, 0, 0, 0, 0, 0, 0, 0, 0, 0, false) : Option T12) else
    (bif (!((opT a b c d e f g h i j k).toList == s.toList)) then (some (0, 0, 0, 0, 0, 0, 0, 0, 0, 0, 0, false)) else (some (a, b, c, d, e, f, g, h, i, j, k, true)))) = some (if opOk a b c d e f g h i j k = true ∧ opT a b c d e f g h i j k = s then (a, b, c, d, e, f, g, h, i, j, k, true) else Z12) := by
  simp only [tl_eq]
  by_cases ho : opOk a b c d e f g h i j k = true
  · rw [cdn (opT_ne a b c d e f g h i j k ho)]
    by_cases hs : opT a b c d e f g h i j k = s
    · rw [if_pos ⟨ho, hs⟩, decide_eq_true hs]; rfl
    · rw [if_neg (fun h => hs h.2), decide_eq_false hs]; rfl
  · rw [if_neg (fun h => ho h.1)]
    have h0 : opT a b c d e f g h i j k = lit0 := by unfold opT; rw [if_neg ho]
    rw [cdp h0]; rfl
theorem wrap_in (x : Int) : inI (IntKind.wrap .i64 x) := by
  unfold inI IntKind.wrap
  simp only [IntKind.bits, IntKind.signed, Bool.true_and]
  split
  · rename_i h; have := of_decide_eq_true h; omega
  · rename_i h
    have h' : ¬ (x % 2 ^ 64 ≥ 2 ^ (64 - 1)) := fun e => h (decide_eq_true e)
    omega
theorem valL_in : ∀ (l : List UInt8) (n : Int), inI n → inI (valL n l)
  | [], n, h => h
  | b :: l, n, h => by
    unfold valL
    rw [List.foldl_cons]
    split
    · exact valL_in l _ (wrap_in _)
    · exact valL_in l _ h
theorem valS_in (l : List UInt8) : inI (valS l) := by
  unfold valS
  split
  · exact valL_in _ 0 (by unfold inI; omega)
  · exact wrap_in _
theorem nth_in (n : List Int) (hn : ∀ x ∈ n, inI x) (j : Nat) : inI (nthI n (j : Int) 0) := by
  rw [nthI_nat, List.getD_eq_getElem?_getD]
  cases h : n[j]? with
  | none => show inI 0; unfold inI; omega
  | some x => exact hn x (List.mem_of_getElem? h)
theorem bld_in (c : Int) (n : List Int) (hc : inI c) (hn : ∀ x ∈ n, inI x) : allI (bld c n) := by
  have h0 : inI (0 : Int) := by unfold inI; omega
  have g0 := nth_in n hn 0
  have g1 := nth_in n hn 1
  have g2 := nth_in n hn 2
  have g3 := nth_in n hn 3
  unfold bld allI
  split
  · simp only [List.forall_mem_cons, List.not_mem_nil, false_implies, implies_true, and_true]; exact ⟨hc, g0, g1, g2, g3, h0, h0, h0, h0, h0, h0⟩
  split
  · simp only [List.forall_mem_cons, List.not_mem_nil, false_implies, implies_true, and_true]; exact ⟨hc, h0, h0, h0, h0, g0, g1, g2, g3, h0, h0⟩
  split
  · simp only [List.forall_mem_cons, List.not_mem_nil, false_implies, implies_true, and_true]; exact ⟨hc, h0, h0, h0, h0, g0, g1, g2, g3, h0, h0⟩
  split
  · simp only [List.forall_mem_cons, List.not_mem_nil, false_implies, implies_true, and_true]; exact ⟨hc, h0, h0, h0, h0, h0, h0, h0, h0, g0, h0⟩
  split
  · simp only [List.forall_mem_cons, List.not_mem_nil, false_implies, implies_true, and_true]; exact ⟨hc, h0, h0, h0, h0, h0, h0, h0, h0, g0, h0⟩
  · simp only [List.forall_mem_cons, List.not_mem_nil, false_implies, implies_true, and_true]; exact ⟨hc, h0, h0, h0, h0, h0, h0, h0, h0, g0, g1⟩
theorem nthI_pad (n : List Int) (k j : Nat) : nthI (n ++ List.replicate k 0) (j : Int) 0 = nthI n (j : Int) 0 := by
  rw [nthI_nat, nthI_nat, List.getD_eq_getElem?_getD, List.getD_eq_getElem?_getD]
  by_cases h : j < n.length
  · rw [List.getElem?_append_left h]
  · rw [List.getElem?_append_right (by omega), List.getElem?_eq_none (l := n) (by omega), List.getElem?_replicate]
    split <;> rfl
theorem bld_pad (c : Int) (n : List Int) : bld c (padN n) = bld c n := by
  have g0 : nthI (padN n) 0 0 = nthI n 0 0 := nthI_pad n _ 0
  have g1 : nthI (padN n) 1 0 = nthI n 1 0 := nthI_pad n _ 1
  have g2 : nthI (padN n) 2 0 = nthI n 2 0 := nthI_pad n _ 2
  have g3 : nthI (padN n) 3 0 = nthI n 3 0 := nthI_pad n _ 3
  unfold bld
  rw [g0, g1, g2, g3]
theorem bld_ops : ∀ o : T11, okB o = true → bld o.1 (opsO o) = o := by
  rintro ⟨a, b, c, d, e, f, g, h, i, j, k⟩ ho
  have ho : opOk a b c d e f g h i j k = true := ho
  have hk := opOk_kind ho
  unfold opOk at ho
  show bld a (opsL a b c d e f g h i j k) = _
  unfold bld opsL
  by_cases h1 : a = 1
  · subst h1
    simp only [beq_self_eq_true, cond_true, decide_eq_true_iff] at ho
    obtain ⟨_, _, _, rfl, rfl, rfl, rfl, rfl, rfl⟩ := ho
    rfl
  rw [beq_eq_false_iff_ne.2 h1, cond_false] at ho
  rw [if_neg h1, if_neg h1]
  by_cases h2 : a = 2
  · subst h2
    simp only [beq_self_eq_true, cond_true, decide_eq_true_iff] at ho
    obtain ⟨_, _, _, _, rfl, rfl, rfl, rfl, rfl, rfl⟩ := ho
    rfl
  rw [beq_eq_false_iff_ne.2 h2, cond_false] at ho
  rw [if_neg h2, if_neg h2]
  by_cases h3 : a = 3
  · subst h3
    simp only [beq_self_eq_true, cond_true, decide_eq_true_iff] at ho
    obtain ⟨_, _, _, rfl, rfl, rfl, rfl, rfl, rfl, rfl⟩ := ho
    rfl
  rw [beq_eq_false_iff_ne.2 h3, cond_false] at ho
  rw [if_neg h3, if_neg h3]
  by_cases h4 : a = 4
  · subst h4
    simp only [beq_self_eq_true, cond_true, decide_eq_true_iff] at ho
    obtain ⟨_, _, rfl, rfl, rfl, rfl, rfl, rfl, rfl, rfl⟩ := ho
    rfl
  rw [beq_eq_false_iff_ne.2 h4, cond_false] at ho
  by_cases h5 : a = 5
  · subst h5
    simp only [beq_self_eq_true, Bool.true_or, cond_true, decide_eq_true_iff] at ho
    obtain ⟨_, rfl, rfl, rfl, rfl, rfl, rfl, rfl, rfl, rfl⟩ := ho
    rfl
  by_cases h6 : a = 6
  · subst h6
    simp only [beq_self_eq_true, Bool.or_true, cond_true, decide_eq_true_iff] at ho
    obtain ⟨_, rfl, rfl, rfl, rfl, rfl, rfl, rfl, rfl, rfl⟩ := ho
    rfl
  rw [beq_eq_false_iff_ne.2 h5, beq_eq_false_iff_ne.2 h6, Bool.or_false, cond_false] at ho
  rw [if_neg h5, if_neg h5, if_neg h6, if_neg h6]
  have h789 : ((a == 7 || a == 8) || a == 9) = true := by
    have : a = 7 ∨ a = 8 ∨ a = 9 := by omega
    rcases this with rfl | rfl | rfl <;> rfl
  rw [h789, cond_true, decide_eq_true_iff] at ho
  obtain ⟨_, _, rfl, rfl, rfl, rfl, rfl, rfl, rfl, rfl⟩ := ho
  rfl
theorem words_32 : ∀ k : Fin 9, (32 : UInt8) ∉ (words9.getD k.val ByteArray.empty).data.toList := by decide +kernel
theorem words_inj : ∀ i j : Fin 9, words9.getD i.val ByteArray.empty = words9.getD j.val ByteArray.empty → i = j := by decide +kernel
theorem words_kfold : ∀ k : Fin 9, kfold (words9.getD k.val ByteArray.empty) 9 0 = (k.val : Int) + 1 := by decide +kernel
def Wd (o : T11) (s : ByteArray) (k : Nat) : Prop := k < 9 ∧ o.1 = (k : Int) + 1 ∧ (∀ x ∈ opsO o, inI x) ∧ (opsO o).length ≤ 4 ∧ s = wordB ((words9.getD k ByteArray.empty).data.toList ++ Lib.joinTail [32] ((opsO o).map Lib.itoa))
theorem Pr_words : ∀ (o : T11) (s : ByteArray), Pr o s → ∃ k, Wd o s k := by
  rintro ⟨a, b, c, d, e, f, g, h, i, j, k⟩ s ⟨ho, ht, hi⟩
  have ho : opOk a b c d e f g h i j k = true := ho
  have ht : opT a b c d e f g h i j k = s := ht
  have hx : ∀ x ∈ [a, b, c, d, e, f, g, h, i, j, k], inI x := hi
  have hk := opOk_kind ho
  have hin := ops_in a b c d e f g h i j k hx
  have hll := ops_len a b c d e f g h i j k
  refine ⟨(a - 1).toNat, by omega, by show a = _; omega, hin, hll, ?_⟩
  unfold opT at ht
  rw [if_pos ho] at ht
  rw [← ht]
  show _ = wordB (_ ++ Lib.joinTail [32] ((opsL a b c d e f g h i j k).map Lib.itoa))
  have hne : opsL a b c d e f g h i j k ≠ [] := by
    unfold opsL
    split
    · simp
    split
    · simp
    split
    · simp
    split
    · simp
    split <;> simp
  have e1 : nthI words9 (a - 1) ByteArray.empty = words9.getD (a - 1).toNat ByteArray.empty := rfl
  rw [e1]
  generalize words9.getD (a - 1).toNat ByteArray.empty = wd
  generalize opsL a b c d e f g h i j k = l at hne ⊢
  match l, hne with
  | x :: r, _ =>
    unfold numsB
    rw [List.map_cons, Lib.join_cons]
    have e2 : Lib.joinTail [32] (Lib.itoa x :: r.map Lib.itoa) = 32 :: (Lib.itoa x ++ Lib.joinTail [32] (r.map Lib.itoa)) := by simp [Lib.joinTail]
    rw [e2]
    have e3 : wd ++ lit10 = (⟨(wd.data.toList ++ [32]).toArray⟩ : ByteArray) := ba_app wd.data.toList [32]
    rw [e3, ba_app]
    unfold wordB
    congr 2
    simp
theorem Wd_cut {o : T11} {s : ByteArray} {k : Nat} (h : Wd o s k) : cutG s s.size 0 = words9.getD k ByteArray.empty :: ((opsO o).map Lib.itoa).map wordB := by
  obtain ⟨hk, _, _, _, rfl⟩ := h
  have := cutG_words ((opsO o).map Lib.itoa) (words9.getD k ByteArray.empty).data.toList [] [] (words_32 ⟨k, hk⟩) (fun x hx => by
    obtain ⟨n, _, rfl⟩ := List.mem_map.1 hx
    exact itoa_32 n)
  rw [wordB_size]
  exact this
theorem Wd_split {o : T11} {s : ByteArray} {k : Nat} (h : Wd o s k) : Lib.splitB sepB 0 (Lib.countB s sepB) s = words9.getD k ByteArray.empty :: ((opsO o).map Lib.itoa).map wordB := by
  obtain ⟨hk, _, _, _, rfl⟩ := h
  have := split_words ((opsO o).map Lib.itoa) (words9.getD k ByteArray.empty).data.toList (fun x hx => by
    rcases List.mem_cons.1 hx with rfl | hx
    · exact words_32 ⟨k, hk⟩
    · obtain ⟨n, _, rfl⟩ := List.mem_map.1 hx
      exact itoa_32 n)
  rw [this.1]
  exact this.2
theorem Wd_size {o : T11} {s : ByteArray} {k : Nat} (h : Wd o s k) : s.size ≤ 100 := by
  obtain ⟨hk, _, hin, hll, rfl⟩ := h
  have h1 := joinTail_len [32] 20 ((opsO o).map Lib.itoa) (fun x hx => by
    obtain ⟨n, hn, rfl⟩ := List.mem_map.1 hx
    exact itoa_len n (hin n hn))
  have h2 := words_size ⟨k, hk⟩
  have h3 : nthI words9 ((k : Nat) : Int) ByteArray.empty = words9.getD k ByteArray.empty := rfl
  have h2 : (words9.getD k ByteArray.empty).size ≤ 5 := h2
  have h4 : (words9.getD k ByteArray.empty).data.toList.length = (words9.getD k ByteArray.empty).size := Array.length_toList
  rw [wordB_size, List.length_append, h4]
  rw [List.length_map] at h1
  have h5 : (opsO o).length * ([32].length + 20) ≤ 4 * 21 := Nat.mul_le_mul hll (by simp)
  have h6 : (opsO o).length * (([32] : List UInt8).length + 20) ≤ 4 * 21 := h5
  omega
theorem cutG_sizes (s : ByteArray) : ∀ d a, ∀ x ∈ cutG s d a, x.size ≤ s.size
  | 0, a, x, h => by
    rw [List.mem_singleton.1 (show x ∈ [s.extract a s.size] from h), ByteArray.size_extract]; omega
  | d + 1, a, x, h => by
    unfold cutG at h
    split at h
    · rcases List.mem_cons.1 h with rfl | h
      · rw [ByteArray.size_extract]; omega
      · exact cutG_sizes s d _ x h
    · exact cutG_sizes s d _ x h
theorem sR_eq (s : ByteArray) (hs : s.size ≤ 1048576) : ∃ r, S.OpTextRead s = some r ∧ (r = Z12 ∨ ∃ o, Pr o s ∧ r = fl o) ∧ ∀ o, Pr o s → r = fl o := by
  by_cases h100 : 100 < (s.size : Int)
  · refine ⟨Z12, ?_, .inl rfl, fun o ho => ?_⟩
    · unfold S.OpTextRead
      rw [cdp h100]; rfl
    · obtain ⟨k, hk⟩ := Pr_words o s ho
      have := Wd_size hk
      omega
  · have hlen := cutG_len s s.size 0
    have hsz := cutG_sizes s s.size 0
    have hE : S.OpTextRead s = some (if okB (bld (kfold ((cutG s s.size 0).getD 0 ByteArray.empty) 9 0) (padN (((cutG s s.size 0).drop 1).map valW))) = true ∧ txt (bld (kfold ((cutG s s.size 0).getD 0 ByteArray.empty) 9 0) (padN (((cutG s s.size 0).drop 1).map valW))) = s then fl (bld (kfold ((cutG s s.size 0).getD 0 ByteArray.empty) 9 0) (padN (((cutG s s.size 0).drop 1).map valW))) else Z12) := by
      unfold S.OpTextRead
      rw [cdn h100, sCut_eq s hs, Option.bind_some]
      generalize cutG s s.size 0 = Lw at hlen hsz ⊢
      rw [sR_l0 _ _ _ _ _ _ _ _ _ _ _ _ _ Lw (by omega) (by omega) (fun x hx => Nat.le_trans (hsz x hx) hs), sR_l1, sR_l2 _ _ _ _ _ _ _ _ _ _ _ _ _ _ _ _ _ _ _ _ _ _ _ _ Lw _ (by omega)]
      have hc := kfold_in (Lw.getD 0 ByteArray.empty) 9 0 (by omega) (by omega) (by omega)
      generalize kfold (Lw.getD 0 ByteArray.empty) 9 0 = c at hc ⊢
      have hN : ∀ x ∈ padN ((Lw.drop 1).map valW), inI x := by
        intro x hx
        rcases List.mem_append.1 hx with hx | hx
        · obtain ⟨b, _, rfl⟩ := List.mem_map.1 hx
          exact valS_in _
        · rw [(List.mem_replicate.1 hx).2]; unfold inI; omega
      have hl4 : 4 ≤ (padN ((Lw.drop 1).map valW)).length := by
        unfold padN
        rw [List.length_append, List.length_replicate]; omega
      generalize padN ((Lw.drop 1).map valW) = N at hN hl4 ⊢
      have hin := bld_in c N (by unfold inI; omega) hN
      by_cases h1 : c = 1
      · have hb : bld c N = (c, nthI N 0 0, nthI N 1 0, nthI N 2 0, nthI N 3 0, 0, 0, 0, 0, 0, 0) := if_pos h1
        rw [hb] at hin ⊢
        rw [cep h1, cdp (by omega), cdp (by omega), cdp (by omega), cdp (by omega), sOpText_eq _ _ _ _ _ _ _ _ _ _ _ hin, Option.bind_some]
        exact fin_eq c (nthI N 0 0) (nthI N 1 0) (nthI N 2 0) (nthI N 3 0) 0 0 0 0 0 0 s
      rw [cen h1]
      by_cases h2 : c = 2
      · have hb : bld c N = (c, 0, 0, 0, 0, nthI N 0 0, nthI N 1 0, nthI N 2 0, nthI N 3 0, 0, 0) := (if_neg h1).trans (if_pos h2)
        rw [hb] at hin ⊢
        rw [cep h2, cdp (by omega), cdp (by omega), cdp (by omega), cdp (by omega), sOpText_eq _ _ _ _ _ _ _ _ _ _ _ hin, Option.bind_some]
        exact fin_eq c 0 0 0 0 (nthI N 0 0) (nthI N 1 0) (nthI N 2 0) (nthI N 3 0) 0 0 s
      rw [cen h2]
      by_cases h3 : c = 3
      · have hb : bld c N = (c, 0, 0, 0, 0, nthI N 0 0, nthI N 1 0, nthI N 2 0, nthI N 3 0, 0, 0) := (if_neg h1).trans ((if_neg h2).trans (if_pos h3))
        rw [hb] at hin ⊢
        rw [cep h3, cdp (by omega), cdp (by omega), cdp (by omega), cdp (by omega), sOpText_eq _ _ _ _ _ _ _ _ _ _ _ hin, Option.bind_some]
        exact fin_eq c 0 0 0 0 (nthI N 0 0) (nthI N 1 0) (nthI N 2 0) (nthI N 3 0) 0 0 s
      rw [cen h3]
      by_cases h5 : c = 5
      · have hb : bld c N = (c, 0, 0, 0, 0, 0, 0, 0, 0, nthI N 0 0, 0) := (if_neg h1).trans ((if_neg h2).trans ((if_neg h3).trans (if_pos h5)))
        rw [hb] at hin ⊢
        rw [cep h5, cdp (by omega), sOpText_eq _ _ _ _ _ _ _ _ _ _ _ hin, Option.bind_some]
        exact fin_eq c 0 0 0 0 0 0 0 0 (nthI N 0 0) 0 s
      rw [cen h5]
      by_cases h6 : c = 6
      · have hb : bld c N = (c, 0, 0, 0, 0, 0, 0, 0, 0, nthI N 0 0, 0) := (if_neg h1).trans ((if_neg h2).trans ((if_neg h3).trans ((if_neg h5).trans (if_pos h6))))
        rw [hb] at hin ⊢
        rw [cep h6, cdp (by omega), sOpText_eq _ _ _ _ _ _ _ _ _ _ _ hin, Option.bind_some]
        exact fin_eq c 0 0 0 0 0 0 0 0 (nthI N 0 0) 0 s
      rw [cen h6]
      have hb : bld c N = (c, 0, 0, 0, 0, 0, 0, 0, 0, nthI N 0 0, nthI N 1 0) := (if_neg h1).trans ((if_neg h2).trans ((if_neg h3).trans ((if_neg h5).trans (if_neg h6))))
      rw [hb] at hin ⊢
      rw [cdp (by omega), cdp (by omega), sOpText_eq _ _ _ _ _ _ _ _ _ _ _ hin, Option.bind_some]
      exact fin_eq c 0 0 0 0 0 0 0 0 (nthI N 0 0) (nthI N 1 0) s
    have hc := kfold_in ((cutG s s.size 0).getD 0 ByteArray.empty) 9 0 (by omega) (by omega) (by omega)
    have hN : ∀ x ∈ padN (((cutG s s.size 0).drop 1).map valW), inI x := by
      intro x hx
      rcases List.mem_append.1 hx with hx | hx
      · obtain ⟨b, _, rfl⟩ := List.mem_map.1 hx
        exact valS_in _
      · rw [(List.mem_replicate.1 hx).2]; unfold inI; omega
    have hin := bld_in (kfold ((cutG s s.size 0).getD 0 ByteArray.empty) 9 0) _ (by unfold inI; omega) hN
    refine ⟨_, hE, ?_, fun o ho => ?_⟩
    · split
      · rename_i h; exact .inr ⟨_, ⟨h.1, h.2, hin⟩, rfl⟩
      · exact .inl rfl
    · obtain ⟨k, hk⟩ := Pr_words o s ho
      have hv : (((opsO o).map Lib.itoa).map wordB).map valW = opsO o := by
        rw [List.map_map, List.map_map]
        have : ∀ x ∈ opsO o, (valW ∘ wordB ∘ Lib.itoa) x = x := fun x hx => by
          show valS (wordB (Lib.itoa x)).data.toList = x
          have e : (wordB (Lib.itoa x)).data.toList = Lib.itoa x := by unfold wordB; simp
          rw [e]
          exact valS_itoa x (hk.2.2.1 x hx)
        exact (List.map_congr_left this).trans (List.map_id _)
      have hb : bld (kfold ((cutG s s.size 0).getD 0 ByteArray.empty) 9 0) (padN (((cutG s s.size 0).drop 1).map valW)) = o := by
        rw [Wd_cut hk]
        show bld (kfold (words9.getD k ByteArray.empty) 9 0) (padN ((((opsO o).map Lib.itoa).map wordB).map valW)) = o
        rw [hv, words_kfold ⟨k, hk.1⟩, bld_pad]
        have := bld_ops o ho.1
        rw [hk.2.1] at this
        exact this
      rw [hb, if_pos ⟨ho.1, ho.2.1⟩]
theorem iopText_eq (a b c d e f g h i j k : Int) (ho : opOk a b c d e f g h i j k = true) (hx : ∀ x ∈ [a, b, c, d, e, f, g, h, i, j, k], inI x) : I.opText a b c d e f g h i j k = some (opT a b c d e f g h i j k) := by
  unfold opT
  rw [if_pos ho]
  have hk := opOk_kind ho
  obtain ⟨n, hn⟩ : ∃ n : Nat, a - 1 = (n : Int) := ⟨(a - 1).toNat, by omega⟩
  have hn9 : n < 9 := by omega
  have hs : (nthI words9 ((n : Nat) : Int) ByteArray.empty).size ≤ 5 := words_size ⟨n, hn9⟩
  have hw : IntKind.wrap .i64 (a - 1) = ((n : Nat) : Int) := by rw [w64 (by omega) (by omega), hn]
  have hin := ops_in a b c d e f g h i j k hx
  have hll := ops_len a b c d e f g h i j k
  have l1 := numsB_len [32] _ hin
  have l2 : (opsL a b c d e f g h i j k).length * ([32].length + 20) ≤ 4 * 21 := Nat.mul_le_mul hll (by simp)
  have j1 : I.numbersText lit10 (opsL a b c d e f g h i j k) = some ⟨(numsB [32] (opsL a b c d e f g h i j k)).toArray⟩ := iNums_eq [32] (by simp) _ (by omega) hin
  have z : lit10.size = 1 := rfl
  have e1 : (nthI words9 ((n : Nat) : Int) ByteArray.empty ++ lit10).size ≤ 6 := by rw [ByteArray.size_append, z]; omega
  have e2 : (⟨(numsB [32] (opsL a b c d e f g h i j k)).toArray⟩ : ByteArray).size ≤ 84 := by rw [ba_size]; omega
  unfold I.opText
  rw [hw, hn, fields9]
  change (Option.bind (some words9) _) = _
  rw [Option.bind_some, cdp ⟨by omega, by show (n : Int) < 9; omega⟩, cfit (by rw [z]; omega)]
  change (Option.bind (I.Op_operands a b c d e f g h i j k) _) = _
  rw [iFields_eq, Option.bind_some, j1, Option.bind_some, cfit (Nat.le_trans (Nat.add_le_add e1 e2) (by decide))]
theorem withOp_eq (c : Int) (l : List Int) : I.withOperands c l = some (if l.length = (opsL c 0 0 0 0 0 0 0 0 0 0).length then fl (bld c l) else Z12) := by
  unfold I.withOperands
  rw [iFields_eq, Option.bind_some]
  by_cases hl : l.length = (opsL c 0 0 0 0 0 0 0 0 0 0).length
  · rw [if_pos hl, cnn (by omega)]
    unfold opsL at hl
    by_cases h1 : c = 1
    · rw [if_pos h1] at hl
      have hl : l.length = 4 := hl
      have hb : bld c l = (c, nthI l 0 0, nthI l 1 0, nthI l 2 0, nthI l 3 0, 0, 0, 0, 0, 0, 0) := if_pos h1
      rw [cep h1, cdp (by omega), cdp (by omega), cdp (by omega), cdp (by omega), hb]; rfl
    rw [if_neg h1] at hl
    rw [cen h1]
    by_cases h2 : c = 2
    · rw [if_pos h2] at hl
      have hl : l.length = 4 := hl
      have hb : bld c l = (c, 0, 0, 0, 0, nthI l 0 0, nthI l 1 0, nthI l 2 0, nthI l 3 0, 0, 0) := (if_neg h1).trans (if_pos h2)
      rw [cep h2, cdp (by omega), cdp (by omega), cdp (by omega), cdp (by omega), hb]; rfl
    rw [if_neg h2] at hl
    rw [cen h2]
    by_cases h3 : c = 3
    · rw [if_pos h3] at hl
      have hl : l.length = 3 := hl
      have h3z : nthI l 3 0 = 0 := by
        show l.getD 3 0 = 0
        rw [List.getD_eq_getElem?_getD, List.getElem?_eq_none (by omega)]; rfl
      have hb : bld c l = (c, 0, 0, 0, 0, nthI l 0 0, nthI l 1 0, nthI l 2 0, nthI l 3 0, 0, 0) := (if_neg h1).trans ((if_neg h2).trans (if_pos h3))
      rw [cep h3, cdp (by omega), cdp (by omega), cdp (by omega), hb, h3z]; rfl
    rw [if_neg h3] at hl
    rw [cen h3]
    by_cases h5 : c = 5
    · rw [if_pos h5] at hl
      have hl : l.length = 1 := hl
      have hb : bld c l = (c, 0, 0, 0, 0, 0, 0, 0, 0, nthI l 0 0, 0) := (if_neg h1).trans ((if_neg h2).trans ((if_neg h3).trans (if_pos h5)))
      rw [cep h5, cdp (by omega), hb]; rfl
    rw [if_neg h5] at hl
    rw [cen h5]
    by_cases h6 : c = 6
    · rw [if_pos h6] at hl
      have hl : l.length = 1 := hl
      have hb : bld c l = (c, 0, 0, 0, 0, 0, 0, 0, 0, nthI l 0 0, 0) := (if_neg h1).trans ((if_neg h2).trans ((if_neg h3).trans ((if_neg h5).trans (if_pos h6))))
      rw [cep h6, cdp (by omega), hb]; rfl
    rw [if_neg h6] at hl
    rw [cen h6]
    have hl : l.length = 2 := hl
    have hb : bld c l = (c, 0, 0, 0, 0, 0, 0, 0, 0, nthI l 0 0, nthI l 1 0) := (if_neg h1).trans ((if_neg h2).trans ((if_neg h3).trans ((if_neg h5).trans (if_neg h6))))
    rw [cdp (by omega), cdp (by omega), hb]; rfl
  · rw [if_neg hl, cnp (by omega)]; rfl
def parseAll : List ByteArray → Option (List Int)
  | [] => some []
  | b :: r => match Lib.atoiAll b.data.toList with
    | .ok v => (parseAll r).map (v :: ·)
    | _ => none
theorem parseAll_in : ∀ (Lw : List ByteArray) (l : List Int), parseAll Lw = some l → ∀ x ∈ l, inI x
  | [], l, h => by
    injection h with h
    subst h
    intro x hx; cases hx
  | b :: r, l, h => by
    unfold parseAll at h
    split at h
    · rename_i v hv
      obtain ⟨l2, hl2, rfl⟩ := Option.map_eq_some_iff.1 h
      intro x hx
      rcases List.mem_cons.1 hx with rfl | hx
      · have := Lib.atoiAll_bounds hv
        unfold inI; omega
      · exact parseAll_in r l2 hl2 x hx
    · cases h
theorem parseAll_itoa : ∀ (l : List Int), (∀ x ∈ l, inI x) → parseAll ((l.map Lib.itoa).map wordB) = some l
  | [], _ => rfl
  | x :: l, h => by
    have hx := h x List.mem_cons_self
    unfold inI at hx
    have e : (wordB (Lib.itoa x)).data.toList = Lib.itoa x := by unfold wordB; simp
    show parseAll (wordB (Lib.itoa x) :: (l.map Lib.itoa).map wordB) = _
    unfold parseAll
    rw [e, atoi_itoa x hx.1 hx.2]
    show Option.map _ (parseAll ((l.map Lib.itoa).map wordB)) = _
    rw [parseAll_itoa l fun y hy => h y (List.mem_cons_of_mem _ hy)]
    rfl
theorem iR_l0 (E0 : ByteArray → Bool → Int → Int → Int → Int → Int → Int → Int → Int → Int → Int → Int → List ByteArray → List Int → Option T12) (E1 : ByteArray → Int → Int → Int → Int → Int → Int → Int → Int → Int → Int → Int → List ByteArray → List Int → Option T12) (s : ByteArray) (z1 z2 z3 z4 z5 z6 z7 z8 z9 z10 z11 : Int) (Lw : List ByteArray)
    (h1 : 1 ≤ Lw.length) (hw : Lw.length ≤ 1048577) (hz : ∀ x ∈ Lw, x.size ≤ 1048576) (hE0 : ∀ out, E0 s false 0 0 0 0 0 0 0 0 0 0 0 Lw out = some Z12) :
    I.opTextRead_l0 fu E0 E1 s 1 (Lw.length : Int) ((Lw.length : Int) - 1) 0 z1 z2 z3 z4 z5 z6 z7 z8 z9 z10 z11 Lw [] = match parseAll (Lw.drop 1) with | some r => E1 s z1 z2 z3 z4 z5 z6 z7 z8 z9 z10 z11 Lw r | none => some Z12 := by
  obtain ⟨W, hW⟩ := fu_ge (Lw.length - 1) (by omega)
  have key : ∀ (d i : Nat) (out : List Int), i + 1 + d = Lw.length → out.length + d ≤ 1048577 → I.opTextRead_l0 (d + 1 + W) E0 E1 s 1 (Lw.length : Int) ((Lw.length : Int) - 1) (i : Int) z1 z2 z3 z4 z5 z6 z7 z8 z9 z10 z11 Lw out = match parseAll (Lw.drop (i + 1)) with | some r => E1 s z1 z2 z3 z4 z5 z6 z7 z8 z9 z10 z11 Lw (out ++ r) | none => some Z12 := by
    intro d
    induction d with
    | zero =>
      intro i out hi hl
      rw [show 0 + 1 + W = W + 1 from by omega, I.opTextRead_l0, cdn (by omega), List.drop_of_length_le (by omega)]
      show _ = E1 s z1 z2 z3 z4 z5 z6 z7 z8 z9 z10 z11 Lw (out ++ [])
      rw [List.append_nil]
    | succ d ih =>
      intro i out hi hl
      have hil : i + 1 < Lw.length := by omega
      have he : nthI Lw (1 + (i : Int)) ByteArray.empty = Lw[i + 1] := by
        rw [show (1 : Int) + (i : Int) = ((i + 1 : Nat) : Int) by omega, nthI_nat, List.getD_eq_getElem?_getD, List.getElem?_eq_getElem hil]; rfl
      have hsz := hz _ (List.getElem_mem hil)
      have hwr : IntKind.wrap .i64 ((i : Int) + 1) = ((i + 1 : Nat) : Int) := by rw [w64 (by omega) (by omega)]; rfl
      rw [show d + 1 + 1 + W = (d + 1 + W) + 1 from by omega, I.opTextRead_l0, cdp (by omega), cdp (by omega), he, List.drop_eq_getElem_cons hil]
      unfold X.atoi parseAll
      rw [cdp (by omega)]
      cases ha : Lib.atoiAll Lw[i + 1].data.toList with
      | ok v =>
        simp only [Option.bind_some, cond_false]
        rw [cdp (by simp only [List.length_cons, List.length_nil]; omega), hwr, ih (i + 1) _ (by omega) (by rw [List.length_append]; simp only [List.length_cons, List.length_nil]; omega)]
        cases hp : parseAll (Lw.drop (i + 1 + 1)) with
        | none => rfl
        | some r =>
          show E1 s z1 z2 z3 z4 z5 z6 z7 z8 z9 z10 z11 Lw (out ++ [v] ++ r) = E1 s z1 z2 z3 z4 z5 z6 z7 z8 z9 z10 z11 Lw (out ++ v :: r)
          rw [List.append_assoc]; rfl
      | «syntax» =>
        simp only [Option.bind_some, cond_true]
        exact hE0 out
      | range =>
        simp only [Option.bind_some, cond_true]
        exact hE0 out
  rw [hW]
  exact key (Lw.length - 1) 0 [] (by omega) (by simp; omega)
theorem iR_l1 (E0 : Bool → Int → Int → Int → Int → Int → Int → Int → Int → Int → Int → Int → Option T12) (E1 : Int → Int → Int → Int → Int → Int → Int → Int → Int → Int → Int → Option T12) (s : ByteArray) (z1 z2 z3 z4 z5 z6 z7 z8 z9 z10 z11 : Int) (Lw : List ByteArray) (l : List Int) (h1 : 1 ≤ Lw.length) (hl : ∀ x ∈ l, inI x)
    (hE0 : ∀ a b c d e f g h i j k, E0 true a b c d e f g h i j k = some (fl (a, b, c, d, e, f, g, h, i, j, k))) (hE1 : E1 z1 z2 z3 z4 z5 z6 z7 z8 z9 z10 z11 = some Z12) :
    ∃ r, I.opTextRead_l1 fu E0 E1 s (words9.length : Int) 0 z1 z2 z3 z4 z5 z6 z7 z8 z9 z10 z11 Lw l words9 = some r ∧ (r = Z12 ∨ ∃ o, Pr o s ∧ r = fl o) ∧ ∀ (o : T11) (kk : Nat), Pr o s → kk < 9 → o.1 = (kk : Int) + 1 → Lw.getD 0 ByteArray.empty = words9.getD kk ByteArray.empty → l = opsO o → r = fl o := by
  obtain ⟨W, hW⟩ := fu_ge 9 (by omega)
  have hlen : words9.length = 9 := rfl
  have key : ∀ (d i : Nat), i + d = 9 → ∃ r, I.opTextRead_l1 (d + 1 + W) E0 E1 s (words9.length : Int) (i : Int) z1 z2 z3 z4 z5 z6 z7 z8 z9 z10 z11 Lw l words9 = some r ∧ (r = Z12 ∨ ∃ o, Pr o s ∧ r = fl o) ∧ ∀ (o : T11) (kk : Nat), Pr o s → i ≤ kk → kk < 9 → o.1 = (kk : Int) + 1 → Lw.getD 0 ByteArray.empty = words9.getD kk ByteArray.empty → l = opsO o → r = fl o := by
    intro d
    induction d with
    | zero =>
      intro i hi
      refine ⟨Z12, ?_, .inl rfl, fun o kk _ h2 h3 => by omega⟩
      rw [show 0 + 1 + W = W + 1 from by omega, I.opTextRead_l1, cdn (by rw [hlen]; omega), hE1]
    | succ d ih =>
      intro i hi
      have hwr : IntKind.wrap .i64 ((i : Int) + 1) = ((i + 1 : Nat) : Int) := by rw [w64 (by omega) (by omega)]; rfl
      have hwr2 : IntKind.wrap .i64 (1 + (i : Int)) = (i : Int) + 1 := by rw [w64 (by omega) (by omega)]; omega
      have e0 : nthI Lw 0 ByteArray.empty = Lw.getD 0 ByteArray.empty := rfl
      obtain ⟨r, hr, hr1, hr2⟩ := ih (i + 1) (by omega)
      have hstep : I.opTextRead_l1 (d + 1 + 1 + W) E0 E1 s (words9.length : Int) (i : Int) z1 z2 z3 z4 z5 z6 z7 z8 z9 z10 z11 Lw l words9 = if words9.getD i ByteArray.empty = Lw.getD 0 ByteArray.empty ∧ l.length = (opsL ((i : Int) + 1) 0 0 0 0 0 0 0 0 0 0).length ∧ okB (bld ((i : Int) + 1) l) = true ∧ txt (bld ((i : Int) + 1) l) = s then some (fl (bld ((i : Int) + 1) l)) else some r := by
        rw [show d + 1 + 1 + W = (d + 1 + W) + 1 from by omega, I.opTextRead_l1, cdp (by rw [hlen]; omega), cdp (by rw [hlen]; omega), cdp (by omega), e0, nthI_nat, hwr, hwr2, hr]
        simp only [tl_eq]
        by_cases hw : words9.getD i ByteArray.empty = Lw.getD 0 ByteArray.empty
        · rw [decide_eq_true hw, Bool.not_true, cond_false, withOp_eq, Option.bind_some]
          by_cases hll : l.length = (opsL ((i : Int) + 1) 0 0 0 0 0 0 0 0 0 0).length
          · rw [if_pos hll]
            have hin := bld_in ((i : Int) + 1) l (by unfold inI; omega) hl
            generalize bld ((i : Int) + 1) l = o at hin ⊢
            obtain ⟨a, b, c, d, e, f, g, h, i, j, k⟩ := o
            have hin : ∀ x ∈ [a, b, c, d, e, f, g, h, i, j, k], inI x := hin
            have hok : okB (a, b, c, d, e, f, g, h, i, j, k) = opOk a b c d e f g h i j k := rfl
            have htx : txt (a, b, c, d, e, f, g, h, i, j, k) = opT a b c d e f g h i j k := rfl
            rw [hok, htx]
            unfold fl
            rw [cond_true, isOp_eq, Option.bind_some]
            by_cases ho : opOk a b c d e f g h i j k = true
            · rw [ho, cond_true, iopText_eq a b c d e f g h i j k ho hin, Option.bind_some]
              by_cases ht : opT a b c d e f g h i j k = s
              · rw [cdp ht, if_pos ⟨hw, hll, rfl, ht⟩]
                exact hE0 a b c d e f g h i j k
              · rw [cdn ht, if_neg (fun h => ht h.2.2.2)]
            · rw [if_neg (fun h => ho h.2.2.1)]
              have ho' : opOk a b c d e f g h i j k = false := by simpa using ho
              rw [ho', cond_false]
          · rw [if_neg hll, if_neg (fun h => hll h.2.1)]
            rfl
        · rw [decide_eq_false hw, Bool.not_false, cond_true, if_neg (fun h => hw h.1)]
      by_cases hc : words9.getD i ByteArray.empty = Lw.getD 0 ByteArray.empty ∧ l.length = (opsL ((i : Int) + 1) 0 0 0 0 0 0 0 0 0 0).length ∧ okB (bld ((i : Int) + 1) l) = true ∧ txt (bld ((i : Int) + 1) l) = s
      · rw [if_pos hc] at hstep
        have hin := bld_in ((i : Int) + 1) l (by unfold inI; omega) hl
        refine ⟨_, hstep, .inr ⟨_, ⟨hc.2.2.1, hc.2.2.2, hin⟩, rfl⟩, fun o kk ho hik hk9 hok hL hlo => ?_⟩
        have hik2 : i = kk := by
          have := words_inj ⟨i, by omega⟩ ⟨kk, hk9⟩ (hc.1.trans hL)
          injection this
        subst hik2
        have := bld_ops o ho.1
        rw [← hok, hlo, this]
      · rw [if_neg hc] at hstep
        refine ⟨r, hstep, hr1, fun o kk ho hik hk9 hok hL hlo => ?_⟩
        rcases Nat.lt_or_ge i kk with h | h
        · exact hr2 o kk ho h hk9 hok hL hlo
        · exfalso
          have : kk = i := by omega
          subst this
          have hb := bld_ops o ho.1
          rw [hok, ← hlo] at hb
          refine hc ⟨hL.symm, ?_, by rw [hb]; exact ho.1, by rw [hb]; exact ho.2.1⟩
          rw [hlo]
          obtain ⟨a, b, c, d, e, f, g, h, i, j, k⟩ := o
          have hok : a = (kk : Int) + 1 := hok
          subst hok
          show (opsL _ b c d e f g h i j k).length = _
          unfold opsL
          repeat' split
          all_goals rfl
  rw [hW]
  obtain ⟨r, h1, h2, h3⟩ := key 9 0 rfl
  exact ⟨r, h1, h2, fun o kk ho hk => h3 o kk ho (Nat.zero_le _) hk⟩
theorem iR_eq (s : ByteArray) (hs : s.size ≤ 1048576) : ∃ r, I.opTextRead s = some r ∧ (r = Z12 ∨ ∃ o, Pr o s ∧ r = fl o) ∧ ∀ o, Pr o s → r = fl o := by
  have hsep : sepB.size = 1 := rfl
  have hle := Lib.countB_le sepB (by rw [hsep]; omega) s.size s (Nat.le_refl _)
  have hlen := Lib.splitB_all sepB (by rw [hsep]; omega) 0 (Lib.countB s sepB) s rfl
  have hsz := split_sizes sepB (Lib.countB s sepB) s
  have hX : X.split s lit10 = some (Lib.splitB sepB 0 (Lib.countB s sepB) s) := by
    show X.split s sepB = _
    unfold X.split
    rw [cdp ⟨by omega, by rw [hsep]; omega⟩]
  have hcut : ∀ o k, Wd o s k → Lib.splitB sepB 0 (Lib.countB s sepB) s = words9.getD k ByteArray.empty :: ((opsO o).map Lib.itoa).map wordB := fun o k h => Wd_split h
  unfold I.opTextRead
  rw [hX, Option.bind_some]
  generalize Lib.splitB sepB 0 (Lib.countB s sepB) s = Lw at hlen hsz hcut ⊢
  rw [cdp (by omega), iR_l0 _ _ _ _ _ _ _ _ _ _ _ _ _ _ Lw (by omega) (by omega) (fun x hx => Nat.le_trans (hsz x hx) hs) (fun _ => rfl)]
  cases hp : parseAll (Lw.drop 1) with
  | none =>
    refine ⟨Z12, rfl, .inl rfl, fun o ho => ?_⟩
    exfalso
    obtain ⟨k, hk⟩ := Pr_words o s ho
    rw [hcut o k hk] at hp
    have hp : parseAll (((opsO o).map Lib.itoa).map wordB) = none := hp
    rw [parseAll_itoa _ hk.2.2.1] at hp
    cases hp
  | some l =>
    simp only [fields9, Option.bind_some]
    obtain ⟨r, h1, h2, h3⟩ := iR_l1 (fun y87 y88 y89 y90 y91 y92 y93 y94 y95 y96 y97 y98 => (some (y88, y89, y90, y91, y92, y93, y94, y95, y96, y97, y98, y87))) (fun y99 y100 y101 y102 y103 y104 y105 y106 y107 y108 y109 => (some (0, 0, 0, 0, 0, 0, 0, 0, 0, 0, 0, false))) s 0 0 0 0 0 0 0 0 0 0 0 Lw l (by omega) (parseAll_in _ _ hp) (fun _ _ _ _ _ _ _ _ _ _ _ => rfl) rfl
    refine ⟨r, h1, h2, fun o ho => ?_⟩
    obtain ⟨k, hk⟩ := Pr_words o s ho
    refine h3 o k ho hk.1 hk.2.1 ?_ ?_
    · rw [hcut o k hk]; rfl
    · rw [hcut o k hk] at hp
      have hp : parseAll (((opsO o).map Lib.itoa).map wordB) = some l := hp
      rw [parseAll_itoa _ hk.2.2.1] at hp
      exact (Option.some.inj hp).symm

theorem FnExactOpTextRead : StmtFnExactOpTextRead.Stmt := by
  intro s hs
  unfold L.FnExactOpTextRead
  by_cases hl : 1048576 < (s.size : Int)
  · rw [cdp hl]
  · rw [cdn hl]
    obtain ⟨r, hr, hr1, hr2⟩ := sR_eq s (by omega)
    obtain ⟨q, hq, hq1, hq2⟩ := iR_eq s (by omega)
    have e : q = r := by
      rcases hr1 with h | ⟨o, ho, h⟩
      · rcases hq1 with h' | ⟨o, ho, h'⟩
        · rw [h, h']
        · rw [h', hr2 o ho]
      · rw [h, hq2 o ho]
    subst e
    have hI : I.OpTextRead s = some q := by
      unfold I.OpTextRead
      rw [hq, Option.bind_some]
    rw [hr, Option.bind_some, hI, Option.bind_some]
    have h3 : L.eqOp q.1 q.2.1 q.2.2.1 q.2.2.2.1 q.2.2.2.2.1 q.2.2.2.2.2.1 q.2.2.2.2.2.2.1 q.2.2.2.2.2.2.2.1 q.2.2.2.2.2.2.2.2.1 q.2.2.2.2.2.2.2.2.2.1 q.2.2.2.2.2.2.2.2.2.2.1 q.1 q.2.1 q.2.2.1 q.2.2.2.1 q.2.2.2.2.1 q.2.2.2.2.2.1 q.2.2.2.2.2.2.1 q.2.2.2.2.2.2.2.1 q.2.2.2.2.2.2.2.2.1 q.2.2.2.2.2.2.2.2.2.1 q.2.2.2.2.2.2.2.2.2.2.1 = some (decide _) := eqOp_eq (q.1, (q.2.1, q.2.2.1, q.2.2.2.1, q.2.2.2.2.1), (q.2.2.2.2.2.1, q.2.2.2.2.2.2.1, q.2.2.2.2.2.2.2.1, q.2.2.2.2.2.2.2.2.1), q.2.2.2.2.2.2.2.2.2.1, q.2.2.2.2.2.2.2.2.2.2.1) (q.1, (q.2.1, q.2.2.1, q.2.2.2.1, q.2.2.2.2.1), (q.2.2.2.2.2.1, q.2.2.2.2.2.2.1, q.2.2.2.2.2.2.2.1, q.2.2.2.2.2.2.2.2.1), q.2.2.2.2.2.2.2.2.2.1, q.2.2.2.2.2.2.2.2.2.2.1)
    rw [decide_eq_true rfl] at h3
    rw [h3, Option.bind_some, beq_self_eq_true]
    rfl
end Go.Proofs.YtlaklfpelkmjjaaGreatDoor.Pure
