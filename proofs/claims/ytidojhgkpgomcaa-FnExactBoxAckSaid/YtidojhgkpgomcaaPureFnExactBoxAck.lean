/- BoxAck of the program returns what the reference's returns. For every argument. -/
import Derived.Test.YtidojhgkpgomcaaStmtFnExactBoxAck
import Derived.Laws.BitsLemmas
import Derived.Laws.BitsAllLaws
import Derived.Laws.Bits64b
namespace Go.Proofs.Ytidojhgkpgomcaa.Pure
open Go Go.RowKit Go.Proofs.Ytidojhgkpgomcaa.Run Go.Proofs.Ytidojhgkpgomcaa.StmtFnExactBoxAck Go.Proofs.YtidojhgkpgomcaaW.PrintWords Go.Proofs.Ytidojhgkpgomcaa.Vm
set_option linter.unusedVariables false
set_option linter.unusedSimpArgs false
set_option linter.unusedSectionVars false
theorem cdp {α : Type} {p : Prop} [Decidable p] {a b : α} (h : p) : (bif decide p then a else b) = a := by simp [h]
theorem cdn {α : Type} {p : Prop} [Decidable p] {a b : α} (h : ¬ p) : (bif decide p then a else b) = b := by simp [h]
theorem cnp {α : Type} {x y : Int} {a b : α} (h : x ≠ y) : (bif (x != y) then a else b) = a := by rw [show (x != y) = true from by simpa using h]; rfl
theorem cnn {α : Type} {x y : Int} {a b : α} (h : x = y) : (bif (x != y) then a else b) = b := by simp [bne, h]
theorem cep {α : Type} {x y : Int} {a b : α} (h : x = y) : (bif (x == y) then a else b) = a := by simp [h]
theorem cen {α : Type} {x y : Int} {a b : α} (h : x ≠ y) : (bif (x == y) then a else b) = b := by rw [show (x == y) = false from by simpa using h]; rfl
theorem cond_some {α : Type} (c : Bool) (x y : α) : (bif c then some x else some y) = some (bif c then x else y) := by cases c <;> rfl
theorem cond_and (c x : Bool) : (bif c then x else false) = (c && x) := by cases c <;> rfl
theorem dand (p q : Prop) [Decidable p] [Decidable q] : (decide p && decide q) = decide (p ∧ q) := by by_cases p <;> by_cases q <;> simp_all
theorem w64 {n : Int} (h0 : -9223372036854775808 ≤ n) (h1 : n < 9223372036854775808) : IntKind.i64.wrap n = n := by rw [IntKind.wrap_i64]; omega
theorem u64_mod (n : Int) : IntKind.u64.wrap n = n % 18446744073709551616 := by simp [IntKind.wrap, IntKind.bits, IntKind.signed]
theorem u64w {n : Int} (h0 : 0 ≤ n) (h1 : n < 18446744073709551616) : IntKind.u64.wrap n = n := by rw [u64_mod]; omega
theorem u8_mod (n : Int) : IntKind.u8.wrap n = n % 256 := by simp [IntKind.wrap, IntKind.bits, IntKind.signed]
theorem fu_ge (d : Nat) (h : d ≤ 1000000000000) : ∃ m, fu = d + 1 + m := ⟨fu - d - 1, by rw [fu_eq]; omega⟩
theorem nthI_nat {α : Type} (xs : List α) (i : Nat) (d : α) : nthI xs (i : Int) d = xs.getD i d := rfl
theorem nthI_mem {α : Type} (a : List α) (i : Nat) (d : α) (h : i < a.length) : nthI a (i : Int) d ∈ a := by
  rw [nthI_nat, List.getD_eq_getElem?_getD, List.getElem?_eq_getElem h]; simp
theorem nthI_set {α : Type} (xs : List α) (i : Nat) (y d : α) (h : i < xs.length) : nthI (xs.set i y) (i : Int) d = y := by
  rw [nthI_nat, List.getD_eq_getElem?_getD, List.getElem?_set_self h]; rfl
theorem drop_at {α : Type} (xs : List α) (i : Nat) (d : α) (h : i < xs.length) : xs.drop i = nthI xs (i : Int) d :: xs.drop (i + 1) := by
  rw [nthI_nat, List.getD_eq_getElem?_getD, List.getElem?_eq_getElem h]; exact List.drop_eq_getElem_cons h
theorem cneI {x y : Int} {k : Option Bool} : (bif (x != y) then some false else k) = bif decide (x = y) then k else some false := by
  by_cases h : x = y
  · rw [cnn h, cdp h]
  · rw [cnp h, cdn h]
theorem cneB {x y : Bool} {k : Option Bool} : (bif (!(x == y)) then some false else k) = bif decide (x = y) then k else some false := by
  cases x <;> cases y <;> rfl
theorem cbeB {x y : Bool} {k : Option Bool} : (bif (x == y) then k else some false) = bif decide (x = y) then k else some false := by cases x <;> cases y <;> rfl
theorem cnotb {r : Bool} {k : Option Bool} : (bif (!r) then some false else k) = bif r then k else some false := by cases r <;> rfl
theorem cds {p q : Prop} [Decidable p] [Decidable q] : (bif decide p then some (decide q) else some false) = some (decide (p ∧ q)) := by
  by_cases p <;> by_cases q <;> simp_all
theorem cdt {p : Prop} [Decidable p] : (bif decide p then some true else some false) = some (decide p) := by by_cases p <;> simp_all
theorem sdec {p q : Prop} [Decidable p] [Decidable q] (h : q ↔ p) : some (decide q) = some (decide p) := congrArg some (decide_eq_decide.mpr h)
theorem sfal {p : Prop} [Decidable p] (h : ¬ p) : some false = some (decide p) := by rw [decide_eq_false h]
theorem sbool {b : Bool} {p : Prop} [Decidable p] (h : b = true ↔ p) : some b = some (decide p) := by
  by_cases c : p
  · rw [h.2 c, decide_eq_true c]
  · rw [decide_eq_false c, Bool.eq_false_iff.2 fun e => c (h.1 e)]
theorem sum_mem {l : List Nat} {x : Nat} (h : x ∈ l) : x ≤ l.sum := by
  induction l with
  | nil => cases h
  | cons y l ih =>
    rw [List.sum_cons]
    rcases List.mem_cons.1 h with rfl | h
    · omega
    · have := ih h; omega
theorem toLoop {α : Type} (F : Nat → Int → List α → Option (List α)) (a : List α) (d : α) (hn : a.length ≤ 1000000000000)
    (hs : ∀ (i m : Nat) (xs : List α), i < a.length → xs.length = a.length → F (m + 1) (i : Int) xs = F m ((i + 1 : Nat) : Int) (xs.set i (nthI a (i : Int) d)))
    (he : ∀ (m : Nat) (xs : List α), F (m + 1) (a.length : Int) xs = some xs) (xs : List α) (hx : xs.length = a.length) : F fu 0 xs = some a := by
  obtain ⟨M, hM⟩ := fu_ge a.length hn
  have h1 : ∀ k i : Nat, ∀ xs : List α, xs.length = a.length → i ≤ a.length → a.length - i = k → xs.take i = a.take i → F (k + 1 + M) (i : Int) xs = some a := by
    intro k
    induction k with
    | zero =>
      intro i xs hx hi hd ht
      obtain rfl : i = a.length := by omega
      rw [List.take_of_length_le (by omega), List.take_of_length_le (by omega)] at ht
      subst ht
      rw [show 0 + 1 + M = M + 1 from by omega]
      exact he M xs
    | succ k ih =>
      intro i xs hx hi hd ht
      have hi2 : i < a.length := by omega
      rw [show k + 1 + 1 + M = (k + 1 + M) + 1 from by omega, hs i _ xs hi2 hx]
      refine ih (i + 1) _ (by simpa using hx) (by omega) (by omega) ?_
      rw [nthI_nat, List.getD_eq_getElem?_getD, List.getElem?_eq_getElem hi2, Option.getD_some, List.take_add_one, List.take_add_one, List.take_set_of_le (Nat.le_refl i), ht]
      simp [show i < xs.length from by omega, hi2]
  rw [hM]
  exact h1 a.length 0 xs hx (by omega) (by omega) (by simp)
theorem eqLoop {α : Type} [DecidableEq α] (F : Nat → Int → Option Bool) (a b : List α) (d : α) (hl : a.length = b.length) (hn : a.length ≤ 1000000000000)
    (hs : ∀ (i m : Nat), i < a.length → F (m + 1) (i : Int) = bif decide (nthI a (i : Int) d = nthI b (i : Int) d) then F m ((i + 1 : Nat) : Int) else some false)
    (he : ∀ m : Nat, F (m + 1) (a.length : Int) = some true) : F fu 0 = some (decide (a = b)) := by
  obtain ⟨M, hM⟩ := fu_ge a.length hn
  have h1 : ∀ k i : Nat, i ≤ a.length → a.length - i = k → F (k + 1 + M) (i : Int) = some (decide (a.drop i = b.drop i)) := by
    intro k
    induction k with
    | zero =>
      intro i hi hd
      obtain rfl : i = a.length := by omega
      rw [show 0 + 1 + M = M + 1 from by omega, he, List.drop_of_length_le (by omega), List.drop_of_length_le (by omega)]
      simp
    | succ k ih =>
      intro i hi hd
      rw [show k + 1 + 1 + M = (k + 1 + M) + 1 from by omega, hs i _ (by omega), drop_at a i d (by omega), drop_at b i d (by omega), ih (i + 1) (by omega) (by omega)]
      by_cases e : nthI a (i : Int) d = nthI b (i : Int) d
      · rw [cdp e, e]
        generalize nthI b (i : Int) d = x
        simp
      · rw [cdn e]
        generalize nthI b (i : Int) d = x at *
        generalize nthI a (i : Int) d = y at *
        simp [e]
  rw [hM]
  simpa using h1 a.length 0 (by omega) (by omega)
theorem eqTop {α : Type} [DecidableEq α] (a b : List α) {k : Option Bool} (h : a.length = b.length → k = some (decide (a = b))) : (bif ((a.length : Int) != (b.length : Int)) then some false else k) = some (decide (a = b)) := by
  by_cases e : a.length = b.length
  · rw [cnn (by omega), h e]
  · rw [cnp (by omega), decide_eq_false (fun h => e (by rw [h]))]
theorem szLoop {α : Type} (F : Nat → Int → Int → Option Int) (a : List α) (d : α) (c : α → Nat) (hn : a.length ≤ 1000000000000)
    (hs : ∀ (i m : Nat) (l : Int), i < a.length → 0 ≤ l → l ≤ 1000000000000 → F (m + 1) l (i : Int) = if (c (nthI a (i : Int) d) : Int) ≤ l then F m (l - (c (nthI a (i : Int) d) : Int)) ((i + 1 : Nat) : Int) else some (-1))
    (he : ∀ (m : Nat) (l : Int), F (m + 1) l (a.length : Int) = some l) (l : Int) (h0 : 0 ≤ l) (h1 : l ≤ 1000000000000) : F fu l 0 = some (if (((a.map c).sum : Nat) : Int) ≤ l then l - (((a.map c).sum : Nat) : Int) else -1) := by
  obtain ⟨M, hM⟩ := fu_ge a.length hn
  have h2 : ∀ k i : Nat, ∀ l : Int, 0 ≤ l → l ≤ 1000000000000 → i ≤ a.length → a.length - i = k → F (k + 1 + M) l (i : Int) = some (if ((((a.drop i).map c).sum : Nat) : Int) ≤ l then l - ((((a.drop i).map c).sum : Nat) : Int) else -1) := by
    intro k
    induction k with
    | zero =>
      intro i l h0 h1 hi hd
      obtain rfl : i = a.length := by omega
      rw [show 0 + 1 + M = M + 1 from by omega, he, List.drop_of_length_le (by omega)]
      simp [h0]
    | succ k ih =>
      intro i l h0 h1 hi hd
      rw [show k + 1 + 1 + M = (k + 1 + M) + 1 from by omega, hs i _ l (by omega) h0 h1, drop_at a i d (by omega), List.map_cons, List.sum_cons]
      by_cases e : (c (nthI a (i : Int) d) : Int) ≤ l
      · rw [if_pos e, ih (i + 1) _ (by omega) (by omega) (by omega) (by omega)]
        congr 1
        split <;> split <;> omega
      · rw [if_neg e, if_neg (by omega)]
  rw [hM]
  simpa using h2 a.length 0 l h0 h1 (by omega) (by omega)
def markAll {α : Type} (m1 : Int → α → α) (w1 : α → Nat) : Int → List α → List α
  | _, [] => []
  | k, x :: xs => m1 k x :: markAll m1 w1 (k + (w1 x : Int)) xs
theorem markAll_length {α : Type} (m1 : Int → α → α) (w1 : α → Nat) : ∀ (a : List α) (k : Int), (markAll m1 w1 k a).length = a.length
  | [], _ => rfl
  | x :: xs, k => by simp [markAll, markAll_length m1 w1 xs]
theorem cmod3 : decide ((3 : Int) = 0) = false := rfl
theorem markLoop {α : Type} (F : Nat → Int → Int → List α → Option (Int × List α)) (m1 : Int → α → α) (w1 : α → Nat) (a : List α) (d : α) (nl : Nat) (hw : ∀ x, w1 x = nl) {k : Int} (h0 : 0 ≤ k) (hn : a.length ≤ 1000000000000) (hc : k + (nl : Int) * (a.length : Int) ≤ 1000000000000)
    (hs : ∀ (i m : Nat) (k : Int) (xs : List α), i < a.length → xs.length = a.length → 0 ≤ k → k + (nl : Int) ≤ 1000000000000 → F (m + 1) k (i : Int) xs = F m (k + (nl : Int)) ((i + 1 : Nat) : Int) (xs.set i (m1 k (nthI xs (i : Int) d))))
    (he : ∀ (m : Nat) (k : Int) (xs : List α), xs.length = a.length → F (m + 1) k (a.length : Int) xs = some (k, xs)) : F fu k 0 a = some (k + (nl : Int) * (a.length : Int), markAll m1 w1 k a) := by
  obtain ⟨M, hM⟩ := fu_ge a.length hn
  have h1 : ∀ q i : Nat, ∀ (k : Int) (xs : List α), xs.length = a.length → i ≤ a.length → a.length - i = q → 0 ≤ k → k + (nl : Int) * (q : Int) ≤ 1000000000000 → F (q + 1 + M) k (i : Int) xs = some (k + (nl : Int) * (q : Int), xs.take i ++ markAll m1 w1 k (xs.drop i)) := by
    intro q
    induction q with
    | zero =>
      intro i k xs hx hi hd h0 hc
      obtain rfl : i = a.length := by omega
      rw [show 0 + 1 + M = M + 1 from by omega, he _ _ _ hx, List.take_of_length_le (by omega), List.drop_of_length_le (by omega)]
      simp [markAll]
    | succ q ih =>
      intro i k xs hx hi hd h0 hc
      have e : (nl : Int) * ((q + 1 : Nat) : Int) = (nl : Int) * (q : Int) + nl := by rw [Int.natCast_add, Int.mul_add]; simp
      have hq : 0 ≤ (nl : Int) * (q : Int) := Int.mul_nonneg (by omega) (by omega)
      rw [e] at hc ⊢
      rw [show q + 1 + 1 + M = (q + 1 + M) + 1 from by omega, hs i _ k xs (by omega) hx h0 (by omega), ih (i + 1) _ _ (by simpa using hx) (by omega) (by omega) (by omega) (by omega), drop_at xs i d (by omega), markAll, hw]
      have hi2 : i < xs.length := by omega
      rw [List.take_add_one, List.getElem?_set_self hi2, List.take_set_of_le (Nat.le_refl i), List.drop_set_of_lt (by omega)]
      simp
      omega
  rw [hM]
  have := h1 a.length 0 k a rfl (by omega) (by omega) h0 hc
  simpa using this
theorem markAll_nth {α : Type} (m1 : Int → α → α) (w1 : α → Nat) (nl : Nat) (hw : ∀ x, w1 x = nl) (d : α) : ∀ (a : List α) (k : Int) (i : Nat), i < a.length → nthI (markAll m1 w1 k a) (i : Int) d = m1 (k + (nl : Int) * (i : Int)) (nthI a (i : Int) d)
  | [], _, i, h => by simp at h
  | x :: xs, k, 0, _ => by simp [markAll, nthI]
  | x :: xs, k, i + 1, h => by
    have := markAll_nth m1 w1 nl hw d xs (k + (w1 x : Int)) i (by simpa using h)
    rw [nthI_nat, nthI_nat] at this ⊢
    rw [markAll, List.getD_cons_succ, List.getD_cons_succ, this, hw, Int.natCast_add, Int.mul_add]
    congr 1
    omega
theorem heldLoop {α : Type} (F : Nat → Int → Int → Option Int) (m1 : Int → α → α) (w1 : α → Nat) (a : List α) (d : α) (nl : Nat) (hw : ∀ x, w1 x = nl) (k : Int) (h0 : 0 ≤ k) (hn : a.length ≤ 1000000000000) (hc : k + (nl : Int) * (a.length : Int) ≤ 1000000000000)
    (hs : ∀ (i m : Nat) (j : Int), i < a.length → 0 ≤ j → j + (nl : Int) ≤ 1000000000000 → nthI (markAll m1 w1 k a) (i : Int) d = m1 j (nthI a (i : Int) d) → F (m + 1) j (i : Int) = F m (j + (nl : Int)) ((i + 1 : Nat) : Int))
    (he : ∀ (m : Nat) (j : Int), F (m + 1) j (a.length : Int) = some j) : F fu k 0 = some (k + (nl : Int) * (a.length : Int)) := by
  obtain ⟨M, hM⟩ := fu_ge a.length hn
  have h1 : ∀ q i : Nat, i ≤ a.length → a.length - i = q → F (q + 1 + M) (k + (nl : Int) * (i : Int)) (i : Int) = some (k + (nl : Int) * (a.length : Int)) := by
    intro q
    induction q with
    | zero =>
      intro i hi hd
      obtain rfl : i = a.length := by omega
      rw [show 0 + 1 + M = M + 1 from by omega, he]
    | succ q ih =>
      intro i hi hd
      have e : (nl : Int) * ((i + 1 : Nat) : Int) = (nl : Int) * (i : Int) + nl := by rw [Int.natCast_add, Int.mul_add]; simp
      have hq : 0 ≤ (nl : Int) * (i : Int) := Int.mul_nonneg (by omega) (by omega)
      have hle : (nl : Int) * ((i + 1 : Nat) : Int) ≤ (nl : Int) * (a.length : Int) := Int.mul_le_mul_of_nonneg_left (by omega) (by omega)
      rw [show q + 1 + 1 + M = (q + 1 + M) + 1 from by omega, hs i _ _ (by omega) (by omega) (by omega) (markAll_nth m1 w1 nl hw d a k i (by omega))]
      have := ih (i + 1) (by omega) (by omega)
      rw [e] at this
      rw [show k + (nl : Int) * (i : Int) + (nl : Int) = k + ((nl : Int) * (i : Int) + (nl : Int)) from by omega]
      exact this
  rw [hM]
  have := h1 a.length 0 (by omega) (by omega)
  simpa using this
theorem allLoop (F : Nat → Int → Option Bool) (n : Nat) (p : Nat → Prop) [DecidablePred p] (e : Bool) (hn : n ≤ 1000000000000)
    (hs : ∀ (i m : Nat), i < n → F (m + 1) (i : Int) = bif decide (p i) then F m ((i + 1 : Nat) : Int) else some false)
    (he : ∀ m : Nat, F (m + 1) (n : Int) = some e) : F fu 0 = some (decide (∀ j, j < n → p j) && e) := by
  obtain ⟨M, hM⟩ := fu_ge n hn
  have h1 : ∀ k i : Nat, i + k = n → (∀ j, j < i → p j) → F (k + 1 + M) (i : Int) = some (decide (∀ j, j < n → p j) && e) := by
    intro k
    induction k with
    | zero =>
      intro i hi hp
      obtain rfl : i = n := by omega
      rw [show 0 + 1 + M = M + 1 from by omega, he, decide_eq_true hp]
      rfl
    | succ k ih =>
      intro i hi hp
      rw [show k + 1 + 1 + M = (k + 1 + M) + 1 from by omega, hs i _ (by omega)]
      by_cases c : p i
      · rw [cdp c]
        refine ih (i + 1) (by omega) fun j hj => ?_
        rcases Nat.lt_or_ge j i with h | h
        · exact hp j h
        · obtain rfl : j = i := by omega
          exact c
      · rw [cdn c, decide_eq_false fun h => c (h i (by omega))]
        rfl
  rw [hM]
  exact h1 n 0 (by omega) fun j hj => by omega
theorem allLoopK (F : Nat → Int → Option Bool) (n : Nat) (p : Nat → Prop) [DecidablePred p] (E : Option Bool) (hn : n ≤ 1000000000000)
    (hs : ∀ (i m : Nat), i < n → F (m + 1) (i : Int) = bif decide (p i) then F m ((i + 1 : Nat) : Int) else some false)
    (he : ∀ m : Nat, F (m + 1) (n : Int) = E) : F fu 0 = if ∀ j, j < n → p j then E else some false := by
  obtain ⟨M, hM⟩ := fu_ge n hn
  have h1 : ∀ k i : Nat, i + k = n → (∀ j, j < i → p j) → F (k + 1 + M) (i : Int) = if ∀ j, j < n → p j then E else some false := by
    intro k
    induction k with
    | zero =>
      intro i hi hp
      obtain rfl : i = n := by omega
      rw [show 0 + 1 + M = M + 1 from by omega, he, if_pos hp]
    | succ k ih =>
      intro i hi hp
      rw [show k + 1 + 1 + M = (k + 1 + M) + 1 from by omega, hs i _ (by omega)]
      by_cases c : p i
      · rw [cdp c]
        refine ih (i + 1) (by omega) fun j hj => ?_
        rcases Nat.lt_or_ge j i with h | h
        · exact hp j h
        · obtain rfl : j = i := by omega
          exact c
      · rw [cdn c, if_neg fun h => c (h i (by omega))]
  rw [hM]
  exact h1 n 0 (by omega) fun j hj => by omega
theorem dlt0 {x : Int} (h : 0 ≤ x) : decide (x < 0) = false := decide_eq_false (by omega)
theorem markLoopW {α : Type} (F : Nat → Int → Int → List α → Option (Int × List α)) (m1 : Int → α → α) (w1 : α → Nat) (a : List α) (d : α) {k : Int} (h0 : 0 ≤ k) (hn : a.length ≤ 1000000000000) (hc : k + (((a.map w1).sum : Nat) : Int) ≤ 1000000000000)
    (hs : ∀ (i m : Nat) (k : Int) (xs : List α), i < a.length → xs.length = a.length → 0 ≤ k → k + ((w1 (nthI xs (i : Int) d) : Nat) : Int) ≤ 1000000000000 → F (m + 1) k (i : Int) xs = F m (k + ((w1 (nthI xs (i : Int) d) : Nat) : Int)) ((i + 1 : Nat) : Int) (xs.set i (m1 k (nthI xs (i : Int) d))))
    (he : ∀ (m : Nat) (k : Int) (xs : List α), xs.length = a.length → F (m + 1) k (a.length : Int) xs = some (k, xs)) : F fu k 0 a = some (k + (((a.map w1).sum : Nat) : Int), markAll m1 w1 k a) := by
  obtain ⟨M, hM⟩ := fu_ge a.length hn
  have h1 : ∀ q i : Nat, ∀ (k : Int) (xs : List α), xs.length = a.length → i ≤ a.length → a.length - i = q → 0 ≤ k → k + ((((xs.drop i).map w1).sum : Nat) : Int) ≤ 1000000000000 → F (q + 1 + M) k (i : Int) xs = some (k + ((((xs.drop i).map w1).sum : Nat) : Int), xs.take i ++ markAll m1 w1 k (xs.drop i)) := by
    intro q
    induction q with
    | zero =>
      intro i k xs hx hi hd h0 hc
      obtain rfl : i = a.length := by omega
      rw [show 0 + 1 + M = M + 1 from by omega, he _ _ _ hx, List.take_of_length_le (by omega), List.drop_of_length_le (by omega)]
      simp [markAll]
    | succ q ih =>
      intro i k xs hx hi hd h0 hc
      have hi2 : i < xs.length := by omega
      rw [drop_at xs i d hi2, List.map_cons, List.sum_cons] at hc ⊢
      rw [show q + 1 + 1 + M = (q + 1 + M) + 1 from by omega, hs i _ k xs (by omega) hx h0 (by omega)]
      have e : (xs.set i (m1 k (nthI xs (i : Int) d))).drop (i + 1) = xs.drop (i + 1) := List.drop_set_of_lt (by omega)
      rw [ih (i + 1) _ _ (by simpa using hx) (by omega) (by omega) (by omega) (by rw [e]; omega), e, markAll]
      rw [List.take_add_one, List.getElem?_set_self hi2, List.take_set_of_le (Nat.le_refl i)]
      simp
      omega
  rw [hM]
  have := h1 a.length 0 k a rfl (by omega) (by omega) h0 hc
  simpa using this
theorem markAll_nthW {α : Type} (m1 : Int → α → α) (w1 : α → Nat) (d : α) : ∀ (a : List α) (k : Int) (i : Nat), i < a.length → nthI (markAll m1 w1 k a) (i : Int) d = m1 (k + ((((a.take i).map w1).sum : Nat) : Int)) (nthI a (i : Int) d)
  | [], _, i, h => by simp at h
  | x :: xs, k, 0, _ => by simp [markAll, nthI]
  | x :: xs, k, i + 1, h => by
    have := markAll_nthW m1 w1 d xs (k + (w1 x : Int)) i (by simpa using h)
    rw [nthI_nat, nthI_nat] at this ⊢
    rw [markAll, List.getD_cons_succ, List.getD_cons_succ, this, List.take_succ_cons, List.map_cons, List.sum_cons]
    congr 1
    omega
theorem sum_take_succ {α : Type} (w1 : α → Nat) (d : α) (a : List α) (i : Nat) (h : i < a.length) : ((a.take (i + 1)).map w1).sum = ((a.take i).map w1).sum + w1 (nthI a (i : Int) d) := by
  rw [List.take_add_one, List.map_append, List.sum_append, nthI_nat, List.getD_eq_getElem?_getD, List.getElem?_eq_getElem h]
  simp
theorem sum_take_le {α : Type} (w1 : α → Nat) (a : List α) (i : Nat) : ((a.take i).map w1).sum ≤ (a.map w1).sum := by
  have : (a.map w1).sum = ((a.take i).map w1).sum + ((a.drop i).map w1).sum := by rw [← List.sum_append, ← List.map_append, List.take_append_drop]
  omega
theorem heldLoopW {α : Type} (F : Nat → Int → Int → Option Int) (m1 : Int → α → α) (w1 : α → Nat) (a : List α) (d : α) (k : Int) (h0 : 0 ≤ k) (hn : a.length ≤ 1000000000000) (hc : k + (((a.map w1).sum : Nat) : Int) ≤ 1000000000000)
    (hs : ∀ (i m : Nat) (j : Int), i < a.length → 0 ≤ j → j + ((w1 (nthI a (i : Int) d) : Nat) : Int) ≤ 1000000000000 → nthI (markAll m1 w1 k a) (i : Int) d = m1 j (nthI a (i : Int) d) → F (m + 1) j (i : Int) = F m (j + ((w1 (nthI a (i : Int) d) : Nat) : Int)) ((i + 1 : Nat) : Int))
    (he : ∀ (m : Nat) (j : Int), F (m + 1) j (a.length : Int) = some j) : F fu k 0 = some (k + (((a.map w1).sum : Nat) : Int)) := by
  obtain ⟨M, hM⟩ := fu_ge a.length hn
  have h1 : ∀ q i : Nat, i ≤ a.length → a.length - i = q → F (q + 1 + M) (k + ((((a.take i).map w1).sum : Nat) : Int)) (i : Int) = some (k + (((a.map w1).sum : Nat) : Int)) := by
    intro q
    induction q with
    | zero =>
      intro i hi hd
      obtain rfl : i = a.length := by omega
      rw [show 0 + 1 + M = M + 1 from by omega, he, List.take_of_length_le (Nat.le_refl _)]
    | succ q ih =>
      intro i hi hd
      have hi2 : i < a.length := by omega
      have e := sum_take_succ w1 d a i hi2
      have hle := sum_take_le w1 a (i + 1)
      rw [show q + 1 + 1 + M = (q + 1 + M) + 1 from by omega, hs i _ _ hi2 (by omega) (by omega) (markAll_nthW m1 w1 d a k i hi2)]
      have := ih (i + 1) (by omega) (by omega)
      rw [e] at this
      rw [show k + ((((a.take i).map w1).sum : Nat) : Int) + ((w1 (nthI a (i : Int) d) : Nat) : Int) = k + ((((a.take i).map w1).sum + w1 (nthI a (i : Int) d) : Nat) : Int) from by omega]
      exact this
  rw [hM]
  have := h1 a.length 0 (by omega) (by omega)
  simpa using this
def bInt (x : Int) : Prop := (Lit.int .i64 x).wf = true
theorem szIntS_eq (left : Int) (a : List Int) (h0 : 0 ≤ left) (h1 : left ≤ 1000000000000) (hm : a.length ≤ maxLen ∧ ∀ x ∈ a, bInt x) : L.szIntS left a = some (if ((a.length : Nat) : Int) ≤ left then left - ((a.length : Nat) : Int) else -1) := by
  have hl : a.length ≤ 9223372036854775807 := hm.1
  unfold L.szIntS
  simp only []
  rw [w64 (by omega) (by omega)]
  by_cases h : ((a.length : Nat) : Int) ≤ left
  · rw [cdn (by omega), if_pos h]
  · rw [cdp (by omega), if_neg h]
abbrev TPane : Type := Int × Int × Int × Int × Int × Int × List Int × Bool
instance : DecidableEq TPane := (@instDecidableEqProd _ _ (inferInstance : DecidableEq Int) (@instDecidableEqProd _ _ (inferInstance : DecidableEq Int) (@instDecidableEqProd _ _ (inferInstance : DecidableEq Int) (@instDecidableEqProd _ _ (inferInstance : DecidableEq Int) (@instDecidableEqProd _ _ (inferInstance : DecidableEq Int) (@instDecidableEqProd _ _ (inferInstance : DecidableEq Int) (@instDecidableEqProd _ _ (inferInstance : DecidableEq (List Int)) (inferInstance : DecidableEq Bool))))))))
def cPane (x : TPane) : Nat := (x.2.2.2.2.2.2.1).length
def bPane (x : TPane) : Prop := ((Lit.int .i64 x.1).wf = true ∧ (Lit.int .i64 x.2.1).wf = true ∧ (Lit.int .i64 x.2.2.1).wf = true ∧ (Lit.int .i64 x.2.2.2.1).wf = true ∧ (Lit.int .i64 x.2.2.2.2.1).wf = true ∧ (Lit.int .i64 x.2.2.2.2.2.1).wf = true ∧ (x.2.2.2.2.2.2.1.length ≤ maxLen ∧ ∀ y ∈ x.2.2.2.2.2.2.1, bInt y) ∧ True)
theorem szPane_eq (x : TPane) (left : Int) (h0 : 0 ≤ left) (h1 : left ≤ 1000000000000) (hb : bPane x) : L.szPane x.1 x.2.1 x.2.2.1 x.2.2.2.1 x.2.2.2.2.1 x.2.2.2.2.2.1 x.2.2.2.2.2.2.2 left x.2.2.2.2.2.2.1 = some (if (cPane x : Int) ≤ left then left - (cPane x : Int) else -1) := by
  unfold bPane at hb
  unfold L.szPane cPane
  rw [szIntS_eq _ x.2.2.2.2.2.2.1 (by omega) (by omega) hb.2.2.2.2.2.2.1, Option.bind_some]
  by_cases h0 : (((x.2.2.2.2.2.2.1).length : Nat) : Int) ≤ left
  · first
      | (rw [if_pos h0, cdn (by omega)]; done)
      | (rw [if_pos h0, cdn (by omega), if_pos (by omega)]; congr 1; omega)
  · first | (rw [if_neg h0, cdp (by omega)]; done) | rw [if_neg h0, cdp (by omega), if_neg (by omega)]
abbrev TItem : Type := Int × Int × TPane
instance : DecidableEq TItem := (@instDecidableEqProd _ _ (inferInstance : DecidableEq Int) (@instDecidableEqProd _ _ (inferInstance : DecidableEq Int) (inferInstance : DecidableEq TPane)))
def cItem (x : TItem) : Nat := (x.2.2.2.2.2.2.2.2.1).length
def cItemS (a : List TItem) : Nat := a.length + (a.map cItem).sum
theorem cItemS_mem {a : List TItem} {x : TItem} (h : x ∈ a) : cItem x ≤ cItemS a := by
  have := sum_mem (List.mem_map.2 ⟨x, h, rfl⟩ : cItem x ∈ a.map cItem)
  unfold cItemS; omega
def bItem (x : TItem) : Prop := ((Lit.int .i64 x.1).wf = true ∧ (Lit.int .i64 x.2.1).wf = true ∧ ((Lit.int .i64 x.2.2.1).wf = true ∧ (Lit.int .i64 x.2.2.2.1).wf = true ∧ (Lit.int .i64 x.2.2.2.2.1).wf = true ∧ (Lit.int .i64 x.2.2.2.2.2.1).wf = true ∧ (Lit.int .i64 x.2.2.2.2.2.2.1).wf = true ∧ (Lit.int .i64 x.2.2.2.2.2.2.2.1).wf = true ∧ (x.2.2.2.2.2.2.2.2.1.length ≤ maxLen ∧ ∀ y ∈ x.2.2.2.2.2.2.2.2.1, bInt y) ∧ True))
theorem szItem_eq (x : TItem) (left : Int) (h0 : 0 ≤ left) (h1 : left ≤ 1000000000000) (hb : bItem x) : L.szItem x.1 x.2.1 x.2.2.1 x.2.2.2.1 x.2.2.2.2.1 x.2.2.2.2.2.1 x.2.2.2.2.2.2.1 x.2.2.2.2.2.2.2.1 x.2.2.2.2.2.2.2.2.2 left x.2.2.2.2.2.2.2.2.1 = some (if (cItem x : Int) ≤ left then left - (cItem x : Int) else -1) := by
  unfold bItem at hb
  unfold L.szItem cItem
  rw [szPane_eq x.2.2 _ (by omega) (by omega) hb.2.2, Option.bind_some]
  unfold cPane
  by_cases h0 : (((x.2.2.2.2.2.2.2.2.1).length : Nat) : Int) ≤ left
  · first
      | (rw [if_pos h0, cdn (by omega)]; done)
      | (rw [if_pos h0, cdn (by omega), if_pos (by omega)]; congr 1; omega)
  · first | (rw [if_neg h0, cdp (by omega)]; done) | rw [if_neg h0, cdp (by omega), if_neg (by omega)]
theorem szItemS_eq (left : Int) (a : List TItem) (h0 : 0 ≤ left) (h1 : left ≤ 1000000000000) (hm : a.length ≤ maxLen ∧ ∀ x ∈ a, bItem x) : L.szItemS left a = some (if ((cItemS a : Nat) : Int) ≤ left then left - ((cItemS a : Nat) : Int) else -1) := by
  have hl : a.length ≤ 9223372036854775807 := hm.1
  unfold L.szItemS
  simp only []
  rw [w64 (by omega) (by omega)]
  by_cases h : ((a.length : Nat) : Int) ≤ left
  · rw [cdn (by omega)]
    have := szLoop (fun m l i => L.szItemS_l0 m (fun y14 y15 => some y15) (fun y16 => some y16) l i a) a ((0 : Int), ((0 : Int), ((0 : Int), ((0 : Int), ((0 : Int), ((0 : Int), ((0 : Int), ((0 : Int), ([], false))))))))) cItem (by omega) (fun i m l hi h0 h1 => ?_) (fun m l => ?_) (left - (a.length : Int)) (by omega) (by omega)
    · refine this.trans ?_
      unfold cItemS
      congr 1
      split <;> split <;> omega
    · show L.szItemS_l0 (m + 1) _ _ _ _ _ = _
      rw [L.szItemS_l0, cdp (by omega), cdp (by omega), szItem_eq (nthI a (i : Int) ((0 : Int), ((0 : Int), ((0 : Int), ((0 : Int), ((0 : Int), ((0 : Int), ((0 : Int), ((0 : Int), ([], false)))))))))) l h0 h1 (hm.2 _ (nthI_mem a i _ hi)), Option.bind_some]
      split
      · rw [cdn (by omega), w64 (by omega) (by omega)]; rfl
      · rw [cdp (by omega)]
    · show L.szItemS_l0 (m + 1) _ _ _ _ _ = _
      rw [L.szItemS_l0, cdn (by omega)]
  · rw [cdp (by omega), if_neg (by unfold cItemS; omega)]
abbrev TRec : Type := Int × Int × Int
instance : DecidableEq TRec := (@instDecidableEqProd _ _ (inferInstance : DecidableEq Int) (@instDecidableEqProd _ _ (inferInstance : DecidableEq Int) (inferInstance : DecidableEq Int)))
def bRec (x : TRec) : Prop := ((Lit.int .i64 x.1).wf = true ∧ (Lit.int .i64 x.2.1).wf = true ∧ (Lit.int .i64 x.2.2).wf = true)
theorem szRecS_eq (left : Int) (a : List TRec) (h0 : 0 ≤ left) (h1 : left ≤ 1000000000000) (hm : a.length ≤ maxLen ∧ ∀ x ∈ a, bRec x) : L.szRecS left a = some (if ((a.length : Nat) : Int) ≤ left then left - ((a.length : Nat) : Int) else -1) := by
  have hl : a.length ≤ 9223372036854775807 := hm.1
  unfold L.szRecS
  simp only []
  rw [w64 (by omega) (by omega)]
  by_cases h : ((a.length : Nat) : Int) ≤ left
  · rw [cdn (by omega), if_pos h]
  · rw [cdp (by omega), if_neg h]
abbrev TBox : Type := Int × Int × Int × Int × List TItem × List TRec
instance : DecidableEq TBox := (@instDecidableEqProd _ _ (inferInstance : DecidableEq Int) (@instDecidableEqProd _ _ (inferInstance : DecidableEq Int) (@instDecidableEqProd _ _ (inferInstance : DecidableEq Int) (@instDecidableEqProd _ _ (inferInstance : DecidableEq Int) (@instDecidableEqProd _ _ (inferInstance : DecidableEq (List TItem)) (inferInstance : DecidableEq (List TRec)))))))
def cBox (x : TBox) : Nat := cItemS x.2.2.2.2.1 + (x.2.2.2.2.2).length
def bBox (x : TBox) : Prop := ((Lit.int .i64 x.1).wf = true ∧ (Lit.int .i64 x.2.1).wf = true ∧ (Lit.int .i64 x.2.2.1).wf = true ∧ (Lit.int .i64 x.2.2.2.1).wf = true ∧ (x.2.2.2.2.1.length ≤ maxLen ∧ ∀ y ∈ x.2.2.2.2.1, bItem y) ∧ (x.2.2.2.2.2.length ≤ maxLen ∧ ∀ y ∈ x.2.2.2.2.2, bRec y))
theorem szBox_eq (x : TBox) (left : Int) (h0 : 0 ≤ left) (h1 : left ≤ 1000000000000) (hb : bBox x) : L.szBox x.1 x.2.1 x.2.2.1 x.2.2.2.1 left x.2.2.2.2.1 x.2.2.2.2.2 = some (if (cBox x : Int) ≤ left then left - (cBox x : Int) else -1) := by
  unfold bBox at hb
  unfold L.szBox cBox
  rw [szItemS_eq _ x.2.2.2.2.1 (by omega) (by omega) hb.2.2.2.2.1, Option.bind_some]
  by_cases h0 : ((cItemS x.2.2.2.2.1 : Nat) : Int) ≤ left
  · rw [if_pos h0, cdn (by omega)]
    rw [szRecS_eq _ x.2.2.2.2.2 (by omega) (by omega) hb.2.2.2.2.2, Option.bind_some]
    by_cases h1 : (((x.2.2.2.2.2).length : Nat) : Int) ≤ left - ((cItemS x.2.2.2.2.1 : Nat) : Int)
    · first
        | (rw [if_pos h1, cdn (by omega)]; done)
        | (rw [if_pos h1, cdn (by omega), if_pos (by omega)]; congr 1; omega)
    · first | (rw [if_neg h1, cdp (by omega)]; done) | rw [if_neg h1, cdp (by omega), if_neg (by omega)]
  · first | (rw [if_neg h0, cdp (by omega)]; done) | rw [if_neg h0, cdp (by omega), if_neg (by omega)]
theorem toIntS_eq (a : List Int) (hc : a.length ≤ 1000000000000) : L.toIntS a = some a := by
  have hn := hc
  unfold L.toIntS
  simp only []
  rw [cdp (by omega)]
  refine toLoop (fun m i xs => L.toIntS_l0 m (fun y => some y) i a xs) a (0 : Int) hn (fun i m xs hi hx => ?_) (fun m xs => ?_) _ (by simp)
  · show L.toIntS_l0 (m + 1) _ _ _ _ = L.toIntS_l0 m _ _ _ _
    rw [L.toIntS_l0, cdp (by omega), cdp (by omega), cdp (by omega), w64 (by omega) (by omega)]
    rfl
  · show L.toIntS_l0 (m + 1) _ _ _ _ = _
    rw [L.toIntS_l0, cdn (by omega)]
theorem toPane_eq (x : TPane) (hc : cPane x ≤ 1000000000000) : L.toPane x.1 x.2.1 x.2.2.1 x.2.2.2.1 x.2.2.2.2.1 x.2.2.2.2.2.1 x.2.2.2.2.2.2.2 x.2.2.2.2.2.2.1 = some (x.1, x.2.1, x.2.2.1, x.2.2.2.1, x.2.2.2.2.1, x.2.2.2.2.2.1, x.2.2.2.2.2.2.2, x.2.2.2.2.2.2.1) := by
  unfold L.toPane
  unfold cPane at hc
  simp only [toIntS_eq x.2.2.2.2.2.2.1 (by omega), Option.bind_some]
theorem toItem_eq (x : TItem) (hc : cItem x ≤ 1000000000000) : L.toItem x.1 x.2.1 x.2.2.1 x.2.2.2.1 x.2.2.2.2.1 x.2.2.2.2.2.1 x.2.2.2.2.2.2.1 x.2.2.2.2.2.2.2.1 x.2.2.2.2.2.2.2.2.2 x.2.2.2.2.2.2.2.2.1 = some (x.1, x.2.1, x.2.2.1, x.2.2.2.1, x.2.2.2.2.1, x.2.2.2.2.2.1, x.2.2.2.2.2.2.1, x.2.2.2.2.2.2.2.1, x.2.2.2.2.2.2.2.2.2, x.2.2.2.2.2.2.2.2.1) := by
  unfold L.toItem
  unfold cItem at hc
  simp only [toPane_eq x.2.2 (by unfold cPane; omega), Option.bind_some]
theorem toItemS_eq (a : List TItem) (hc : cItemS a ≤ 1000000000000) : L.toItemS a = some a := by
  have hn : a.length ≤ 1000000000000 := by unfold cItemS at hc; omega
  unfold L.toItemS
  simp only []
  rw [cdp (by omega)]
  refine toLoop (fun m i xs => L.toItemS_l0 m (fun y => some y) i a xs) a ((0 : Int), ((0 : Int), ((0 : Int), ((0 : Int), ((0 : Int), ((0 : Int), ((0 : Int), ((0 : Int), ([], false))))))))) hn (fun i m xs hi hx => ?_) (fun m xs => ?_) _ (by simp)
  · show L.toItemS_l0 (m + 1) _ _ _ _ = L.toItemS_l0 m _ _ _ _
    rw [L.toItemS_l0, cdp (by omega), cdp (by omega), toItem_eq (nthI a (i : Int) ((0 : Int), ((0 : Int), ((0 : Int), ((0 : Int), ((0 : Int), ((0 : Int), ((0 : Int), ((0 : Int), ([], false)))))))))) (Nat.le_trans (cItemS_mem (nthI_mem a i _ hi)) hc), Option.bind_some, cdp (by omega), w64 (by omega) (by omega)]
    rfl
  · show L.toItemS_l0 (m + 1) _ _ _ _ = _
    rw [L.toItemS_l0, cdn (by omega)]
theorem toRec_eq (x : TRec) : L.toRec x.1 x.2.1 x.2.2 = some (x.1, x.2.1, x.2.2) := by
  rfl
theorem toRecS_eq (a : List TRec) (hc : a.length ≤ 1000000000000) : L.toRecS a = some a := by
  have hn := hc
  unfold L.toRecS
  simp only []
  rw [cdp (by omega)]
  refine toLoop (fun m i xs => L.toRecS_l0 m (fun y => some y) i a xs) a ((0 : Int), ((0 : Int), (0 : Int))) hn (fun i m xs hi hx => ?_) (fun m xs => ?_) _ (by simp)
  · show L.toRecS_l0 (m + 1) _ _ _ _ = L.toRecS_l0 m _ _ _ _
    rw [L.toRecS_l0, cdp (by omega), cdp (by omega), toRec_eq (nthI a (i : Int) ((0 : Int), ((0 : Int), (0 : Int)))), Option.bind_some, cdp (by omega), w64 (by omega) (by omega)]
    rfl
  · show L.toRecS_l0 (m + 1) _ _ _ _ = _
    rw [L.toRecS_l0, cdn (by omega)]
theorem toBox_eq (x : TBox) (hc : cBox x ≤ 1000000000000) : L.toBox x.1 x.2.1 x.2.2.1 x.2.2.2.1 x.2.2.2.2.1 x.2.2.2.2.2 = some (x.1, x.2.1, x.2.2.1, x.2.2.2.1, x.2.2.2.2.1, x.2.2.2.2.2) := by
  unfold L.toBox
  unfold cBox at hc
  simp only [toItemS_eq x.2.2.2.2.1 (by omega), toRecS_eq x.2.2.2.2.2 (by omega), Option.bind_some]
theorem eqIntS_eq (a b : List Int) (hc : a.length ≤ 1000000000000) : L.eqIntS a b = some (decide (a = b)) := by
  have hn := hc
  unfold L.eqIntS
  refine eqTop a b ?_
  intro hl
  refine eqLoop (fun m i => L.eqIntS_l0 m (fun y => some y) (some true) i a b) a b (0 : Int) hl hn (fun i m hi => ?_) (fun m => ?_)
  · show L.eqIntS_l0 (m + 1) _ _ _ _ _ = bif _ then L.eqIntS_l0 m _ _ _ _ _ else _
    rw [L.eqIntS_l0, cdp (by omega), cdp (by omega), cdp (by omega), cneI, w64 (by omega) (by omega)]
    rfl
  · show L.eqIntS_l0 (m + 1) _ _ _ _ _ = _
    rw [L.eqIntS_l0, cdn (by omega)]
theorem eqPane_eq (x y : TPane) (hc : cPane x ≤ 1000000000000) : L.eqPane x.1 x.2.1 x.2.2.1 x.2.2.2.1 x.2.2.2.2.1 x.2.2.2.2.2.1 x.2.2.2.2.2.2.2 y.1 y.2.1 y.2.2.1 y.2.2.2.1 y.2.2.2.2.1 y.2.2.2.2.2.1 y.2.2.2.2.2.2.2 x.2.2.2.2.2.2.1 y.2.2.2.2.2.2.1 = some (decide (x = y)) := by
  unfold cPane at hc
  unfold L.eqPane
  simp only [eqIntS_eq x.2.2.2.2.2.2.1 y.2.2.2.2.2.2.1 (by omega), cneI, cneB, cnotb, cbeB, cds, cdt, Option.bind_some]
  exact sdec ⟨fun h => (Prod.ext h.1 (Prod.ext h.2.1 (Prod.ext h.2.2.1 (Prod.ext h.2.2.2.1 (Prod.ext h.2.2.2.2.1 (Prod.ext h.2.2.2.2.2.1 (Prod.ext h.2.2.2.2.2.2.1 h.2.2.2.2.2.2.2))))))), by rintro rfl; exact ⟨rfl, rfl, rfl, rfl, rfl, rfl, rfl, rfl⟩⟩
theorem eqItem_eq (x y : TItem) (hc : cItem x ≤ 1000000000000) : L.eqItem x.1 x.2.1 x.2.2.1 x.2.2.2.1 x.2.2.2.2.1 x.2.2.2.2.2.1 x.2.2.2.2.2.2.1 x.2.2.2.2.2.2.2.1 x.2.2.2.2.2.2.2.2.2 y.1 y.2.1 y.2.2.1 y.2.2.2.1 y.2.2.2.2.1 y.2.2.2.2.2.1 y.2.2.2.2.2.2.1 y.2.2.2.2.2.2.2.1 y.2.2.2.2.2.2.2.2.2 x.2.2.2.2.2.2.2.2.1 y.2.2.2.2.2.2.2.2.1 = some (decide (x = y)) := by
  unfold cItem at hc
  unfold L.eqItem
  simp only [eqPane_eq x.2.2 y.2.2 (by unfold cPane; omega), cneI, cneB, cnotb, cbeB, cds, cdt, Option.bind_some]
  exact sdec ⟨fun h => (Prod.ext h.1 (Prod.ext h.2.1 h.2.2)), by rintro rfl; exact ⟨rfl, rfl, rfl⟩⟩
theorem eqItemS_eq (a b : List TItem) (hc : cItemS a ≤ 1000000000000) : L.eqItemS a b = some (decide (a = b)) := by
  have hn : a.length ≤ 1000000000000 := by unfold cItemS at hc; omega
  unfold L.eqItemS
  refine eqTop a b ?_
  intro hl
  refine eqLoop (fun m i => L.eqItemS_l0 m (fun y => some y) (some true) i a b) a b ((0 : Int), ((0 : Int), ((0 : Int), ((0 : Int), ((0 : Int), ((0 : Int), ((0 : Int), ((0 : Int), ([], false))))))))) hl hn (fun i m hi => ?_) (fun m => ?_)
  · show L.eqItemS_l0 (m + 1) _ _ _ _ _ = bif _ then L.eqItemS_l0 m _ _ _ _ _ else _
    rw [L.eqItemS_l0, cdp (by omega), cdp (by omega), cdp (by omega), eqItem_eq (nthI a (i : Int) ((0 : Int), ((0 : Int), ((0 : Int), ((0 : Int), ((0 : Int), ((0 : Int), ((0 : Int), ((0 : Int), ([], false)))))))))) (nthI b (i : Int) ((0 : Int), ((0 : Int), ((0 : Int), ((0 : Int), ((0 : Int), ((0 : Int), ((0 : Int), ((0 : Int), ([], false)))))))))) (Nat.le_trans (cItemS_mem (nthI_mem a i _ hi)) hc), Option.bind_some, cnotb, w64 (by omega) (by omega)]
    rfl
  · show L.eqItemS_l0 (m + 1) _ _ _ _ _ = _
    rw [L.eqItemS_l0, cdn (by omega)]
theorem eqRec_eq (x y : TRec) : L.eqRec x.1 x.2.1 x.2.2 y.1 y.2.1 y.2.2 = some (decide (x = y)) := by
  unfold L.eqRec
  simp only [cneI, cneB, cnotb, cbeB, cds, cdt, Option.bind_some]
  exact sdec ⟨fun h => (Prod.ext h.1 (Prod.ext h.2.1 h.2.2)), by rintro rfl; exact ⟨rfl, rfl, rfl⟩⟩
theorem eqRecS_eq (a b : List TRec) (hc : a.length ≤ 1000000000000) : L.eqRecS a b = some (decide (a = b)) := by
  have hn := hc
  unfold L.eqRecS
  refine eqTop a b ?_
  intro hl
  refine eqLoop (fun m i => L.eqRecS_l0 m (fun y => some y) (some true) i a b) a b ((0 : Int), ((0 : Int), (0 : Int))) hl hn (fun i m hi => ?_) (fun m => ?_)
  · show L.eqRecS_l0 (m + 1) _ _ _ _ _ = bif _ then L.eqRecS_l0 m _ _ _ _ _ else _
    rw [L.eqRecS_l0, cdp (by omega), cdp (by omega), cdp (by omega), eqRec_eq (nthI a (i : Int) ((0 : Int), ((0 : Int), (0 : Int)))) (nthI b (i : Int) ((0 : Int), ((0 : Int), (0 : Int)))), Option.bind_some, cnotb, w64 (by omega) (by omega)]
    rfl
  · show L.eqRecS_l0 (m + 1) _ _ _ _ _ = _
    rw [L.eqRecS_l0, cdn (by omega)]
theorem eqBox_eq (x y : TBox) (hc : cBox x ≤ 1000000000000) : L.eqBox x.1 x.2.1 x.2.2.1 x.2.2.2.1 y.1 y.2.1 y.2.2.1 y.2.2.2.1 x.2.2.2.2.1 x.2.2.2.2.2 y.2.2.2.2.1 y.2.2.2.2.2 = some (decide (x = y)) := by
  unfold cBox at hc
  unfold L.eqBox
  simp only [eqItemS_eq x.2.2.2.2.1 y.2.2.2.2.1 (by omega), eqRecS_eq x.2.2.2.2.2 y.2.2.2.2.2 (by omega), cneI, cneB, cnotb, cbeB, cds, cdt, Option.bind_some]
  exact sdec ⟨fun h => (Prod.ext h.1 (Prod.ext h.2.1 (Prod.ext h.2.2.1 (Prod.ext h.2.2.2.1 (Prod.ext h.2.2.2.2.1 h.2.2.2.2.2))))), by rintro rfl; exact ⟨rfl, rfl, rfl, rfl, rfl, rfl⟩⟩
def m1Int (k : Int) (_ : Int) : Int := k
def w1Int (_ : Int) : Nat := 1
def mIntS (k : Int) (a : List Int) : List Int := markAll m1Int w1Int k a
theorem markIntS_eq (k : Int) (a : List Int) (h0 : 0 ≤ k) (hc : k + 1 * (a.length : Int) ≤ 1000000000000) : L.markIntS k a = some (k + 1 * (a.length : Int), mIntS k a) := by
  unfold L.markIntS mIntS
  refine (markLoop (fun m k i xs => L.markIntS_l0 m (fun y12 y13 => some (y12, y13)) k i xs) m1Int w1Int a (0 : Int) 1 (fun _ => rfl) h0 (by omega) hc (fun i m k xs hi hx h0 h1 => ?_) (fun m k xs hx => ?_)).trans rfl
  · show L.markIntS_l0 (m + 1) _ _ _ _ = L.markIntS_l0 m _ _ _ _
    have hdec : decide ((0 : Int) ≤ (i : Int) ∧ (i : Int) < (xs.length : Int)) = true := by simp; omega
    rw [L.markIntS_l0, cdp (by omega)]
    simp (disch := omega) only [df1, df2, df3, hdec, cond_true, w64, u8_mod, u64w, List.length_set, nthI_set, List.set_set, Int.toNat_natCast, cmod3, Int.add_assoc, Int.reduceAdd, if_false, reduceIte]
    rfl
  · show L.markIntS_l0 (m + 1) _ _ _ _ = _
    rw [L.markIntS_l0, cdn (by omega)]
def m1Item (k : Int) (x : TItem) : TItem := (k, (k + 1, (k + 2, (k + 3, (k + 4, (k + 5, (k + 6, (k + 7, (mIntS (k + 8) x.2.2.2.2.2.2.2.2.1, (Int.tmod (k + (8 + 1 * ((x.2.2.2.2.2.2.2.2.1).length : Int))) 3 == 0))))))))))
def w1Item (x : TItem) : Nat := 9 + 1 * (x.2.2.2.2.2.2.2.2.1).length
def mItemS (k : Int) (a : List TItem) : List TItem := markAll m1Item w1Item k a
def wItemS (a : List TItem) : Nat := (a.map w1Item).sum
theorem markItemS_eq (k : Int) (a : List TItem) (h0 : 0 ≤ k) (hn : a.length ≤ 1000000000000) (hc : k + ((wItemS a : Nat) : Int) ≤ 1000000000000) : L.markItemS k a = some (k + ((wItemS a : Nat) : Int), mItemS k a) := by
  unfold L.markItemS mItemS wItemS
  refine (markLoopW (fun m k i xs => L.markItemS_l0 m (fun y12 y13 => some (y12, y13)) k i xs) m1Item w1Item a ((0 : Int), ((0 : Int), ((0 : Int), ((0 : Int), ((0 : Int), ((0 : Int), ((0 : Int), ((0 : Int), ([], false))))))))) h0 hn (by unfold wItemS at hc; exact hc) (fun i m k xs hi hx h0 h1 => ?_) (fun m k xs hx => ?_)).trans rfl
  · show L.markItemS_l0 (m + 1) _ _ _ _ = L.markItemS_l0 m _ _ _ _
    have hdec : decide ((0 : Int) ≤ (i : Int) ∧ (i : Int) < (xs.length : Int)) = true := by simp; omega
    have e : k + ((w1Item (nthI xs (i : Int) ((0 : Int), ((0 : Int), ((0 : Int), ((0 : Int), ((0 : Int), ((0 : Int), ((0 : Int), ((0 : Int), ([], false)))))))))) : Nat) : Int) = k + (8 + (1 * (((nthI xs (i : Int) ((0 : Int), ((0 : Int), ((0 : Int), ((0 : Int), ((0 : Int), ((0 : Int), ((0 : Int), ((0 : Int), ([], false)))))))))).2.2.2.2.2.2.2.2.1).length : Int) + 1)) := by unfold w1Item; omega
    have e2 : IntKind.i64.wrap ((i : Int) + 1) = ((i + 1 : Nat) : Int) := by rw [w64 (by omega) (by omega)]; omega
    rw [e] at h1 ⊢
    unfold m1Item
    rw [L.markItemS_l0, cdp (by omega)]
    skip
    simp (disch := omega) only [df1, df2, df3, hdec, cond_true, e2, w64, u8_mod, u64w, List.length_set, nthI_set, List.set_set, Int.toNat_natCast, cmod3, Int.add_assoc, Int.reduceAdd, if_false, reduceIte, Option.bind_some, Int.add_zero, cond_false, markIntS_eq]
    all_goals rfl
  · show L.markItemS_l0 (m + 1) _ _ _ _ = _
    rw [L.markItemS_l0, cdn (by omega)]
def m1Rec (k : Int) (x : TRec) : TRec := (k, (k + 1, k + 2))
def w1Rec (x : TRec) : Nat := 3
def mRecS (k : Int) (a : List TRec) : List TRec := markAll m1Rec w1Rec k a
theorem markRecS_eq (k : Int) (a : List TRec) (h0 : 0 ≤ k) (hc : k + 3 * (a.length : Int) ≤ 1000000000000) : L.markRecS k a = some (k + 3 * (a.length : Int), mRecS k a) := by
  unfold L.markRecS mRecS
  refine (markLoop (fun m k i xs => L.markRecS_l0 m (fun y12 y13 => some (y12, y13)) k i xs) m1Rec w1Rec a ((0 : Int), ((0 : Int), (0 : Int))) 3 (fun _ => rfl) h0 (by omega) hc (fun i m k xs hi hx h0 h1 => ?_) (fun m k xs hx => ?_)).trans rfl
  · show L.markRecS_l0 (m + 1) _ _ _ _ = L.markRecS_l0 m _ _ _ _
    have hdec : decide ((0 : Int) ≤ (i : Int) ∧ (i : Int) < (xs.length : Int)) = true := by simp; omega
    rw [L.markRecS_l0, cdp (by omega)]
    simp (disch := omega) only [df1, df2, df3, hdec, cond_true, w64, u8_mod, u64w, List.length_set, nthI_set, List.set_set, Int.toNat_natCast, cmod3, Int.add_assoc, Int.reduceAdd, if_false, reduceIte]
    rfl
  · show L.markRecS_l0 (m + 1) _ _ _ _ = _
    rw [L.markRecS_l0, cdn (by omega)]
theorem markBox_eq (x : TBox) (k : Int) (h0 : 0 ≤ k) (hn1 : (x.2.2.2.2.1).length ≤ 1000000000000) (hc : k + (((wItemS x.2.2.2.2.1 : Nat) : Int) + 3 * ((x.2.2.2.2.2).length : Int)) ≤ 1000000000000) : L.markBox x.1 x.2.1 x.2.2.1 x.2.2.2.1 k x.2.2.2.2.1 x.2.2.2.2.2 = some (k + (((wItemS x.2.2.2.2.1 : Nat) : Int) + 3 * ((x.2.2.2.2.2).length : Int)), (mItemS (k) x.2.2.2.2.1), (mRecS (k + ((wItemS x.2.2.2.2.1 : Nat) : Int)) x.2.2.2.2.2)) := by
  unfold L.markBox
  simp (disch := omega) only [df1, df2, df3, Int.add_assoc, Option.bind_some, dlt0, cond_false, markItemS_eq, markRecS_eq]
theorem heldIntS_eq (k : Int) (a : List Int) (h0 : 0 ≤ k) (hc : k + 1 * (a.length : Int) ≤ 1000000000000) : L.heldIntS k (mIntS k a) = some (k + 1 * (a.length : Int)) := by
  unfold L.heldIntS
  refine heldLoop (fun m q i => L.heldIntS_l0 m (fun y12 y13 => some y13) (fun y14 => some y14) q i (mIntS k a)) m1Int w1Int a (0 : Int) 1 (fun _ => rfl) k h0 (by omega) hc (fun i m j hi h0 h1 hx => ?_) (fun m j => ?_)
  all_goals (have hl : (mIntS k a).length = a.length := markAll_length _ _ _ _)
  · show L.heldIntS_l0 (m + 1) _ _ _ _ _ = L.heldIntS_l0 m _ _ _ _ _
    have hx : nthI (mIntS k a) (i : Int) (0 : Int) = _ := hx
    have hdec : decide ((0 : Int) ≤ (i : Int) ∧ (i : Int) < ((mIntS k a).length : Int)) = true := by rw [hl]; simp; omega
    rw [L.heldIntS_l0, cdp (by omega)]
    simp (disch := omega) only [df1, df2, df3, hdec, hx, m1Int, cond_true, cond_false, w64, u8_mod, u64w, bne_self_eq_false, cmod3, Int.add_assoc, Int.reduceAdd, if_false, reduceIte, beq_self_eq_true, Bool.not_true]
    rfl
  · show L.heldIntS_l0 (m + 1) _ _ _ _ _ = _
    rw [L.heldIntS_l0, cdn (by rw [hl]; omega)]
theorem heldItemS_eq (k : Int) (a : List TItem) (h0 : 0 ≤ k) (hn : a.length ≤ 1000000000000) (hc : k + ((wItemS a : Nat) : Int) ≤ 1000000000000) : L.heldItemS k (mItemS k a) = some (k + ((wItemS a : Nat) : Int)) := by
  unfold L.heldItemS wItemS
  refine heldLoopW (fun m q i => L.heldItemS_l0 m (fun y12 y13 => some y13) (fun y14 => some y14) q i (mItemS k a)) m1Item w1Item a ((0 : Int), ((0 : Int), ((0 : Int), ((0 : Int), ((0 : Int), ((0 : Int), ((0 : Int), ((0 : Int), ([], false))))))))) k h0 hn (by unfold wItemS at hc; exact hc) (fun i m j hi h0 h1 hx => ?_) (fun m j => ?_)
  all_goals (have hl : (mItemS k a).length = a.length := markAll_length _ _ _ _)
  · show L.heldItemS_l0 (m + 1) _ _ _ _ _ = L.heldItemS_l0 m _ _ _ _ _
    have hx : nthI (mItemS k a) (i : Int) ((0 : Int), ((0 : Int), ((0 : Int), ((0 : Int), ((0 : Int), ((0 : Int), ((0 : Int), ((0 : Int), ([], false))))))))) = _ := hx
    have hdec : decide ((0 : Int) ≤ (i : Int) ∧ (i : Int) < ((mItemS k a).length : Int)) = true := by rw [hl]; simp; omega
    have e : j + ((w1Item (nthI a (i : Int) ((0 : Int), ((0 : Int), ((0 : Int), ((0 : Int), ((0 : Int), ((0 : Int), ((0 : Int), ((0 : Int), ([], false)))))))))) : Nat) : Int) = j + (8 + (1 * (((nthI a (i : Int) ((0 : Int), ((0 : Int), ((0 : Int), ((0 : Int), ((0 : Int), ((0 : Int), ((0 : Int), ((0 : Int), ([], false)))))))))).2.2.2.2.2.2.2.2.1).length : Int) + 1)) := by unfold w1Item; omega
    have e2 : IntKind.i64.wrap ((i : Int) + 1) = ((i + 1 : Nat) : Int) := by rw [w64 (by omega) (by omega)]; omega
    rw [e] at h1 ⊢
    rw [L.heldItemS_l0, cdp (by rw [hl]; omega)]
    simp (disch := omega) only [df1, df2, df3, hdec, hx, e2, m1Item, cond_true, cond_false, w64, u8_mod, u64w, bne_self_eq_false, cmod3, Int.add_assoc, Int.reduceAdd, if_false, reduceIte, beq_self_eq_true, Bool.not_true, dlt0, Option.bind_some, Int.add_zero, heldIntS_eq]
    all_goals rfl
  · show L.heldItemS_l0 (m + 1) _ _ _ _ _ = _
    rw [L.heldItemS_l0, cdn (by rw [hl]; omega)]
theorem heldRecS_eq (k : Int) (a : List TRec) (h0 : 0 ≤ k) (hc : k + 3 * (a.length : Int) ≤ 1000000000000) : L.heldRecS k (mRecS k a) = some (k + 3 * (a.length : Int)) := by
  unfold L.heldRecS
  refine heldLoop (fun m q i => L.heldRecS_l0 m (fun y12 y13 => some y13) (fun y14 => some y14) q i (mRecS k a)) m1Rec w1Rec a ((0 : Int), ((0 : Int), (0 : Int))) 3 (fun _ => rfl) k h0 (by omega) hc (fun i m j hi h0 h1 hx => ?_) (fun m j => ?_)
  all_goals (have hl : (mRecS k a).length = a.length := markAll_length _ _ _ _)
  · show L.heldRecS_l0 (m + 1) _ _ _ _ _ = L.heldRecS_l0 m _ _ _ _ _
    have hx : nthI (mRecS k a) (i : Int) ((0 : Int), ((0 : Int), (0 : Int))) = _ := hx
    have hdec : decide ((0 : Int) ≤ (i : Int) ∧ (i : Int) < ((mRecS k a).length : Int)) = true := by rw [hl]; simp; omega
    rw [L.heldRecS_l0, cdp (by omega)]
    simp (disch := omega) only [df1, df2, df3, hdec, hx, m1Rec, cond_true, cond_false, w64, u8_mod, u64w, bne_self_eq_false, cmod3, Int.add_assoc, Int.reduceAdd, if_false, reduceIte, beq_self_eq_true, Bool.not_true]
    rfl
  · show L.heldRecS_l0 (m + 1) _ _ _ _ _ = _
    rw [L.heldRecS_l0, cdn (by rw [hl]; omega)]
theorem heldBox_eq (x : TBox) (k : Int) (h0 : 0 ≤ k) (hn1 : (x.2.2.2.2.1).length ≤ 1000000000000) (hc : k + (((wItemS x.2.2.2.2.1 : Nat) : Int) + 3 * ((x.2.2.2.2.2).length : Int)) ≤ 1000000000000) : L.heldBox x.1 x.2.1 x.2.2.1 x.2.2.2.1 k (mItemS (k) x.2.2.2.2.1) (mRecS (k + ((wItemS x.2.2.2.2.1 : Nat) : Int)) x.2.2.2.2.2) = some (k + (((wItemS x.2.2.2.2.1 : Nat) : Int) + 3 * ((x.2.2.2.2.2).length : Int))) := by
  unfold L.heldBox
  simp (disch := omega) only [df1, df2, df3, Int.add_assoc, Option.bind_some, dlt0, cond_false, heldItemS_eq, heldRecS_eq]
theorem in_eq (a b c : Int) : I.in a b c = some (decide (b ≤ a ∧ a ≤ c)) := by unfold I.in; rw [cond_some, cond_and, dand]
theorem isKey_eq (a : Int) : I.isKey a = some (decide (0 ≤ a ∧ a ≤ 15)) := by unfold I.isKey; rw [in_eq]; rfl
theorem l04Key_eq (a : Int) : S.l04Key a = some (decide (0 ≤ a ∧ a ≤ 15)) := by unfold S.l04Key; rw [cond_some, cond_and, dand]
theorem l10Count_eq (a : Int) : S.l10Count a = some (decide (0 ≤ a ∧ a ≤ 1000000)) := by unfold S.l10Count; rw [cond_some, cond_and, dand]
theorem l06Win_eq (a b : Int) : S.l06Win a b = some (decide (0 ≤ a ∧ a < b ∧ b ≤ 1100)) := by unfold S.l06Win; simp only [cds]
theorem isWin_eq (a b : Int) : I.isWin a b = some (decide (0 ≤ a ∧ a < b ∧ b ≤ 1100)) := by unfold I.isWin; simp only [cds]
theorem isId_eq (a : Int) : I.isId a = some (decide (0 ≤ a ∧ a ≤ 3)) := by unfold I.isId; rw [in_eq]; rfl
def paneOk (p : TPane) : Prop := (0 ≤ p.1 ∧ p.1 ≤ 3) ∧ (0 ≤ p.2.1 ∧ p.2.1 ≤ 15) ∧ (0 ≤ p.2.2.1 ∧ p.2.2.1 < p.2.2.2.1 ∧ p.2.2.2.1 ≤ 1100) ∧ (0 ≤ p.2.2.2.2.1 ∧ p.2.2.2.2.1 ≤ 15) ∧ (1 ≤ p.2.2.2.2.2.1 ∧ p.2.2.2.2.2.1 ≤ 1000000) ∧ p.2.2.2.2.2.2.1.length ≤ 4 ∧ (((p.2.2.2.2.2.2.1.length : Int) == 0) == p.2.2.2.2.2.2.2) = true
instance (p : TPane) : Decidable (paneOk p) := by unfold paneOk; exact inferInstance
theorem sPaneOk_eq (p : TPane) : S.PaneOk p.1 p.2.1 p.2.2.1 p.2.2.2.1 p.2.2.2.2.1 p.2.2.2.2.2.1 p.2.2.2.2.2.2.2 p.2.2.2.2.2.2.1 = some (decide (paneOk p)) := by
  unfold S.PaneOk
  simp only [l04Key_eq, l06Win_eq, Option.bind_some, Bool.cond_eq_ite, decide_eq_true_eq, Bool.not_eq_true', decide_eq_false_iff_not]
  repeat' split
  all_goals first
    | exact sfal (by unfold paneOk; omega)
    | (refine sbool ?_; unfold paneOk; generalize (((p.2.2.2.2.2.2.1.length : Int) == 0) == p.2.2.2.2.2.2.2) = q; cases q <;> simp only [and_true, and_false, Bool.false_eq_true, true_iff, iff_self] <;> omega)
theorem iPaneOk_eq (p : TPane) : I.isPane p.1 p.2.1 p.2.2.1 p.2.2.2.1 p.2.2.2.2.1 p.2.2.2.2.2.1 p.2.2.2.2.2.2.2 p.2.2.2.2.2.2.1 = some (decide (paneOk p)) := by
  unfold I.isPane
  simp only [isId_eq, isKey_eq, isWin_eq, in_eq, Option.bind_some, Bool.cond_eq_ite, decide_eq_true_eq]
  repeat' split
  all_goals first
    | exact sfal (by unfold paneOk; omega)
    | (refine sbool ?_; unfold paneOk; generalize (((p.2.2.2.2.2.2.1.length : Int) == 0) == p.2.2.2.2.2.2.2) = q; cases q <;> simp only [and_true, and_false, Bool.false_eq_true, true_iff, iff_self] <;> omega)
theorem l10Cap_eq (a : Int) : S.l10Cap a = some (decide (1 ≤ a ∧ a ≤ 50)) := by unfold S.l10Cap; simp only [cds]
theorem isCap_eq (a : Int) : I.isCap a = some (decide (1 ≤ a ∧ a ≤ 50)) := by unfold I.isCap; rw [in_eq]; rfl
theorem l10Rule_eq (a : Int) : S.l10Rule a = some (decide (-1 ≤ a ∧ a ≤ 15)) := by unfold S.l10Rule; simp only [cds]
theorem isRule_eq (a : Int) : I.isRuleNumber a = some (decide (-1 ≤ a ∧ a ≤ 15)) := by unfold I.isRuleNumber; rw [in_eq]; rfl
def itemP (nx : Int) (a : List TItem) (i : Nat) : Prop := (nthI a (i : Int) ((0 : Int), ((0 : Int), ((0 : Int), ((0 : Int), ((0 : Int), ((0 : Int), ((0 : Int), ((0 : Int), ([], false)))))))))).1 = nx - (a.length : Int) + (i : Int) ∧ (-1 ≤ (nthI a (i : Int) ((0 : Int), ((0 : Int), ((0 : Int), ((0 : Int), ((0 : Int), ((0 : Int), ((0 : Int), ((0 : Int), ([], false)))))))))).2.1 ∧ (nthI a (i : Int) ((0 : Int), ((0 : Int), ((0 : Int), ((0 : Int), ((0 : Int), ((0 : Int), ((0 : Int), ((0 : Int), ([], false)))))))))).2.1 ≤ 15) ∧ paneOk (nthI a (i : Int) ((0 : Int), ((0 : Int), ((0 : Int), ((0 : Int), ((0 : Int), ((0 : Int), ((0 : Int), ((0 : Int), ([], false)))))))))).2.2
instance (nx : Int) (a : List TItem) : DecidablePred (itemP nx a) := fun i => by unfold itemP; exact inferInstance
def recP (nx : Int) (a : List TRec) (i : Nat) : Prop := (nthI a (i : Int) ((0 : Int), ((0 : Int), (0 : Int)))).1 = nx - (a.length : Int) + (i : Int) ∧ (-1 ≤ (nthI a (i : Int) ((0 : Int), ((0 : Int), (0 : Int)))).2.1 ∧ (nthI a (i : Int) ((0 : Int), ((0 : Int), (0 : Int)))).2.1 ≤ 15) ∧ (0 ≤ (nthI a (i : Int) ((0 : Int), ((0 : Int), (0 : Int)))).2.2 ∧ (nthI a (i : Int) ((0 : Int), ((0 : Int), (0 : Int)))).2.2 ≤ 15)
instance (nx : Int) (a : List TRec) : DecidablePred (recP nx a) := fun i => by unfold recP; exact inferInstance
def bothP (a : List TItem) (b : List TRec) (i : Nat) : Prop := (nthI a ((a.length - 1 - i : Nat) : Int) ((0 : Int), ((0 : Int), ((0 : Int), ((0 : Int), ((0 : Int), ((0 : Int), ((0 : Int), ((0 : Int), ([], false)))))))))).2.1 = (nthI b ((b.length - 1 - i : Nat) : Int) ((0 : Int), ((0 : Int), (0 : Int)))).2.1 ∧ (nthI a ((a.length - 1 - i : Nat) : Int) ((0 : Int), ((0 : Int), ((0 : Int), ((0 : Int), ((0 : Int), ((0 : Int), ((0 : Int), ((0 : Int), ([], false)))))))))).2.2.2.2.2.2.1 = (nthI b ((b.length - 1 - i : Nat) : Int) ((0 : Int), ((0 : Int), (0 : Int)))).2.2
instance (a : List TItem) (b : List TRec) : DecidablePred (bothP a b) := fun i => by unfold bothP; exact inferInstance
def boxOk (c u nx g : Int) (a : List TItem) (b : List TRec) : Prop :=
  (1 ≤ c ∧ c ≤ 50) ∧ (1 ≤ u ∧ u ≤ 50) ∧ (0 ≤ nx ∧ nx ≤ 1000000) ∧ (0 ≤ g ∧ g ≤ 1000000) ∧ (a.length : Int) ≤ c ∧ (b.length : Int) ≤ u ∧ (a.length : Int) ≤ nx ∧ (b.length : Int) ≤ nx ∧
  (∀ i, i < a.length → itemP nx a i) ∧ (∀ i, i < b.length → recP nx b i) ∧ (∀ i, i < min a.length b.length → bothP a b i)
instance (c u nx g : Int) (a : List TItem) (b : List TRec) : Decidable (boxOk c u nx g a b) := by unfold boxOk; exact inferInstance
section
variable (c u nx g : Int) (a : List TItem) (b : List TRec) (ha : a.length ≤ 50) (hb : b.length ≤ 50) (hx : 0 ≤ nx ∧ nx ≤ 1000000)
include ha hb hx
theorem iBox_l0 (e0 : Bool → Int → Int → Int → Int → List TItem → List TRec → Option Bool) (e1 : Int → Int → Int → Int → List TItem → List TRec → Option Bool) (he : ∀ x y z w v s, e0 false x y z w v s = some false) :
    I.isBox_l0 fu e0 e1 (a.length : Int) 0 c u nx g a b = if ∀ i, i < a.length → itemP nx a i then e1 c u nx g a b else some false := by
  refine allLoopK (fun m i => I.isBox_l0 m e0 e1 (a.length : Int) i c u nx g a b) a.length (itemP nx a) _ (by omega) (fun i m hi => ?_) (fun m => ?_)
  · show I.isBox_l0 (m + 1) _ _ _ _ _ _ _ _ _ _ = bif _ then I.isBox_l0 m _ _ _ _ _ _ _ _ _ _ else _
    have hdec : decide ((0 : Int) ≤ (i : Int) ∧ (i : Int) < (a.length : Int)) = true := decide_eq_true (by omega)
    have e2 : IntKind.i64.wrap (IntKind.i64.wrap (nx - (a.length : Int)) + (i : Int)) = nx - (a.length : Int) + (i : Int) := by rw [w64 (n := nx - (a.length : Int)) (by omega) (by omega), w64 (by omega) (by omega)]
    have hp := iPaneOk_eq (nthI a (i : Int) ((0 : Int), ((0 : Int), ((0 : Int), ((0 : Int), ((0 : Int), ((0 : Int), ((0 : Int), ((0 : Int), ([], false)))))))))).2.2
    rw [I.isBox_l0, cdp (by omega)]
    simp only [hdec, cond_true, e2, isRule_eq, hp, Option.bind_some, he]
    rw [w64 (by omega) (by omega), cneI, cnotb, cnotb]
    by_cases q1 : (nthI a (i : Int) ((0 : Int), ((0 : Int), ((0 : Int), ((0 : Int), ((0 : Int), ((0 : Int), ((0 : Int), ((0 : Int), ([], false)))))))))).1 = nx - (a.length : Int) + (i : Int) <;> by_cases q2 : -1 ≤ (nthI a (i : Int) ((0 : Int), ((0 : Int), ((0 : Int), ((0 : Int), ((0 : Int), ((0 : Int), ((0 : Int), ((0 : Int), ([], false)))))))))).2.1 ∧ (nthI a (i : Int) ((0 : Int), ((0 : Int), ((0 : Int), ((0 : Int), ((0 : Int), ((0 : Int), ((0 : Int), ((0 : Int), ([], false)))))))))).2.1 ≤ 15 <;> by_cases q3 : paneOk (nthI a (i : Int) ((0 : Int), ((0 : Int), ((0 : Int), ((0 : Int), ((0 : Int), ((0 : Int), ((0 : Int), ((0 : Int), ([], false)))))))))).2.2 <;>
      simp only [q1, q2, q3, itemP, decide_true, decide_false, cond_true, cond_false, and_self, and_true, true_and, and_false, false_and] <;> rfl
  · show I.isBox_l0 (m + 1) _ _ _ _ _ _ _ _ _ _ = _
    rw [I.isBox_l0, cdn (by omega)]
theorem iBox_l1 (e0 : Bool → Int → Int → Int → Int → List TItem → List TRec → Option Bool) (e1 : Int → Int → Int → Int → List TItem → List TRec → Option Bool) (he : ∀ x y z w v s, e0 false x y z w v s = some false) :
    I.isBox_l1 fu e0 e1 (b.length : Int) 0 c u nx g b a = if ∀ i, i < b.length → recP nx b i then e1 c u nx g a b else some false := by
  refine allLoopK (fun m i => I.isBox_l1 m e0 e1 (b.length : Int) i c u nx g b a) b.length (recP nx b) _ (by omega) (fun i m hi => ?_) (fun m => ?_)
  · show I.isBox_l1 (m + 1) _ _ _ _ _ _ _ _ _ _ = bif _ then I.isBox_l1 m _ _ _ _ _ _ _ _ _ _ else _
    have hdec : decide ((0 : Int) ≤ (i : Int) ∧ (i : Int) < (b.length : Int)) = true := decide_eq_true (by omega)
    have e2 : IntKind.i64.wrap (IntKind.i64.wrap (nx - (b.length : Int)) + (i : Int)) = nx - (b.length : Int) + (i : Int) := by rw [w64 (n := nx - (b.length : Int)) (by omega) (by omega), w64 (by omega) (by omega)]
    rw [I.isBox_l1, cdp (by omega)]
    simp only [hdec, cond_true, e2, isRule_eq, in_eq, Option.bind_some, he]
    rw [w64 (by omega) (by omega), cneI, cnotb, cnotb]
    by_cases q1 : (nthI b (i : Int) ((0 : Int), ((0 : Int), (0 : Int)))).1 = nx - (b.length : Int) + (i : Int) <;> by_cases q2 : -1 ≤ (nthI b (i : Int) ((0 : Int), ((0 : Int), (0 : Int)))).2.1 ∧ (nthI b (i : Int) ((0 : Int), ((0 : Int), (0 : Int)))).2.1 ≤ 15 <;> by_cases q3 : 0 ≤ (nthI b (i : Int) ((0 : Int), ((0 : Int), (0 : Int)))).2.2 ∧ (nthI b (i : Int) ((0 : Int), ((0 : Int), (0 : Int)))).2.2 ≤ 15 <;>
      simp only [q1, q2, q3, recP, decide_true, decide_false, cond_true, cond_false, and_self, and_true, true_and, and_false, false_and] <;> rfl
  · show I.isBox_l1 (m + 1) _ _ _ _ _ _ _ _ _ _ = _
    rw [I.isBox_l1, cdn (by omega)]
theorem iBox_l2 (n : Nat) (hn : n = min a.length b.length) : I.isBox_l2 fu (fun y => some y) (some true) (n : Int) 0 c u nx g a b = some (decide (∀ i, i < n → bothP a b i)) := by
  refine (allLoop (fun m i => I.isBox_l2 m (fun y => some y) (some true) (n : Int) i c u nx g a b) n (bothP a b) true (by omega) (fun i m hi => ?_) (fun m => ?_)).trans (by rw [Bool.and_true])
  · show I.isBox_l2 (m + 1) _ _ _ _ _ _ _ _ _ _ = bif _ then I.isBox_l2 m _ _ _ _ _ _ _ _ _ _ else _
    have e2 : IntKind.i64.wrap (IntKind.i64.wrap ((a.length : Int) - 1) - (i : Int)) = ((a.length - 1 - i : Nat) : Int) := by rw [w64 (n := (a.length : Int) - 1) (by omega) (by omega), w64 (by omega) (by omega)]; omega
    have e3 : IntKind.i64.wrap (IntKind.i64.wrap ((b.length : Int) - 1) - (i : Int)) = ((b.length - 1 - i : Nat) : Int) := by rw [w64 (n := (b.length : Int) - 1) (by omega) (by omega), w64 (by omega) (by omega)]; omega
    have hd1 : decide ((0 : Int) ≤ ((a.length - 1 - i : Nat) : Int) ∧ ((a.length - 1 - i : Nat) : Int) < (a.length : Int)) = true := decide_eq_true (by omega)
    have hd2 : decide ((0 : Int) ≤ ((b.length - 1 - i : Nat) : Int) ∧ ((b.length - 1 - i : Nat) : Int) < (b.length : Int)) = true := decide_eq_true (by omega)
    rw [I.isBox_l2, cdp (by omega)]
    simp only [e2, e3, hd1, hd2, cond_true, dup_eq]
    rw [w64 (by omega) (by omega), cneI, cneI]
    by_cases q1 : (nthI a ((a.length - 1 - i : Nat) : Int) ((0 : Int), ((0 : Int), ((0 : Int), ((0 : Int), ((0 : Int), ((0 : Int), ((0 : Int), ((0 : Int), ([], false)))))))))).2.1 = (nthI b ((b.length - 1 - i : Nat) : Int) ((0 : Int), ((0 : Int), (0 : Int)))).2.1 <;> by_cases q2 : (nthI a ((a.length - 1 - i : Nat) : Int) ((0 : Int), ((0 : Int), ((0 : Int), ((0 : Int), ((0 : Int), ((0 : Int), ((0 : Int), ((0 : Int), ([], false)))))))))).2.2.2.2.2.2.1 = (nthI b ((b.length - 1 - i : Nat) : Int) ((0 : Int), ((0 : Int), (0 : Int)))).2.2 <;>
      simp only [q1, q2, bothP, decide_true, decide_false, cond_true, cond_false, and_self, and_true, true_and, and_false, false_and] <;> rfl
  · show I.isBox_l2 (m + 1) _ _ _ _ _ _ _ _ _ _ = _
    rw [I.isBox_l2, cdn (by omega)]
theorem sBox_l0 (e0 : Bool → Int → Int → Int → Int → List TItem → List TRec → Option Bool) (e1 : Int → Int → Int → Int → List TItem → List TRec → Option Bool) (he : ∀ x y z w v s, e0 false x y z w v s = some false) :
    S.BoxOk_l0 fu e0 e1 0 c u nx g a b = if ∀ i, i < a.length → (itemP nx a i ∧ 0 ≤ (nthI a (i : Int) ((0 : Int), ((0 : Int), ((0 : Int), ((0 : Int), ((0 : Int), ((0 : Int), ((0 : Int), ((0 : Int), ([], false)))))))))).1) then e1 c u nx g a b else some false := by
  refine allLoopK (fun m i => S.BoxOk_l0 m e0 e1 i c u nx g a b) a.length (fun i => itemP nx a i ∧ 0 ≤ (nthI a (i : Int) ((0 : Int), ((0 : Int), ((0 : Int), ((0 : Int), ((0 : Int), ((0 : Int), ((0 : Int), ((0 : Int), ([], false)))))))))).1) _ (by omega) (fun i m hi => ?_) (fun m => ?_)
  · show S.BoxOk_l0 (m + 1) _ _ _ _ _ _ _ _ _ = bif _ then S.BoxOk_l0 m _ _ _ _ _ _ _ _ _ else _
    have hdec : decide ((0 : Int) ≤ (i : Int) ∧ (i : Int) < (a.length : Int)) = true := decide_eq_true (by omega)
    have e2 : IntKind.i64.wrap (IntKind.i64.wrap (nx - (a.length : Int)) + (i : Int)) = nx - (a.length : Int) + (i : Int) := by rw [w64 (n := nx - (a.length : Int)) (by omega) (by omega), w64 (by omega) (by omega)]
    have hp := sPaneOk_eq (nthI a (i : Int) ((0 : Int), ((0 : Int), ((0 : Int), ((0 : Int), ((0 : Int), ((0 : Int), ((0 : Int), ((0 : Int), ([], false)))))))))).2.2
    rw [S.BoxOk_l0, cdp (by omega)]
    simp only [hdec, cond_true, e2, l10Rule_eq, hp, Option.bind_some, he]
    rw [w64 (by omega) (by omega), cneI, cnotb, cnotb]
    by_cases q1 : (nthI a (i : Int) ((0 : Int), ((0 : Int), ((0 : Int), ((0 : Int), ((0 : Int), ((0 : Int), ((0 : Int), ((0 : Int), ([], false)))))))))).1 = nx - (a.length : Int) + (i : Int)
    · rw [cdp q1]
      by_cases q0 : (nthI a (i : Int) ((0 : Int), ((0 : Int), ((0 : Int), ((0 : Int), ((0 : Int), ((0 : Int), ((0 : Int), ((0 : Int), ([], false)))))))))).1 < 0
      · rw [cdp q0, cdn (fun q : itemP nx a i ∧ 0 ≤ (nthI a (i : Int) ((0 : Int), ((0 : Int), ((0 : Int), ((0 : Int), ((0 : Int), ((0 : Int), ((0 : Int), ((0 : Int), ([], false)))))))))).1 => by omega)]
      rw [cdn q0]
      by_cases q2 : -1 ≤ (nthI a (i : Int) ((0 : Int), ((0 : Int), ((0 : Int), ((0 : Int), ((0 : Int), ((0 : Int), ((0 : Int), ((0 : Int), ([], false)))))))))).2.1 ∧ (nthI a (i : Int) ((0 : Int), ((0 : Int), ((0 : Int), ((0 : Int), ((0 : Int), ((0 : Int), ((0 : Int), ((0 : Int), ([], false)))))))))).2.1 ≤ 15
      · rw [cdp q2]
        by_cases q3 : paneOk (nthI a (i : Int) ((0 : Int), ((0 : Int), ((0 : Int), ((0 : Int), ((0 : Int), ((0 : Int), ((0 : Int), ((0 : Int), ([], false)))))))))).2.2
        · rw [cdp q3, cdp (show itemP nx a i ∧ 0 ≤ (nthI a (i : Int) ((0 : Int), ((0 : Int), ((0 : Int), ((0 : Int), ((0 : Int), ((0 : Int), ((0 : Int), ((0 : Int), ([], false)))))))))).1 from ⟨⟨q1, q2, q3⟩, by omega⟩)]; rfl
        · rw [cdn q3, cdn (fun q : itemP nx a i ∧ 0 ≤ (nthI a (i : Int) ((0 : Int), ((0 : Int), ((0 : Int), ((0 : Int), ((0 : Int), ((0 : Int), ((0 : Int), ((0 : Int), ([], false)))))))))).1 => q3 q.1.2.2)]
      · rw [cdn q2, cdn (fun q : itemP nx a i ∧ 0 ≤ (nthI a (i : Int) ((0 : Int), ((0 : Int), ((0 : Int), ((0 : Int), ((0 : Int), ((0 : Int), ((0 : Int), ((0 : Int), ([], false)))))))))).1 => q2 q.1.2.1)]
    · rw [cdn q1, cdn (fun q : itemP nx a i ∧ 0 ≤ (nthI a (i : Int) ((0 : Int), ((0 : Int), ((0 : Int), ((0 : Int), ((0 : Int), ((0 : Int), ((0 : Int), ((0 : Int), ([], false)))))))))).1 => q1 q.1.1)]
  · show S.BoxOk_l0 (m + 1) _ _ _ _ _ _ _ _ _ = _
    rw [S.BoxOk_l0, cdn (by omega)]
def meetP (a : List TItem) (r : TRec) (k : Nat) : Prop := (nthI a (k : Int) ((0 : Int), ((0 : Int), ((0 : Int), ((0 : Int), ((0 : Int), ((0 : Int), ((0 : Int), ((0 : Int), ([], false)))))))))).1 = r.1 → (nthI a (k : Int) ((0 : Int), ((0 : Int), ((0 : Int), ((0 : Int), ((0 : Int), ((0 : Int), ((0 : Int), ((0 : Int), ([], false)))))))))).2.1 = r.2.1 ∧ (nthI a (k : Int) ((0 : Int), ((0 : Int), ((0 : Int), ((0 : Int), ((0 : Int), ((0 : Int), ((0 : Int), ((0 : Int), ([], false)))))))))).2.2.2.2.2.2.1 = r.2.2
instance (a : List TItem) (r : TRec) : DecidablePred (meetP a r) := fun i => by unfold meetP; exact inferInstance
theorem sBox_l2 (e0 : Bool → Int → Int → Int → Int → Int → List TItem → List TRec → Option Bool) (e1 : Int → Int → Int → Int → Int → List TItem → List TRec → Option Bool) (he : ∀ t x y z w v s, e0 false t x y z w v s = some false) (t : Int) (r : TRec) :
    S.BoxOk_l2 fu e0 e1 t 0 c u nx g r.1 r.2.1 r.2.2 a b = if ∀ k, k < a.length → meetP a r k then e1 t c u nx g a b else some false := by
  refine allLoopK (fun m i => S.BoxOk_l2 m e0 e1 t i c u nx g r.1 r.2.1 r.2.2 a b) a.length (meetP a r) _ (by omega) (fun i m hi => ?_) (fun m => ?_)
  · show S.BoxOk_l2 (m + 1) _ _ _ _ _ _ _ _ _ _ _ _ _ = bif _ then S.BoxOk_l2 m _ _ _ _ _ _ _ _ _ _ _ _ _ else _
    have hdec : decide ((0 : Int) ≤ (i : Int) ∧ (i : Int) < (a.length : Int)) = true := decide_eq_true (by omega)
    rw [S.BoxOk_l2, cdp (by omega)]
    simp only [hdec, cond_true, he]
    rw [w64 (by omega) (by omega), cneI, cneI]
    by_cases q0 : (nthI a (i : Int) ((0 : Int), ((0 : Int), ((0 : Int), ((0 : Int), ((0 : Int), ((0 : Int), ((0 : Int), ((0 : Int), ([], false)))))))))).1 = r.1
    · rw [cep q0]
      by_cases q1 : (nthI a (i : Int) ((0 : Int), ((0 : Int), ((0 : Int), ((0 : Int), ((0 : Int), ((0 : Int), ((0 : Int), ((0 : Int), ([], false)))))))))).2.1 = r.2.1 <;> by_cases q2 : (nthI a (i : Int) ((0 : Int), ((0 : Int), ((0 : Int), ((0 : Int), ((0 : Int), ((0 : Int), ((0 : Int), ((0 : Int), ([], false)))))))))).2.2.2.2.2.2.1 = r.2.2 <;>
        simp only [q0, q1, q2, meetP, decide_true, decide_false, cond_true, cond_false, and_self, and_true, true_and, and_false, false_and, true_implies] <;> rfl
    · rw [cen q0, cdp (show meetP a r i from fun q => absurd q q0)]; rfl
  · show S.BoxOk_l2 (m + 1) _ _ _ _ _ _ _ _ _ _ _ _ _ = _
    rw [S.BoxOk_l2, cdn (by omega)]
theorem sBox_l1 : S.BoxOk_l1 fu (fun y => some y) (some true) 0 c u nx g a b = some (decide (∀ i, i < b.length → (recP nx b i ∧ 0 ≤ (nthI b (i : Int) ((0 : Int), ((0 : Int), (0 : Int)))).1 ∧ ∀ k, k < a.length → meetP a (nthI b (i : Int) ((0 : Int), ((0 : Int), (0 : Int)))) k))) := by
  refine (allLoop (fun m i => S.BoxOk_l1 m (fun y => some y) (some true) i c u nx g a b) b.length (fun i => recP nx b i ∧ 0 ≤ (nthI b (i : Int) ((0 : Int), ((0 : Int), (0 : Int)))).1 ∧ ∀ k, k < a.length → meetP a (nthI b (i : Int) ((0 : Int), ((0 : Int), (0 : Int)))) k) true (by omega) (fun i m hi => ?_) (fun m => ?_)).trans (by rw [Bool.and_true])
  · show S.BoxOk_l1 (m + 1) _ _ _ _ _ _ _ _ _ = bif _ then S.BoxOk_l1 m _ _ _ _ _ _ _ _ _ else _
    have hdec : decide ((0 : Int) ≤ (i : Int) ∧ (i : Int) < (b.length : Int)) = true := decide_eq_true (by omega)
    have e2 : IntKind.i64.wrap (IntKind.i64.wrap (nx - (b.length : Int)) + (i : Int)) = nx - (b.length : Int) + (i : Int) := by rw [w64 (n := nx - (b.length : Int)) (by omega) (by omega), w64 (by omega) (by omega)]
    rw [S.BoxOk_l1, cdp (by omega)]
    simp only [hdec, cond_true, e2, l10Rule_eq, Option.bind_some]
    rw [sBox_l2 c u nx g a b ha hb hx (fun y80 y81 y82 y83 y84 y85 y86 y87 => some y80) _ (fun _ _ _ _ _ _ _ => rfl) (i : Int) (nthI b (i : Int) ((0 : Int), ((0 : Int), (0 : Int))))]
    rw [w64 (by omega) (by omega), cneI, cnotb]
    by_cases q1 : (nthI b (i : Int) ((0 : Int), ((0 : Int), (0 : Int)))).1 = nx - (b.length : Int) + (i : Int)
    · rw [cdp q1]
      by_cases q0 : (nthI b (i : Int) ((0 : Int), ((0 : Int), (0 : Int)))).1 < 0
      · rw [cdp q0, cdn (fun q : recP nx b i ∧ 0 ≤ (nthI b (i : Int) ((0 : Int), ((0 : Int), (0 : Int)))).1 ∧ ∀ k, k < a.length → meetP a (nthI b (i : Int) ((0 : Int), ((0 : Int), (0 : Int)))) k => by have := q.2.1; omega)]
      rw [cdn q0]
      by_cases q2 : -1 ≤ (nthI b (i : Int) ((0 : Int), ((0 : Int), (0 : Int)))).2.1 ∧ (nthI b (i : Int) ((0 : Int), ((0 : Int), (0 : Int)))).2.1 ≤ 15
      · rw [cdp q2]
        by_cases q4 : (nthI b (i : Int) ((0 : Int), ((0 : Int), (0 : Int)))).2.2 < 0
        · rw [cdp q4, cdn (fun q : recP nx b i ∧ 0 ≤ (nthI b (i : Int) ((0 : Int), ((0 : Int), (0 : Int)))).1 ∧ ∀ k, k < a.length → meetP a (nthI b (i : Int) ((0 : Int), ((0 : Int), (0 : Int)))) k => by have := q.1.2.2; omega)]
        rw [cdn q4]
        by_cases q5 : 16 ≤ (nthI b (i : Int) ((0 : Int), ((0 : Int), (0 : Int)))).2.2
        · rw [cdp q5, cdn (fun q : recP nx b i ∧ 0 ≤ (nthI b (i : Int) ((0 : Int), ((0 : Int), (0 : Int)))).1 ∧ ∀ k, k < a.length → meetP a (nthI b (i : Int) ((0 : Int), ((0 : Int), (0 : Int)))) k => by have := q.1.2.2; omega)]
        rw [cdn q5]
        by_cases q3 : ∀ k, k < a.length → meetP a (nthI b (i : Int) ((0 : Int), ((0 : Int), (0 : Int)))) k
        · rw [if_pos q3, cdp (show recP nx b i ∧ 0 ≤ (nthI b (i : Int) ((0 : Int), ((0 : Int), (0 : Int)))).1 ∧ ∀ k, k < a.length → meetP a (nthI b (i : Int) ((0 : Int), ((0 : Int), (0 : Int)))) k from ⟨⟨q1, q2, by omega⟩, by omega, q3⟩)]; rfl
        · rw [if_neg q3, cdn (fun q : recP nx b i ∧ 0 ≤ (nthI b (i : Int) ((0 : Int), ((0 : Int), (0 : Int)))).1 ∧ ∀ k, k < a.length → meetP a (nthI b (i : Int) ((0 : Int), ((0 : Int), (0 : Int)))) k => q3 q.2.2)]
      · rw [cdn q2, cdn (fun q : recP nx b i ∧ 0 ≤ (nthI b (i : Int) ((0 : Int), ((0 : Int), (0 : Int)))).1 ∧ ∀ k, k < a.length → meetP a (nthI b (i : Int) ((0 : Int), ((0 : Int), (0 : Int)))) k => q2 q.1.2.1)]
    · rw [cdn q1, cdn (fun q : recP nx b i ∧ 0 ≤ (nthI b (i : Int) ((0 : Int), ((0 : Int), (0 : Int)))).1 ∧ ∀ k, k < a.length → meetP a (nthI b (i : Int) ((0 : Int), ((0 : Int), (0 : Int)))) k => q1 q.1.1)]
  · show S.BoxOk_l1 (m + 1) _ _ _ _ _ _ _ _ _ = _
    rw [S.BoxOk_l1, cdn (by omega)]
end
theorem box_iff (nx : Int) (a : List TItem) (b : List TRec) (hx : 0 ≤ nx) :
    ((∀ i, i < a.length → (itemP nx a i ∧ 0 ≤ (nthI a (i : Int) ((0 : Int), ((0 : Int), ((0 : Int), ((0 : Int), ((0 : Int), ((0 : Int), ((0 : Int), ((0 : Int), ([], false)))))))))).1)) ∧ ∀ i, i < b.length → (recP nx b i ∧ 0 ≤ (nthI b (i : Int) ((0 : Int), ((0 : Int), (0 : Int)))).1 ∧ ∀ k, k < a.length → meetP a (nthI b (i : Int) ((0 : Int), ((0 : Int), (0 : Int)))) k)) ↔
    ((a.length : Int) ≤ nx ∧ (b.length : Int) ≤ nx ∧ (∀ i, i < a.length → itemP nx a i) ∧ (∀ i, i < b.length → recP nx b i) ∧ ∀ i, i < min a.length b.length → bothP a b i) := by
  constructor
  · rintro ⟨h1, h2⟩
    refine ⟨?_, ?_, fun i hi => (h1 i hi).1, fun i hi => (h2 i hi).1, fun i hi => ?_⟩
    · by_cases c : a.length = 0
      · omega
      · have q := h1 0 (by omega)
        have := q.1.1; have := q.2; omega
    · by_cases c : b.length = 0
      · omega
      · have q := h2 0 (by omega)
        have := q.1.1; have := q.2.1; omega
    · have qa := (h1 (a.length - 1 - i) (by omega)).1.1
      have qb := h2 (b.length - 1 - i) (by omega)
      have qb1 := qb.1.1
      exact qb.2.2 (a.length - 1 - i) (by omega) (by omega)
  · rintro ⟨h1, h2, h3, h4, h5⟩
    refine ⟨fun i hi => ⟨h3 i hi, ?_⟩, fun i hi => ⟨h4 i hi, ?_, fun k hk q => ?_⟩⟩
    · have := (h3 i hi).1; omega
    · have := (h4 i hi).1; omega
    · have qa := (h3 k hk).1
      have qb := (h4 i hi).1
      have := h5 (a.length - 1 - k) (by omega)
      unfold bothP at this
      rw [show a.length - 1 - (a.length - 1 - k) = k from by omega, show b.length - 1 - (a.length - 1 - k) = i from by omega] at this
      exact this
theorem iBoxOk_eq (c u nx g : Int) (a : List TItem) (b : List TRec) : I.isBox c u nx g a b = some (decide (boxOk c u nx g a b)) := by
  unfold I.isBox
  simp only [isCap_eq, in_eq, Option.bind_some, cnotb]
  by_cases p1 : ¬ (1 ≤ c ∧ c ≤ 50)
  · rw [cdn p1]; exact sfal fun h => p1 h.1
  have p1 := Decidable.not_not.1 p1
  rw [cdp p1]
  by_cases p2 : ¬ (1 ≤ u ∧ u ≤ 50)
  · rw [cdn p2]; exact sfal fun h => p2 h.2.1
  have p2 := Decidable.not_not.1 p2
  rw [cdp p2]
  by_cases p3 : ¬ (0 ≤ nx ∧ nx ≤ 1000000)
  · rw [cdn p3]; exact sfal fun h => p3 h.2.2.1
  have p3 := Decidable.not_not.1 p3
  rw [cdp p3]
  by_cases p4 : ¬ (0 ≤ g ∧ g ≤ 1000000)
  · rw [cdn p4]; exact sfal fun h => p4 h.2.2.2.1
  have p4 := Decidable.not_not.1 p4
  rw [cdp p4]
  by_cases p5 : c < (a.length : Int)
  · rw [cdp p5]; exact sfal fun h => by have := h.2.2.2.2.1; omega
  rw [cdn p5]
  by_cases p6 : u < (b.length : Int)
  · rw [cdp p6]; exact sfal fun h => by have := h.2.2.2.2.2.1; omega
  rw [cdn p6]
  by_cases p7 : nx < (a.length : Int)
  · rw [cdp p7]; exact sfal fun h => by have := h.2.2.2.2.2.2.1; omega
  rw [cdn p7]
  by_cases p8 : nx < (b.length : Int)
  · rw [cdp p8]; exact sfal fun h => by have := h.2.2.2.2.2.2.2.1; omega
  rw [cdn p8, iBox_l0 c u nx g a b (by omega) (by omega) p3 (fun y36 y37 y38 y39 y40 y41 y42 => some y36) _ (fun _ _ _ _ _ _ => rfl)]
  by_cases p9 : ¬ ∀ i, i < a.length → itemP nx a i
  · rw [if_neg p9]; exact sfal fun h => p9 h.2.2.2.2.2.2.2.2.1
  have p9 := Decidable.not_not.1 p9
  rw [if_pos p9, iBox_l1 c u nx g a b (by omega) (by omega) p3 (fun y66 y67 y68 y69 y70 y71 y72 => some y66) _ (fun _ _ _ _ _ _ => rfl)]
  by_cases p10 : ¬ ∀ i, i < b.length → recP nx b i
  · rw [if_neg p10]; exact sfal fun h => p10 h.2.2.2.2.2.2.2.2.2.1
  have p10 := Decidable.not_not.1 p10
  rw [if_pos p10]
  rw [show (if (b.length : Int) < (a.length : Int) then (b.length : Int) else (a.length : Int)) = ((min a.length b.length : Nat) : Int) from by split <;> omega, iBox_l2 c u nx g a b (by omega) (by omega) p3 _ rfl]
  exact sdec ⟨fun q => ⟨p1, p2, p3, p4, by omega, by omega, by omega, by omega, p9, p10, q⟩, fun h => h.2.2.2.2.2.2.2.2.2.2⟩
theorem sBoxOk_eq (c u nx g : Int) (a : List TItem) (b : List TRec) : S.BoxOk c u nx g a b = some (decide (boxOk c u nx g a b)) := by
  unfold S.BoxOk
  simp only [l10Cap_eq, l10Count_eq, Option.bind_some, cnotb]
  by_cases p1 : ¬ (1 ≤ c ∧ c ≤ 50)
  · rw [cdn p1]; exact sfal fun h => p1 h.1
  have p1 := Decidable.not_not.1 p1
  rw [cdp p1]
  by_cases p2 : ¬ (1 ≤ u ∧ u ≤ 50)
  · rw [cdn p2]; exact sfal fun h => p2 h.2.1
  have p2 := Decidable.not_not.1 p2
  rw [cdp p2]
  by_cases p3 : ¬ (0 ≤ nx ∧ nx ≤ 1000000)
  · rw [cdn p3]; exact sfal fun h => p3 h.2.2.1
  have p3 := Decidable.not_not.1 p3
  rw [cdp p3]
  by_cases p4 : ¬ (0 ≤ g ∧ g ≤ 1000000)
  · rw [cdn p4]; exact sfal fun h => p4 h.2.2.2.1
  have p4 := Decidable.not_not.1 p4
  rw [cdp p4]
  by_cases p5 : c < (a.length : Int)
  · rw [cdp p5]; exact sfal fun h => by have := h.2.2.2.2.1; omega
  rw [cdn p5]
  by_cases p6 : u < (b.length : Int)
  · rw [cdp p6]; exact sfal fun h => by have := h.2.2.2.2.2.1; omega
  rw [cdn p6, sBox_l0 c u nx g a b (by omega) (by omega) p3 (fun y32 y33 y34 y35 y36 y37 y38 => some y32) _ (fun _ _ _ _ _ _ => rfl)]
  have hi := box_iff nx a b p3.1
  by_cases p9 : ¬ ∀ i, i < a.length → (itemP nx a i ∧ 0 ≤ (nthI a (i : Int) ((0 : Int), ((0 : Int), ((0 : Int), ((0 : Int), ((0 : Int), ((0 : Int), ((0 : Int), ((0 : Int), ([], false)))))))))).1)
  · rw [if_neg p9]
    exact sfal fun h => p9 fun i hi => ⟨h.2.2.2.2.2.2.2.2.1 i hi, by have := (h.2.2.2.2.2.2.2.2.1 i hi).1; have := h.2.2.2.2.2.2.1; omega⟩
  have p9 := Decidable.not_not.1 p9
  rw [if_pos p9, sBox_l1 c u nx g a b (by omega) (by omega) p3]
  refine sdec ⟨fun q => ?_, fun h => ?_⟩
  · obtain ⟨h1, h2, h3, h4, h5⟩ := hi.1 ⟨p9, q⟩
    exact ⟨p1, p2, p3, p4, by omega, by omega, h1, h2, h3, h4, h5⟩
  · exact (hi.2 h.2.2.2.2.2.2).2
theorem filterLoop {β γ : Type} (F : Nat → Int → List β → Option γ) (n : Nat) (p : Nat → Bool) (g : Nat → β) (E : List β → Option γ) (hn : n ≤ 1000000000000)
    (hs : ∀ (i m : Nat) (acc : List β), i < n → acc.length ≤ i → F (m + 1) (i : Int) acc = bif p i then F m ((i + 1 : Nat) : Int) (acc ++ [g i]) else F m ((i + 1 : Nat) : Int) acc)
    (he : ∀ (m : Nat) (acc : List β), F (m + 1) (n : Int) acc = E acc) : F fu 0 [] = E (((List.range n).filter p).map g) := by
  obtain ⟨M, hM⟩ := fu_ge n hn
  have h1 : ∀ k i : Nat, ∀ acc : List β, i + k = n → acc.length ≤ i → F (k + 1 + M) (i : Int) acc = E (acc ++ ((List.range' i k).filter p).map g) := by
    intro k
    induction k with
    | zero =>
      intro i acc hi ha
      obtain rfl : i = n := by omega
      rw [show 0 + 1 + M = M + 1 from by omega, he]
      simp
    | succ k ih =>
      intro i acc hi ha
      rw [show k + 1 + 1 + M = (k + 1 + M) + 1 from by omega, List.range'_succ, List.filter_cons, hs i _ acc (by omega) ha]
      cases hp : p i with
      | true =>
        rw [cond_true, ih (i + 1) _ (by omega) (by simp; omega)]
        simp
      | false =>
        rw [cond_false, ih (i + 1) _ (by omega) (by omega)]
        simp
  rw [hM, List.range_eq_range']
  exact h1 n 0 [] (by omega) (by simp)
theorem range_nth {α : Type} (a : List α) (d : α) : ((List.range a.length).filter fun _ => true).map (fun i : Nat => nthI a (i : Int) d) = a := by
  rw [List.filter_eq_self.2 (fun _ _ => rfl)]
  apply List.ext_getElem?
  intro i
  rw [List.getElem?_map]
  by_cases h : i < a.length
  · rw [List.getElem?_range h, List.getElem?_eq_getElem h, Option.map_some, nthI_nat, List.getD_eq_getElem?_getD, List.getElem?_eq_getElem h]
    rfl
  · rw [List.getElem?_eq_none (by simp; omega), List.getElem?_eq_none (by omega)]
    rfl
theorem copyLoop {α γ : Type} (F : Nat → Int → List α → Option γ) (a : List α) (d : α) (E : List α → Option γ) (hn : a.length ≤ 1000000000000)
    (hs : ∀ (i m : Nat) (acc : List α), i < a.length → acc.length ≤ i → F (m + 1) (i : Int) acc = F m ((i + 1 : Nat) : Int) (acc ++ [nthI a (i : Int) d]))
    (he : ∀ (m : Nat) (acc : List α), F (m + 1) (a.length : Int) acc = E acc) : F fu 0 [] = E a := by
  have := filterLoop F a.length (fun _ => true) (fun i => nthI a (i : Int) d) E hn (fun i m acc h1 h2 => hs i m acc h1 h2) he
  rw [this, range_nth]
theorem cloneInt_eq (a : List Int) (h : a.length ≤ 1048576) : G.slices.Clone_int a = some a := by
  unfold G.slices.Clone_int
  by_cases h0 : a.length = 0
  · obtain rfl := List.eq_nil_of_length_eq_zero h0
    rw [cdp h0, cdp (by simp only [List.length_nil]; omega)]
    exact same_self _
  · rw [cdn h0, List.nil_append, cdp (by simp only [List.length_nil]; omega)]
theorem cloneRec_eq (a : List TRec) (h : a.length ≤ 1048576) : G.slices.Clone_Rec a = some a := by
  unfold G.slices.Clone_Rec
  by_cases h0 : a.length = 0
  · obtain rfl := List.eq_nil_of_length_eq_zero h0
    rw [cdp h0, cdp (by simp only [List.length_nil]; omega)]
    exact same_self _
  · rw [cdn h0, List.nil_append, cdp (by simp only [List.length_nil]; omega)]
theorem l08Copy_eq (a1 a2 a3 a4 a5 a6 : Int) (a7 : Bool) (a8 : List Int) (h : a8.length ≤ 1048576) : S.l08Copy a1 a2 a3 a4 a5 a6 a7 a8 = some (a1, a2, a3, a4, a5, a6, a7, a8) := by
  unfold S.l08Copy
  rw [List.nil_append, cdp (by simp only [List.length_nil]; omega)]
theorem paneCopied_eq (a1 a2 a3 a4 a5 a6 : Int) (a7 : Bool) (a8 : List Int) (h : a8.length ≤ 1048576) : I.Pane_copied a1 a2 a3 a4 a5 a6 a7 a8 = some (a1, a2, a3, a4, a5, a6, a7, a8) := by
  unfold I.Pane_copied
  rw [cloneInt_eq a8 h, Option.bind_some]
theorem sItems_eq (a : List TItem) (hn : a.length ≤ 1048576) (hv : ∀ x ∈ a, x.2.2.2.2.2.2.2.2.1.length ≤ 1048576) : S.l10Items a = some a := by
  unfold S.l10Items
  refine copyLoop (fun m i acc => S.l10Items_l0 m (fun y10 => some y10) i a acc) a ((0 : Int), ((0 : Int), ((0 : Int), ((0 : Int), ((0 : Int), ((0 : Int), ((0 : Int), ((0 : Int), ([], false))))))))) (fun xs => some xs) (by omega) (fun i m acc hi hacc => ?_) (fun m acc => ?_)
  · show S.l10Items_l0 (m + 1) _ _ _ _ = S.l10Items_l0 m _ _ _ _
    have hdec : decide ((0 : Int) ≤ (i : Int) ∧ (i : Int) < (a.length : Int)) = true := decide_eq_true (by omega)
    have hx := hv _ (nthI_mem a i ((0 : Int), ((0 : Int), ((0 : Int), ((0 : Int), ((0 : Int), ((0 : Int), ((0 : Int), ((0 : Int), ([], false))))))))) hi)
    rw [S.l10Items_l0, cdp (by omega)]
    simp only [hdec, cond_true, l08Copy_eq _ _ _ _ _ _ _ _ hx, Option.bind_some]
    rw [cdp (by simp only [List.length_cons, List.length_nil]; omega), w64 (by omega) (by omega)]
    rfl
  · show S.l10Items_l0 (m + 1) _ _ _ _ = _
    rw [S.l10Items_l0, cdn (by omega)]
theorem iItems_eq (a : List TItem) (hn : a.length ≤ 1048576) (hv : ∀ x ∈ a, x.2.2.2.2.2.2.2.2.1.length ≤ 1048576) : I.items a = some a := by
  unfold I.items
  refine copyLoop (fun m i acc => I.items_l0 m (fun y11 => some y11) (a.length : Int) i acc a) a ((0 : Int), ((0 : Int), ((0 : Int), ((0 : Int), ((0 : Int), ((0 : Int), ((0 : Int), ((0 : Int), ([], false))))))))) (fun xs => some xs) (by omega) (fun i m acc hi hacc => ?_) (fun m acc => ?_)
  · show I.items_l0 (m + 1) _ _ _ _ _ = I.items_l0 m _ _ _ _ _
    have hdec : decide ((0 : Int) ≤ (i : Int) ∧ (i : Int) < (a.length : Int)) = true := decide_eq_true (by omega)
    have hx := hv _ (nthI_mem a i ((0 : Int), ((0 : Int), ((0 : Int), ((0 : Int), ((0 : Int), ((0 : Int), ((0 : Int), ((0 : Int), ([], false))))))))) hi)
    rw [I.items_l0, cdp (by omega)]
    simp only [hdec, cond_true, paneCopied_eq _ _ _ _ _ _ _ _ hx, Option.bind_some]
    rw [cdp (by simp only [List.length_cons, List.length_nil]; omega), w64 (by omega) (by omega)]
    rfl
  · show I.items_l0 (m + 1) _ _ _ _ _ = _
    rw [I.items_l0, cdn (by omega)]
theorem l10Copy_eq (c u nx g : Int) (a : List TItem) (b : List TRec) (hn : a.length ≤ 1048576) (hb : b.length ≤ 1048576) (hv : ∀ x ∈ a, x.2.2.2.2.2.2.2.2.1.length ≤ 1048576) : S.l10Copy c u nx g a b = some (c, u, nx, g, a, b) := by
  unfold S.l10Copy
  rw [sItems_eq a hn hv, Option.bind_some, List.nil_append, cdp (by simp only [List.length_nil]; omega)]
theorem boxCopied_eq (c u nx g : Int) (a : List TItem) (b : List TRec) (hn : a.length ≤ 1048576) (hb : b.length ≤ 1048576) (hv : ∀ x ∈ a, x.2.2.2.2.2.2.2.2.1.length ≤ 1048576) : I.Box_copied c u nx g a b = some (c, u, nx, g, a, b) := by
  unfold I.Box_copied
  rw [iItems_eq a hn hv, Option.bind_some, cloneRec_eq b hb, Option.bind_some]
theorem wItemS_le (q : List TItem) : wItemS q ≤ 9 * cItemS q := by
  unfold wItemS cItemS
  induction q with
  | nil => simp
  | cons x q ih =>
    have : w1Item x = 9 + 1 * cItem x := rfl
    simp only [List.map_cons, List.sum_cons, List.length_cons]
    omega
theorem items_vals {a : List TItem} {n : Nat} (h : cItemS a ≤ n) : ∀ x ∈ a, x.2.2.2.2.2.2.2.2.1.length ≤ n := fun x hx => Nat.le_trans (cItemS_mem hx) h
theorem cItemS_len (a : List TItem) : a.length ≤ cItemS a := by unfold cItemS; omega
def pickL {α : Type} (p : Nat → Bool) (a : List α) (d : α) : List α := ((List.range a.length).filter p).map fun i : Nat => nthI a (i : Int) d
theorem range_map {α : Type} (a : List α) (d : α) : (List.range a.length).map (fun i : Nat => nthI a (i : Int) d) = a := by
  have := range_nth a d
  rwa [List.filter_eq_self.2 (fun _ _ => rfl)] at this
theorem sum_sub {α : Type} (f : α → Nat) : ∀ {l1 l2 : List α}, List.Sublist l1 l2 → (l1.map f).sum ≤ (l2.map f).sum := by
  intro l1 l2 h
  induction h with
  | slnil => simp
  | cons x h ih => simp only [List.map_cons, List.sum_cons]; omega
  | cons_cons x h ih => simp only [List.map_cons, List.sum_cons]; omega
theorem like_refl : ∀ (s : Sh) (y : s.hsh.den), s.like y y
  | .int _, _ => trivial
  | .bool, _ => trivial
  | .str, _ => trivial
  | .rs _ _, _ => trivial
  | .hr _ _, _ => trivial
  | .hv, _ => trivial
  | .sl _ _, _ => rfl
  | .pair a b, y => ⟨like_refl a y.1, like_refl b y.2⟩
theorem heads_zero : ∀ (s : Sh), s.wh = 0 → ∀ (y : s.hsh.den), s.heads y = []
  | .int _, _, _ => rfl
  | .bool, _, _ => rfl
  | .str, _, _ => rfl
  | .rs _ _, _, _ => rfl
  | .hr _ _, _, _ => rfl
  | .hv, _, _ => rfl
  | .sl _ _, h, _ => by cases h
  | .pair a b, h, y => by
    have h : a.wh + b.wh = 0 := h
    show a.heads y.1 ++ b.heads y.2 = []
    rw [heads_zero a (by omega), heads_zero b (by omega)]
    rfl
theorem heads_att : ∀ (s : Sh), s.wh = 1 → ∀ (h : HD) (x : s.den), s.heads (s.att h x) = [h]
  | .int _, h, _, _ => by cases h
  | .bool, h, _, _ => by cases h
  | .str, h, _, _ => by cases h
  | .rs _ _, h, _, _ => by cases h
  | .hr _ _, h, _, _ => by cases h
  | .hv, h, _, _ => by cases h
  | .sl _ _, _, _, _ => rfl
  | .pair a b, h, hd, x => by
    have h : a.wh + b.wh = 1 := h
    show a.heads (a.att hd x.1) ++ b.heads (b.att hd x.2) = [hd]
    rcases Nat.eq_zero_or_pos a.wh with ha | ha
    · rw [heads_zero a ha, heads_att b (by omega)]
      rfl
    · rw [heads_att a (by omega), heads_zero b (by omega)]
      rfl
theorem bare_att : ∀ (s : Sh) (h : HD) (x : s.den), s.bare (s.att h x) = x
  | .int _, _, _ => rfl
  | .bool, _, _ => rfl
  | .str, _, _ => rfl
  | .rs _ _, _, _ => rfl
  | .hr _ _, _, _ => rfl
  | .hv, _, _ => rfl
  | .sl _ _, _, _ => rfl
  | .pair a b, h, x => by
    show (a.bare (a.att h x.1), b.bare (b.att h x.2)) = x
    rw [bare_att a, bare_att b]
    rfl
theorem zip_heads (s : Sh) (hw : s.wh = 1) : ∀ (hs : List HD) (xs : List s.den), hs.length = xs.length → (List.zipWith s.att hs xs).flatMap s.heads = hs
  | [], [], _ => rfl
  | h :: hs, x :: xs, hl => by
    rw [List.zipWith_cons_cons, List.flatMap_cons, heads_att s hw, zip_heads s hw hs xs (by simpa using hl)]
    rfl
theorem zip_bare (s : Sh) : ∀ (hs : List HD) (xs : List s.den), hs.length = xs.length → (List.zipWith s.att hs xs).map s.bare = xs
  | [], [], _ => rfl
  | h :: hs, x :: xs, hl => by
    rw [List.zipWith_cons_cons, List.map_cons, bare_att, zip_bare s hs xs (by simpa using hl)]
theorem sub_flat {α β : Type} (f : α → List β) : ∀ {l1 l2 : List α}, List.Sublist l1 l2 → List.Sublist (l1.flatMap f) (l2.flatMap f) := by
  intro l1 l2 h
  induction h with
  | slnil => simp
  | cons x h ih => rw [List.flatMap_cons]; exact ih.trans (List.sublist_append_right _ _)
  | cons_cons x h ih => rw [List.flatMap_cons, List.flatMap_cons]; exact (List.Sublist.refl _).append ih
theorem thaw_part {s : Sh} (hw : s.wh = 1) {hs : List HD} {xs : List s.den} (hl : hs.length = xs.length) (hn : (hs.filterMap HD.blk).Nodup) {ys l : List s.hsh.den} (hp : ys.Perm l) (hsub : l.Sublist (List.zipWith s.att hs xs)) : thawOk s (List.zipWith s.att hs xs) ys := by
  refine ⟨fun y hy => ⟨y, hsub.subset (hp.mem_iff.1 hy), like_refl s y⟩, ?_⟩
  have h1 : (ys.flatMap s.heads).Perm (l.flatMap s.heads) := hp.flatMap_right _
  have h2 := sub_flat s.heads hsub
  rw [zip_heads s hw hs xs hl] at h2
  exact (h1.filterMap HD.blk).nodup_iff.2 (hn.sublist (h2.filterMap HD.blk))
theorem idxLoop {γ : Type} (F : Nat → Int → Option γ) (n : Nat) (p : Nat → Bool) (E1 : Int → Option γ) (E0 : Option γ) (hn : n ≤ 1000000000000)
    (hs : ∀ (i m : Nat), i < n → F (m + 1) (i : Int) = bif p i then E1 (i : Int) else F m ((i + 1 : Nat) : Int)) (he : ∀ m : Nat, F (m + 1) (n : Int) = E0) :
    (∃ i, i < n ∧ p i = true ∧ (∀ j, j < i → p j = false) ∧ F fu 0 = E1 (i : Int)) ∨ ((∀ j, j < n → p j = false) ∧ F fu 0 = E0) := by
  obtain ⟨M, hM⟩ := fu_ge n hn
  have h1 : ∀ k i : Nat, i + k = n → (∀ j, j < i → p j = false) → (∃ i', i' < n ∧ p i' = true ∧ (∀ j, j < i' → p j = false) ∧ F (k + 1 + M) (i : Int) = E1 (i' : Int)) ∨ ((∀ j, j < n → p j = false) ∧ F (k + 1 + M) (i : Int) = E0) := by
    intro k
    induction k with
    | zero =>
      intro i hi hb
      obtain rfl : i = n := by omega
      exact .inr ⟨hb, by rw [show 0 + 1 + M = M + 1 from by omega, he]⟩
    | succ k ih =>
      intro i hi hb
      rw [show k + 1 + 1 + M = (k + 1 + M) + 1 from by omega, hs i _ (by omega)]
      cases hp : p i with
      | true => exact .inl ⟨i, by omega, hp, hb, rfl⟩
      | false =>
        rw [cond_false]
        refine ih (i + 1) (by omega) fun j hj => ?_
        rcases Nat.lt_or_ge j i with h | h
        · exact hb j h
        · obtain rfl : j = i := by omega
          exact hp
  rw [hM]
  exact h1 n 0 (by omega) (fun j hj => by omega)
theorem set_take {α : Type} (s : List α) (i : Nat) (x : α) (h : i < s.length) : (s.set i x).take (i + 1) = s.take i ++ [x] := by
  rw [List.take_add_one, List.take_set, List.getElem?_set_self h]
  congr 1
  rw [List.set_eq_of_length_le (by rw [List.length_take]; omega)]
theorem delLoop {α γ : Type} (F : Nat → Int → Int → List α → Option γ) (z : List α) (keep : α → Bool) (d : α) (E : Int → List α → Option γ) (hn : z.length ≤ 1000000000000)
    (hs : ∀ (i j m : Nat) (s : List α), i < j → j < z.length → s.length = z.length → F (m + 1) (i : Int) (j : Int) s = bif keep (nthI s (j : Int) d) then F m ((i + 1 : Nat) : Int) ((j + 1 : Nat) : Int) (s.set i (nthI s (j : Int) d)) else F m (i : Int) ((j + 1 : Nat) : Int) s)
    (he : ∀ (i m : Nat) (s : List α), i ≤ z.length → s.length = z.length → F (m + 1) (i : Int) (z.length : Int) s = E (i : Int) s)
    (i0 : Nat) (h0 : i0 < z.length) (hk : ∀ j, j < i0 → keep (nthI z (j : Int) d) = true) (hd : keep (nthI z (i0 : Int) d) = false) :
    ∃ (i : Nat) (s : List α), i ≤ z.length ∧ s.length = z.length ∧ s.take i = z.filter keep ∧ F fu (i0 : Int) ((i0 + 1 : Nat) : Int) z = E (i : Int) s := by
  obtain ⟨M, hM⟩ := fu_ge (z.length - (i0 + 1)) (by omega)
  have nth : ∀ (s : List α) (j : Nat), j < s.length → s[j]? = some (nthI s (j : Int) d) := by
    intro s j hj
    rw [nthI_nat, List.getD_eq_getElem?_getD, List.getElem?_eq_getElem hj]
    rfl
  have h1 : ∀ k i j : Nat, ∀ s : List α, j + k = z.length → i < j → s.length = z.length → s.take i = (z.take j).filter keep → s.drop j = z.drop j →
      ∃ (i' : Nat) (s' : List α), i' ≤ z.length ∧ s'.length = z.length ∧ s'.take i' = z.filter keep ∧ F (k + 1 + M) (i : Int) (j : Int) s = E (i' : Int) s' := by
    intro k
    induction k with
    | zero =>
      intro i j s hj hij hl ht hd
      obtain rfl : j = z.length := by omega
      rw [List.take_length] at ht
      exact ⟨i, s, by omega, hl, ht, by rw [show 0 + 1 + M = M + 1 from by omega, he i _ s (by omega) hl]⟩
    | succ k ih =>
      intro i j s hj hij hl ht hd
      have hx : nthI s (j : Int) d = nthI z (j : Int) d := by
        have h2 := nth s j (by omega)
        have h3 := nth z j (by omega)
        have h4 : s[j]? = z[j]? := by
          have := congrArg (fun l => l[0]?) hd
          simpa using this
        rw [h2, h3] at h4
        injection h4
      have hz : (z.take (j + 1)).filter keep = (z.take j).filter keep ++ (if keep (nthI z (j : Int) d) = true then [nthI z (j : Int) d] else []) := by
        rw [List.take_add_one, nth z j (by omega), List.filter_append]
        congr 1
        show List.filter keep [_] = _
        rw [List.filter_cons]
        rfl
      have hdr : z.drop (j + 1) = s.drop (j + 1) := by
        have := congrArg (List.drop 1) hd
        rw [List.drop_drop, List.drop_drop] at this
        exact this.symm
      rw [show k + 1 + 1 + M = (k + 1 + M) + 1 from by omega, hs i j _ s hij (by omega) hl, hx]
      cases hp : keep (nthI z (j : Int) d) with
      | true =>
        rw [cond_true]
        refine ih (i + 1) (j + 1) _ (by omega) (by omega) (by rw [List.length_set]; exact hl) ?_ ?_
        · rw [set_take s i _ (by omega), ht, hz, hp, if_pos rfl]
        · rw [List.drop_set_of_lt (by omega)]
          exact hdr.symm
      | false =>
        rw [cond_false]
        refine ih i (j + 1) s (by omega) (by omega) hl ?_ hdr.symm
        rw [ht, hz, hp, if_neg (by simp), List.append_nil]
  have hall : (z.take i0).filter keep = z.take i0 := by
    rw [List.filter_eq_self]
    intro x hx
    obtain ⟨j, hj, rfl⟩ := List.getElem_of_mem hx
    rw [List.length_take] at hj
    have h2 := nth z j (by omega)
    rw [List.getElem?_eq_getElem (by omega)] at h2
    injection h2 with h2
    rw [List.getElem_take, h2]
    exact hk j (by omega)
  have h2 := h1 (z.length - (i0 + 1)) i0 (i0 + 1) z (by omega) (by omega) rfl (by
    rw [List.take_add_one, nth z i0 h0, List.filter_append, hall]
    show _ = _ ++ List.filter keep [_]
    rw [List.filter_cons, if_neg (by rw [hd]; simp)]
    simp) rfl
  rw [hM]
  exact h2
def overB (q : Int) (a : List TItem) : List TItem := a.filter fun x => decide (q < x.1)
theorem pickL_filter {α : Type} (p : Nat → Bool) (P : α → Bool) (a : List α) (d : α) (h : ∀ i, p i = P (nthI a (i : Int) d)) : pickL p a d = a.filter P := by
  have e := range_map a d
  have e2 : a.filter P = ((List.range a.length).map (fun i : Nat => nthI a (i : Int) d)).filter P := by rw [e]
  rw [e2, List.filter_map]
  unfold pickL
  congr 2
  funext i
  exact h i

theorem one_cut {α : Type} (a : List α) (i : Nat) (d : α) (h : i < a.length) : (a.take (Int.toNat ((i + 1 : Nat) : Int))).drop (Int.toNat (i : Int)) = [nthI a (i : Int) d] := by
  rw [Int.toNat_natCast, Int.toNat_natCast, List.take_add_one, List.getElem?_eq_getElem h, List.drop_append_of_le_length (by rw [List.length_take]; omega), List.drop_of_length_le (by rw [List.length_take]; omega), nthI_nat, List.getD_eq_getElem?_getD, List.getElem?_eq_getElem h]
  rfl
theorem sAck_eq (c u nx g q : Int) (a : List TItem) (b : List TRec) (hn : a.length ≤ 1048576) (hb : b.length ≤ 1048576) (hv : ∀ x ∈ a, x.2.2.2.2.2.2.2.2.1.length ≤ 1048576) : S.BoxAck c u nx g q a b = some (if boxOk c u nx g a b then (c, u, nx, g, true, overB q a, b) else (0, 0, 0, 0, false, [], [])) := by
  unfold S.BoxAck
  rw [sBoxOk_eq, Option.bind_some]
  by_cases h : boxOk c u nx g a b
  · rw [decide_eq_true h, Bool.not_true, cond_false, if_pos h, l10Copy_eq c u nx g a b hn hb hv, Option.bind_some]
    have := filterLoop (fun m i acc => S.BoxAck_l0 m (fun y36 y37 y38 y39 y40 y41 y42 y43 y44 y45 => some (y40, y41, y42, y43, true, y44, y45)) q i c u nx g 0 0 0 0 c u nx g a b acc b) a.length (fun i => decide (q < (nthI a (i : Int) df1).1)) (fun i => nthI a (i : Int) df1) (fun acc => some (c, u, nx, g, true, acc, b)) (by omega) (fun i m acc hi hacc => ?_) (fun m acc => ?_)
    · exact this.trans (congrArg (fun l => some (c, u, nx, g, true, l, b)) (pickL_filter (fun i => decide (q < (nthI a (i : Int) df1).1)) (fun x : TItem => decide (q < x.1)) a df1 fun i => rfl))
    · show S.BoxAck_l0 (m + 1) _ _ _ _ _ _ _ _ _ _ _ _ _ _ _ _ _ _ _ = _
      have hdec : decide ((0 : Int) ≤ (i : Int) ∧ (i : Int) < (a.length : Int)) = true := decide_eq_true (by omega)
      have hw : IntKind.wrap .i64 ((i : Int) + 1) = ((i + 1 : Nat) : Int) := by rw [w64 (by omega) (by omega)]; rfl
      have hdec2 : decide ((0 : Int) ≤ (i : Int) ∧ (i : Int) ≤ ((i + 1 : Nat) : Int) ∧ ((i + 1 : Nat) : Int) ≤ (a.length : Int)) = true := decide_eq_true (by omega)
      have hx := hv _ (nthI_mem a i df1 hi)
      have hit := sItems_eq [nthI a (i : Int) df1] (by simp) (by intro x hx2; rw [List.mem_singleton.1 hx2]; exact hx)
      have h0 : nthI [nthI a (i : Int) df1] 0 df1 = nthI a (i : Int) df1 := rfl
      have hlen : decide ((0 : Int) ≤ 0 ∧ (0 : Int) < (([nthI a (i : Int) df1] : List TItem).length : Int)) = true := decide_eq_true (by simp)
      rw [S.BoxAck_l0, cdp (by omega)]
      simp only [hdec, cond_true, hw]
      cases hp : decide (q < (nthI a (i : Int) df1).1) with
      | false => rfl
      | true =>
        simp only [cond_true, hdec2, one_cut a i df1 hi, hit, Option.bind_some, hlen, h0]
        rw [cdp (by simp only [List.length_cons, List.length_nil]; omega)]
    · show S.BoxAck_l0 (m + 1) _ _ _ _ _ _ _ _ _ _ _ _ _ _ _ _ _ _ _ = _
      rw [S.BoxAck_l0, cdn (by omega)]
  · rw [decide_eq_false h, Bool.not_false, cond_true, if_neg h]
abbrev HItem := Int × Int × Int × Int × Int × Int × Int × Int × (HD × List Int) × Bool
def nmI (y : HItem) : TItem := (y.1, y.2.1, y.2.2.1, y.2.2.2.1, y.2.2.2.2.1, y.2.2.2.2.2.1, y.2.2.2.2.2.2.1, y.2.2.2.2.2.2.2.1, y.2.2.2.2.2.2.2.2.1.2, y.2.2.2.2.2.2.2.2.2)
theorem iDel_eq (q : Int) (z : List HItem) (hn : z.length ≤ 1048576) : G.slices.DeleteFunc_Item q z = some (q, z.filter fun x => decide (q < x.1)) := by
  have nth : ∀ j : Nat, j < z.length → (nthI (List.map nmI z) (j : Int) df1).1 = (nthI z (j : Int) df3).1 := by
    intro j hj
    rw [nthI_nat, nthI_nat, List.getD_eq_getElem?_getD, List.getD_eq_getElem?_getD, List.getElem?_map, List.getElem?_eq_getElem hj]
    rfl
  have hml : (List.map nmI z).length = z.length := List.length_map ..
  have hkeep : ∀ x : Int, (!decide (x ≤ q)) = decide (q < x) := by
    intro x
    by_cases h : x ≤ q
    · rw [decide_eq_true h, decide_eq_false (by omega)]; rfl
    · rw [decide_eq_false h, decide_eq_true (by omega)]; rfl
  have hidx : (∃ i, i < z.length ∧ decide ((nthI z (i : Int) df3).1 ≤ q) = true ∧ (∀ j, j < i → decide ((nthI z (j : Int) df3).1 ≤ q) = false) ∧ G.slices.IndexFunc_Item q (List.map nmI z) = some ((i : Int), q)) ∨ ((∀ j, j < z.length → decide ((nthI z (j : Int) df3).1 ≤ q) = false) ∧ G.slices.IndexFunc_Item q (List.map nmI z) = some (-1, q)) := by
    refine idxLoop (fun m i => G.slices.IndexFunc_Item_l0 m (fun y11 y12 => some (y11, y12)) (fun y13 => some ((-1), y13)) ((List.map nmI z).length : Int) i q (List.map nmI z)) z.length (fun i => decide ((nthI z (i : Int) df3).1 ≤ q)) (fun i => some (i, q)) (some (-1, q)) (by omega) (fun i m hi => ?_) (fun m => ?_)
    · show G.slices.IndexFunc_Item_l0 (m + 1) _ _ _ _ _ _ = _
      have hdec : decide ((0 : Int) ≤ (i : Int) ∧ (i : Int) < ((List.map nmI z).length : Int)) = true := decide_eq_true (by omega)
      rw [G.slices.IndexFunc_Item_l0, cdp (by omega)]
      simp only [hdec, cond_true, I.Box_ack_1, Option.bind_some, nth i hi]
      rw [w64 (by omega) (by omega)]
      rfl
    · show G.slices.IndexFunc_Item_l0 (m + 1) _ _ _ _ _ _ = _
      rw [G.slices.IndexFunc_Item_l0, cdn (by omega)]
  have hget : ∀ x ∈ z, ∃ j : Nat, j < z.length ∧ x = nthI z (j : Int) df3 := by
    intro x hx
    obtain ⟨j, hj, rfl⟩ := List.getElem_of_mem hx
    refine ⟨j, hj, ?_⟩
    rw [nthI_nat, List.getD_eq_getElem?_getD, List.getElem?_eq_getElem hj]
    rfl
  have hX : G.slices.DeleteFunc_Item q z = (Option.bind (G.slices.IndexFunc_Item q (List.map nmI z)) fun r3 =>
    (bif (r3.1 == (-1)) then (some (r3.2, z)) else
    (G.slices.DeleteFunc_Item_l0 fu (fun y16 y17 y18 =>
      (bif decide ((0 : Int) ≤ y16 ∧ y16 ≤ (y18.length : Int) ∧ (y18.length : Int) ≤ (y18.length : Int)) then
      (let v19 : List HItem := (clr y18 (Int.toNat y16) (Int.toNat (y18.length : Int) - Int.toNat y16) df3)
      (bif decide ((0 : Int) ≤ 0 ∧ 0 ≤ y16 ∧ y16 ≤ (v19.length : Int)) then
      (some (y17, (List.take (Int.toNat y16) v19)))
      else
      none))
      else
      none)) r3.1 (IntKind.wrap .i64 (r3.1 + 1)) r3.2 z))) := rfl
  rw [hX]
  rcases hidx with ⟨i, hi, hp, hb, hr⟩ | ⟨hb, hr⟩
  · rw [hr, Option.bind_some, cen (by omega)]
    have hdl := delLoop (fun m i j s => G.slices.DeleteFunc_Item_l0 m (fun y16 y17 y18 =>
      (bif decide ((0 : Int) ≤ y16 ∧ y16 ≤ (y18.length : Int) ∧ (y18.length : Int) ≤ (y18.length : Int)) then
      (let v19 : List HItem := (clr y18 (Int.toNat y16) (Int.toNat (y18.length : Int) - Int.toNat y16) df3)
      (bif decide ((0 : Int) ≤ 0 ∧ 0 ≤ y16 ∧ y16 ≤ (v19.length : Int)) then
      (some (y17, (List.take (Int.toNat y16) v19)))
      else
      none))
      else
      none)) i j q s) z (fun x => decide (q < x.1)) df3 (fun i s => some (q, s.take i.toNat)) (by omega) (fun i j m s hij hj hl => ?_) (fun i m s hi hl => ?_) i hi (fun j hj => by rw [← hkeep, hb j hj]; rfl) (by rw [← hkeep, hp]; rfl)
    · obtain ⟨i', s', h1, h2, h3, h4⟩ := hdl
      rw [Int.toNat_natCast, h3] at h4
      rw [w64 (by omega) (by omega)]
      exact h4
    · show G.slices.DeleteFunc_Item_l0 (m + 1) _ _ _ _ _ = _
      have hdec : decide ((0 : Int) ≤ (j : Int) ∧ (j : Int) < (s.length : Int)) = true := decide_eq_true (by omega)
      have hdec2 : decide ((0 : Int) ≤ (i : Int) ∧ (i : Int) < (s.length : Int)) = true := decide_eq_true (by omega)
      have hw1 : IntKind.wrap .i64 ((i : Int) + 1) = ((i + 1 : Nat) : Int) := by rw [w64 (by omega) (by omega)]; rfl
      have hw2 : IntKind.wrap .i64 ((j : Int) + 1) = ((j + 1 : Nat) : Int) := by rw [w64 (by omega) (by omega)]; rfl
      rw [G.slices.DeleteFunc_Item_l0, cdp (by omega)]
      simp only [hdec, hdec2, cond_true, I.Box_ack_1, Option.bind_some, hw1, hw2, Int.toNat_natCast]
      rw [hkeep]
    · show G.slices.DeleteFunc_Item_l0 (m + 1) _ _ _ _ _ = _
      have hcl : (clr s i (s.length - i) (df3 : HItem)).length = s.length := clr_len (by omega)
      have hct : (clr s i (s.length - i) (df3 : HItem)).take i = s.take i := by
        unfold clr
        rw [List.append_assoc, List.take_append_of_le_length (by rw [List.length_take]; omega), List.take_take, Nat.min_self]
      have hdec : decide ((0 : Int) ≤ (i : Int) ∧ (i : Int) ≤ (s.length : Int) ∧ (s.length : Int) ≤ (s.length : Int)) = true := decide_eq_true (by omega)
      have hdec2 : decide ((0 : Int) ≤ 0 ∧ (0 : Int) ≤ (i : Int) ∧ (i : Int) ≤ (s.length : Int)) = true := decide_eq_true (by omega)
      rw [G.slices.DeleteFunc_Item_l0, cdn (by omega)]
      simp only [hdec, cond_true, Int.toNat_natCast, hcl, hdec2, hct]
  · rw [hr, Option.bind_some, cep rfl]
    congr 2
    rw [eq_comm, List.filter_eq_self]
    intro x hx
    obtain ⟨j, hj, rfl⟩ := hget x hx
    rw [← hkeep, hb j hj]
    rfl
theorem iAck_eq (c u nx g q : Int) (a : List TItem) (b : List TRec) (hn : a.length ≤ 1048576) : I.Box_ack q c u nx g a b = some (c, u, nx, g, b, overB q a) := by
  unfold I.Box_ack
  refine anyH_eq fun hs hl hnd => ?_
  have hzl : (List.zipWith (Sh.att sh1) hs a).length ≤ 1048576 := Nat.le_trans (Nat.le_of_eq List.length_zipWith) (Nat.le_trans (Nat.min_le_right _ _) hn)
  have h1 : List.map (Sh.bare sh1) (List.zipWith (Sh.att sh1) hs a) = a := zip_bare sh1 hs a hl
  have h2 : List.map (Sh.bare sh1) ((List.zipWith (Sh.att sh1) hs a).filter fun x : HItem => decide (q < x.1)) = (List.map (Sh.bare sh1) (List.zipWith (Sh.att sh1) hs a)).filter fun x : TItem => decide (q < x.1) := (List.filter_map (f := Sh.bare sh1) (p := fun x : TItem => decide (q < x.1))).symm
  have hb : List.map (Sh.bare sh1) ((List.zipWith (Sh.att sh1) hs a).filter fun x : HItem => decide (q < x.1)) = overB q a := h2.trans (congrArg (List.filter fun x : TItem => decide (q < x.1)) h1)
  exact (congrArg (fun o : Option (Int × List HItem) => Option.bind o fun r9 => thaw sh1 (List.zipWith (Sh.att sh1) hs a) r9.2 (some (c, u, nx, g, b, (List.map (Sh.bare sh1) r9.2 : List TItem)))) (iDel_eq q _ hzl)).trans ((thaw_eq (thaw_part (s := sh1) rfl hl hnd (List.Perm.refl _) List.filter_sublist)).trans (congrArg (fun l : List TItem => some (c, u, nx, g, b, l)) hb))
theorem iBoxAck_eq (c u nx g q : Int) (a : List TItem) (b : List TRec) (hn : a.length ≤ 1048576) (hb : b.length ≤ 1048576) (hv : ∀ x ∈ a, x.2.2.2.2.2.2.2.2.1.length ≤ 1048576) : I.BoxAck c u nx g q a b = some (if boxOk c u nx g a b then (c, u, nx, g, true, overB q a, b) else (0, 0, 0, 0, false, [], [])) := by
  unfold I.BoxAck
  rw [iBoxOk_eq, Option.bind_some]
  by_cases h : boxOk c u nx g a b
  · rw [decide_eq_true h, Bool.not_true, cond_false, if_pos h, boxCopied_eq c u nx g a b hn hb hv, Option.bind_some, iAck_eq c u nx g q a b hn, Option.bind_some]
  · rw [decide_eq_false h, Bool.not_false, cond_true, if_neg h]
theorem FnExactBoxAck : StmtFnExactBoxAck.Stmt := by
  intro c u nx g a b q hc hu hnx hg ha hb hq
  have hsz : L.szBox c u nx g 1048576 a b = some (if ((cItemS a + b.length : Nat) : Int) ≤ 1048576 then 1048576 - ((cItemS a + b.length : Nat) : Int) else -1) := szBox_eq (c, u, nx, g, a, b) 1048576 (by omega) (by omega) ⟨hc, hu, hnx, hg, ha, hb⟩
  unfold L.FnExactBoxAck
  rw [hsz, Option.bind_some]
  by_cases hl : ((cItemS a + b.length : Nat) : Int) ≤ 1048576
  · have hla := cItemS_len a
    have hv := items_vals (a := a) (n := 1048576) (by omega)
    have hto : L.toBox c u nx g a b = some (c, u, nx, g, a, b) := toBox_eq (c, u, nx, g, a, b) (show cItemS a + b.length ≤ _ by omega)
    have heq : L.eqBox c u nx g c u nx g a b a b = some (decide ((c, u, nx, g, a, b) = (c, u, nx, g, a, b))) := eqBox_eq (c, u, nx, g, a, b) (c, u, nx, g, a, b) (show cItemS a + b.length ≤ _ by omega)
    have hwa := wItemS_le a
    have hmk : L.markBox c u nx g 1 a b = some (1 + (((wItemS a : Nat) : Int) + 3 * (b.length : Int)), mItemS 1 a, mRecS (1 + ((wItemS a : Nat) : Int)) b) := markBox_eq (c, u, nx, g, a, b) 1 (by omega) (show a.length ≤ _ by omega) (show 1 + (((wItemS a : Nat) : Int) + 3 * (b.length : Int)) ≤ _ by omega)
    rw [if_pos hl, cdn (by omega)]
    have hS := sAck_eq c u nx g q a b (by omega) (by omega) hv
    have hI := iBoxAck_eq c u nx g q a b (by omega) (by omega) hv
    obtain ⟨w, hw⟩ : ∃ w : Int × Int × Int × Int × Bool × List TItem × List TRec, w = if boxOk c u nx g a b then (c, u, nx, g, true, overB q a, b) else (0, 0, 0, 0, false, [], []) := ⟨_, rfl⟩
    rw [← hw] at hS hI
    have hwb : cItemS w.2.2.2.2.2.1 ≤ 1048576 ∧ w.2.2.2.2.2.2.length ≤ 1048576 := by
      rw [hw]
      split
      · refine ⟨?_, by show b.length ≤ _; omega⟩
        show cItemS (overB q a) ≤ _
        have h1 := sum_sub cItem (List.filter_sublist (p := fun x : TItem => decide (q < x.1)) (l := a))
        have h2 := (List.filter_sublist (p := fun x : TItem => decide (q < x.1)) (l := a)).length_le
        unfold cItemS at hl ⊢
        unfold overB
        omega
      · exact ⟨by show cItemS [] ≤ _; simp [cItemS], by show ([] : List TRec).length ≤ _; simp⟩
    obtain ⟨w1, w2, w3, w4, w5, w6, w7⟩ := w
    obtain ⟨hw6, hw7⟩ : cItemS w6 ≤ 1048576 ∧ w7.length ≤ 1048576 := hwb
    have hww := wItemS_le w6
    have hlw := cItemS_len w6
    have he1 : L.eqBox w1 w2 w3 w4 w1 w2 w3 w4 w6 w7 w6 w7 = some (decide ((w1, w2, w3, w4, w6, w7) = (w1, w2, w3, w4, w6, w7))) := eqBox_eq (w1, w2, w3, w4, w6, w7) (w1, w2, w3, w4, w6, w7) (show cItemS w6 + w7.length ≤ _ by omega)
    have hm1 : L.markBox w1 w2 w3 w4 1 w6 w7 = some (1 + (((wItemS w6 : Nat) : Int) + 3 * (w7.length : Int)), mItemS 1 w6, mRecS (1 + ((wItemS w6 : Nat) : Int)) w7) := markBox_eq (w1, w2, w3, w4, w6, w7) 1 (by omega) (show w6.length ≤ _ by omega) (show 1 + (((wItemS w6 : Nat) : Int) + 3 * (w7.length : Int)) ≤ _ by omega)
    have hh1 : L.heldBox w1 w2 w3 w4 1 (mItemS 1 w6) (mRecS (1 + ((wItemS w6 : Nat) : Int)) w7) = some (1 + (((wItemS w6 : Nat) : Int) + 3 * (w7.length : Int))) := heldBox_eq (w1, w2, w3, w4, w6, w7) 1 (by omega) (show w6.length ≤ _ by omega) (show 1 + (((wItemS w6 : Nat) : Int) + 3 * (w7.length : Int)) ≤ _ by omega)
    have d1 : decide (1 + (((wItemS a : Nat) : Int) + 3 * (b.length : Int)) < 0) = false := decide_eq_false (by omega)
    have d2 : decide (1 + (((wItemS w6 : Nat) : Int) + 3 * (w7.length : Int)) < 0) = false := decide_eq_false (by omega)
    simp only [hto, hS, hI, heq, hmk, he1, hm1, hh1, d1, d2, Option.bind_some, decide_true, beq_self_eq_true, Bool.not_true, cond_false, bne_self_eq_false, dup_eq, same_self]
  · rw [if_neg hl, cdp (by omega)]
end Go.Proofs.Ytidojhgkpgomcaa.Pure
