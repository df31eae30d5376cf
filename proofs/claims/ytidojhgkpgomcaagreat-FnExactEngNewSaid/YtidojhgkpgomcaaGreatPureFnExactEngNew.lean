/- EngNew of the program returns what the reference's returns. For every argument. -/
import Derived.Test.YtidojhgkpgomcaaGreatStmtFnExactEngNew
import Derived.Laws.BitsLemmas
import Derived.Laws.BitsAllLaws
import Derived.Laws.Bits64b
namespace Go.Proofs.YtidojhgkpgomcaaGreat.Pure
open Go Go.RowKit Go.Proofs.YtidojhgkpgomcaaGreat.Run Go.Proofs.YtidojhgkpgomcaaGreat.StmtFnExactEngNew Go.Proofs.YtidojhgkpgomcaaGreatW.PrintWords Go.Proofs.YtidojhgkpgomcaaGreat.Vm
set_option linter.unusedVariables false
set_option linter.unusedSimpArgs false
set_option linter.unusedSectionVars false
theorem cdp {α : Type} {p : Prop} [Decidable p] {a b : α} (h : p) : (bif decide p then a else b) = a := by simp [h]
theorem cdn {α : Type} {p : Prop} [Decidable p] {a b : α} (h : ¬ p) : (bif decide p then a else b) = b := by simp [h]
theorem cnp {α : Type} {x y : Int} {a b : α} (h : x ≠ y) : (bif (x != y) then a else b) = a := by rw [show (x != y) = true from by simpa using h]; rfl
theorem cnn {α : Type} {x y : Int} {a b : α} (h : x = y) : (bif (x != y) then a else b) = b := by simp [bne, h]
theorem cep {α : Type} {x y : Int} {a b : α} (h : x = y) : (bif (x == y) then a else b) = a := by simp [h]
theorem cen {α : Type} {x y : Int} {a b : α} (h : x ≠ y) : (bif (x == y) then a else b) = b := by rw [show (x == y) = false from by simpa using h]; rfl
theorem cond_some {α : Type} (c : Bool) (x y : α) : (bif c then some x else some y) = some (bif c then x else y) := by cases c <;> rfl
theorem cond_and (c x : Bool) : (bif c then x else false) = (c && x) := by cases c <;> rfl
theorem dand (p q : Prop) [Decidable p] [Decidable q] : (decide p && decide q) = decide (p ∧ q) := by by_cases p <;> by_cases q <;> simp_all
theorem w64 {n : Int} (h0 : -9223372036854775808 ≤ n) (h1 : n < 9223372036854775808) : IntKind.i64.wrap n = n := by rw [IntKind.wrap_i64]; omega
theorem u64_mod (n : Int) : IntKind.u64.wrap n = n % 18446744073709551616 := by simp [IntKind.wrap, IntKind.bits, IntKind.signed]
theorem u64w {n : Int} (h0 : 0 ≤ n) (h1 : n < 18446744073709551616) : IntKind.u64.wrap n = n := by rw [u64_mod]; omega
theorem u8_mod (n : Int) : IntKind.u8.wrap n = n % 256 := by simp [IntKind.wrap, IntKind.bits, IntKind.signed]
theorem i64_wf {n : Int} (h : (Lit.int .i64 n).wf = true) : -9223372036854775808 ≤ n ∧ n < 9223372036854775808 := by
  simp only [Lit.wf, IntKind.min, IntKind.max, IntKind.signed, IntKind.bits, Bool.and_eq_true, decide_eq_true_eq, if_true] at h
  omega
theorem fu_ge (d : Nat) (h : d ≤ 1000000000000) : ∃ m, fu = d + 1 + m := ⟨fu - d - 1, by rw [fu_eq]; omega⟩
theorem nthI_nat {α : Type} (xs : List α) (i : Nat) (d : α) : nthI xs (i : Int) d = xs.getD i d := rfl
theorem nthI_mem {α : Type} (a : List α) (i : Nat) (d : α) (h : i < a.length) : nthI a (i : Int) d ∈ a := by
  rw [nthI_nat, List.getD_eq_getElem?_getD, List.getElem?_eq_getElem h]; simp
theorem nthI_set {α : Type} (xs : List α) (i : Nat) (y d : α) (h : i < xs.length) : nthI (xs.set i y) (i : Int) d = y := by
  rw [nthI_nat, List.getD_eq_getElem?_getD, List.getElem?_set_self h]; rfl
theorem drop_at {α : Type} (xs : List α) (i : Nat) (d : α) (h : i < xs.length) : xs.drop i = nthI xs (i : Int) d :: xs.drop (i + 1) := by
  rw [nthI_nat, List.getD_eq_getElem?_getD, List.getElem?_eq_getElem h]; exact List.drop_eq_getElem_cons h
theorem cneI {x y : Int} {k : Option Bool} : (bif (x != y) then some false else k) = bif decide (x = y) then k else some false := by
  by_cases h : x = y
  · rw [cnn h, cdp h]
  · rw [cnp h, cdn h]
theorem cneB {x y : Bool} {k : Option Bool} : (bif (!(x == y)) then some false else k) = bif decide (x = y) then k else some false := by
  cases x <;> cases y <;> rfl
theorem cbeB {x y : Bool} {k : Option Bool} : (bif (x == y) then k else some false) = bif decide (x = y) then k else some false := by cases x <;> cases y <;> rfl
theorem cnotb {r : Bool} {k : Option Bool} : (bif (!r) then some false else k) = bif r then k else some false := by cases r <;> rfl
theorem cds {p q : Prop} [Decidable p] [Decidable q] : (bif decide p then some (decide q) else some false) = some (decide (p ∧ q)) := by
  by_cases p <;> by_cases q <;> simp_all
theorem cdt {p : Prop} [Decidable p] : (bif decide p then some true else some false) = some (decide p) := by by_cases p <;> simp_all
theorem sdec {p q : Prop} [Decidable p] [Decidable q] (h : q ↔ p) : some (decide q) = some (decide p) := congrArg some (decide_eq_decide.mpr h)
theorem sfal {p : Prop} [Decidable p] (h : ¬ p) : some false = some (decide p) := by rw [decide_eq_false h]
theorem sbool {b : Bool} {p : Prop} [Decidable p] (h : b = true ↔ p) : some b = some (decide p) := by
  by_cases c : p
  · rw [h.2 c, decide_eq_true c]
  · rw [decide_eq_false c, Bool.eq_false_iff.2 fun e => c (h.1 e)]
theorem sum_mem {l : List Nat} {x : Nat} (h : x ∈ l) : x ≤ l.sum := by
  induction l with
  | nil => cases h
  | cons y l ih =>
    rw [List.sum_cons]
    rcases List.mem_cons.1 h with rfl | h
    · omega
    · have := ih h; omega
theorem toLoop {α : Type} (F : Nat → Int → List α → Option (List α)) (a : List α) (d : α) (hn : a.length ≤ 1000000000000)
    (hs : ∀ (i m : Nat) (xs : List α), i < a.length → xs.length = a.length → F (m + 1) (i : Int) xs = F m ((i + 1 : Nat) : Int) (xs.set i (nthI a (i : Int) d)))
    (he : ∀ (m : Nat) (xs : List α), F (m + 1) (a.length : Int) xs = some xs) (xs : List α) (hx : xs.length = a.length) : F fu 0 xs = some a := by
  obtain ⟨M, hM⟩ := fu_ge a.length hn
  have h1 : ∀ k i : Nat, ∀ xs : List α, xs.length = a.length → i ≤ a.length → a.length - i = k → xs.take i = a.take i → F (k + 1 + M) (i : Int) xs = some a := by
    intro k
    induction k with
    | zero =>
      intro i xs hx hi hd ht
      obtain rfl : i = a.length := by omega
      rw [List.take_of_length_le (by omega), List.take_of_length_le (by omega)] at ht
      subst ht
      rw [show 0 + 1 + M = M + 1 from by omega]
      exact he M xs
    | succ k ih =>
      intro i xs hx hi hd ht
      have hi2 : i < a.length := by omega
      rw [show k + 1 + 1 + M = (k + 1 + M) + 1 from by omega, hs i _ xs hi2 hx]
      refine ih (i + 1) _ (by simpa using hx) (by omega) (by omega) ?_
      rw [nthI_nat, List.getD_eq_getElem?_getD, List.getElem?_eq_getElem hi2, Option.getD_some, List.take_add_one, List.take_add_one, List.take_set_of_le (Nat.le_refl i), ht]
      simp [show i < xs.length from by omega, hi2]
  rw [hM]
  exact h1 a.length 0 xs hx (by omega) (by omega) (by simp)
theorem eqLoop {α : Type} [DecidableEq α] (F : Nat → Int → Option Bool) (a b : List α) (d : α) (hl : a.length = b.length) (hn : a.length ≤ 1000000000000)
    (hs : ∀ (i m : Nat), i < a.length → F (m + 1) (i : Int) = bif decide (nthI a (i : Int) d = nthI b (i : Int) d) then F m ((i + 1 : Nat) : Int) else some false)
    (he : ∀ m : Nat, F (m + 1) (a.length : Int) = some true) : F fu 0 = some (decide (a = b)) := by
  obtain ⟨M, hM⟩ := fu_ge a.length hn
  have h1 : ∀ k i : Nat, i ≤ a.length → a.length - i = k → F (k + 1 + M) (i : Int) = some (decide (a.drop i = b.drop i)) := by
    intro k
    induction k with
    | zero =>
      intro i hi hd
      obtain rfl : i = a.length := by omega
      rw [show 0 + 1 + M = M + 1 from by omega, he, List.drop_of_length_le (by omega), List.drop_of_length_le (by omega)]
      simp
    | succ k ih =>
      intro i hi hd
      rw [show k + 1 + 1 + M = (k + 1 + M) + 1 from by omega, hs i _ (by omega), drop_at a i d (by omega), drop_at b i d (by omega), ih (i + 1) (by omega) (by omega)]
      by_cases e : nthI a (i : Int) d = nthI b (i : Int) d
      · rw [cdp e, e]
        generalize nthI b (i : Int) d = x
        simp
      · rw [cdn e]
        generalize nthI b (i : Int) d = x at *
        generalize nthI a (i : Int) d = y at *
        simp [e]
  rw [hM]
  simpa using h1 a.length 0 (by omega) (by omega)
theorem eqTop {α : Type} [DecidableEq α] (a b : List α) {k : Option Bool} (h : a.length = b.length → k = some (decide (a = b))) : (bif ((a.length : Int) != (b.length : Int)) then some false else k) = some (decide (a = b)) := by
  by_cases e : a.length = b.length
  · rw [cnn (by omega), h e]
  · rw [cnp (by omega), decide_eq_false (fun h => e (by rw [h]))]
theorem szLoop {α : Type} (F : Nat → Int → Int → Option Int) (a : List α) (d : α) (c : α → Nat) (hn : a.length ≤ 1000000000000)
    (hs : ∀ (i m : Nat) (l : Int), i < a.length → 0 ≤ l → l ≤ 1000000000000 → F (m + 1) l (i : Int) = if (c (nthI a (i : Int) d) : Int) ≤ l then F m (l - (c (nthI a (i : Int) d) : Int)) ((i + 1 : Nat) : Int) else some (-1))
    (he : ∀ (m : Nat) (l : Int), F (m + 1) l (a.length : Int) = some l) (l : Int) (h0 : 0 ≤ l) (h1 : l ≤ 1000000000000) : F fu l 0 = some (if (((a.map c).sum : Nat) : Int) ≤ l then l - (((a.map c).sum : Nat) : Int) else -1) := by
  obtain ⟨M, hM⟩ := fu_ge a.length hn
  have h2 : ∀ k i : Nat, ∀ l : Int, 0 ≤ l → l ≤ 1000000000000 → i ≤ a.length → a.length - i = k → F (k + 1 + M) l (i : Int) = some (if ((((a.drop i).map c).sum : Nat) : Int) ≤ l then l - ((((a.drop i).map c).sum : Nat) : Int) else -1) := by
    intro k
    induction k with
    | zero =>
      intro i l h0 h1 hi hd
      obtain rfl : i = a.length := by omega
      rw [show 0 + 1 + M = M + 1 from by omega, he, List.drop_of_length_le (by omega)]
      simp [h0]
    | succ k ih =>
      intro i l h0 h1 hi hd
      rw [show k + 1 + 1 + M = (k + 1 + M) + 1 from by omega, hs i _ l (by omega) h0 h1, drop_at a i d (by omega), List.map_cons, List.sum_cons]
      by_cases e : (c (nthI a (i : Int) d) : Int) ≤ l
      · rw [if_pos e, ih (i + 1) _ (by omega) (by omega) (by omega) (by omega)]
        congr 1
        split <;> split <;> omega
      · rw [if_neg e, if_neg (by omega)]
  rw [hM]
  simpa using h2 a.length 0 l h0 h1 (by omega) (by omega)
def markAll {α : Type} (m1 : Int → α → α) (w1 : α → Nat) : Int → List α → List α
  | _, [] => []
  | k, x :: xs => m1 k x :: markAll m1 w1 (k + (w1 x : Int)) xs
theorem markAll_length {α : Type} (m1 : Int → α → α) (w1 : α → Nat) : ∀ (a : List α) (k : Int), (markAll m1 w1 k a).length = a.length
  | [], _ => rfl
  | x :: xs, k => by simp [markAll, markAll_length m1 w1 xs]
theorem cmod3 : decide ((3 : Int) = 0) = false := rfl
theorem markLoop {α : Type} (F : Nat → Int → Int → List α → Option (Int × List α)) (m1 : Int → α → α) (w1 : α → Nat) (a : List α) (d : α) (nl : Nat) (hw : ∀ x, w1 x = nl) {k : Int} (h0 : 0 ≤ k) (hn : a.length ≤ 1000000000000) (hc : k + (nl : Int) * (a.length : Int) ≤ 1000000000000)
    (hs : ∀ (i m : Nat) (k : Int) (xs : List α), i < a.length → xs.length = a.length → 0 ≤ k → k + (nl : Int) ≤ 1000000000000 → F (m + 1) k (i : Int) xs = F m (k + (nl : Int)) ((i + 1 : Nat) : Int) (xs.set i (m1 k (nthI xs (i : Int) d))))
    (he : ∀ (m : Nat) (k : Int) (xs : List α), xs.length = a.length → F (m + 1) k (a.length : Int) xs = some (k, xs)) : F fu k 0 a = some (k + (nl : Int) * (a.length : Int), markAll m1 w1 k a) := by
  obtain ⟨M, hM⟩ := fu_ge a.length hn
  have h1 : ∀ q i : Nat, ∀ (k : Int) (xs : List α), xs.length = a.length → i ≤ a.length → a.length - i = q → 0 ≤ k → k + (nl : Int) * (q : Int) ≤ 1000000000000 → F (q + 1 + M) k (i : Int) xs = some (k + (nl : Int) * (q : Int), xs.take i ++ markAll m1 w1 k (xs.drop i)) := by
    intro q
    induction q with
    | zero =>
      intro i k xs hx hi hd h0 hc
      obtain rfl : i = a.length := by omega
      rw [show 0 + 1 + M = M + 1 from by omega, he _ _ _ hx, List.take_of_length_le (by omega), List.drop_of_length_le (by omega)]
      simp [markAll]
    | succ q ih =>
      intro i k xs hx hi hd h0 hc
      have e : (nl : Int) * ((q + 1 : Nat) : Int) = (nl : Int) * (q : Int) + nl := by rw [Int.natCast_add, Int.mul_add]; simp
      have hq : 0 ≤ (nl : Int) * (q : Int) := Int.mul_nonneg (by omega) (by omega)
      rw [e] at hc ⊢
      rw [show q + 1 + 1 + M = (q + 1 + M) + 1 from by omega, hs i _ k xs (by omega) hx h0 (by omega), ih (i + 1) _ _ (by simpa using hx) (by omega) (by omega) (by omega) (by omega), drop_at xs i d (by omega), markAll, hw]
      have hi2 : i < xs.length := by omega
      rw [List.take_add_one, List.getElem?_set_self hi2, List.take_set_of_le (Nat.le_refl i), List.drop_set_of_lt (by omega)]
      simp
      omega
  rw [hM]
  have := h1 a.length 0 k a rfl (by omega) (by omega) h0 hc
  simpa using this
theorem markAll_nth {α : Type} (m1 : Int → α → α) (w1 : α → Nat) (nl : Nat) (hw : ∀ x, w1 x = nl) (d : α) : ∀ (a : List α) (k : Int) (i : Nat), i < a.length → nthI (markAll m1 w1 k a) (i : Int) d = m1 (k + (nl : Int) * (i : Int)) (nthI a (i : Int) d)
  | [], _, i, h => by simp at h
  | x :: xs, k, 0, _ => by simp [markAll, nthI]
  | x :: xs, k, i + 1, h => by
    have := markAll_nth m1 w1 nl hw d xs (k + (w1 x : Int)) i (by simpa using h)
    rw [nthI_nat, nthI_nat] at this ⊢
    rw [markAll, List.getD_cons_succ, List.getD_cons_succ, this, hw, Int.natCast_add, Int.mul_add]
    congr 1
    omega
theorem heldLoop {α : Type} (F : Nat → Int → Int → Option Int) (m1 : Int → α → α) (w1 : α → Nat) (a : List α) (d : α) (nl : Nat) (hw : ∀ x, w1 x = nl) (k : Int) (h0 : 0 ≤ k) (hn : a.length ≤ 1000000000000) (hc : k + (nl : Int) * (a.length : Int) ≤ 1000000000000)
    (hs : ∀ (i m : Nat) (j : Int), i < a.length → 0 ≤ j → j + (nl : Int) ≤ 1000000000000 → nthI (markAll m1 w1 k a) (i : Int) d = m1 j (nthI a (i : Int) d) → F (m + 1) j (i : Int) = F m (j + (nl : Int)) ((i + 1 : Nat) : Int))
    (he : ∀ (m : Nat) (j : Int), F (m + 1) j (a.length : Int) = some j) : F fu k 0 = some (k + (nl : Int) * (a.length : Int)) := by
  obtain ⟨M, hM⟩ := fu_ge a.length hn
  have h1 : ∀ q i : Nat, i ≤ a.length → a.length - i = q → F (q + 1 + M) (k + (nl : Int) * (i : Int)) (i : Int) = some (k + (nl : Int) * (a.length : Int)) := by
    intro q
    induction q with
    | zero =>
      intro i hi hd
      obtain rfl : i = a.length := by omega
      rw [show 0 + 1 + M = M + 1 from by omega, he]
    | succ q ih =>
      intro i hi hd
      have e : (nl : Int) * ((i + 1 : Nat) : Int) = (nl : Int) * (i : Int) + nl := by rw [Int.natCast_add, Int.mul_add]; simp
      have hq : 0 ≤ (nl : Int) * (i : Int) := Int.mul_nonneg (by omega) (by omega)
      have hle : (nl : Int) * ((i + 1 : Nat) : Int) ≤ (nl : Int) * (a.length : Int) := Int.mul_le_mul_of_nonneg_left (by omega) (by omega)
      rw [show q + 1 + 1 + M = (q + 1 + M) + 1 from by omega, hs i _ _ (by omega) (by omega) (by omega) (markAll_nth m1 w1 nl hw d a k i (by omega))]
      have := ih (i + 1) (by omega) (by omega)
      rw [e] at this
      rw [show k + (nl : Int) * (i : Int) + (nl : Int) = k + ((nl : Int) * (i : Int) + (nl : Int)) from by omega]
      exact this
  rw [hM]
  have := h1 a.length 0 (by omega) (by omega)
  simpa using this
theorem allLoop (F : Nat → Int → Option Bool) (n : Nat) (p : Nat → Prop) [DecidablePred p] (e : Bool) (hn : n ≤ 1000000000000)
    (hs : ∀ (i m : Nat), i < n → F (m + 1) (i : Int) = bif decide (p i) then F m ((i + 1 : Nat) : Int) else some false)
    (he : ∀ m : Nat, F (m + 1) (n : Int) = some e) : F fu 0 = some (decide (∀ j, j < n → p j) && e) := by
  obtain ⟨M, hM⟩ := fu_ge n hn
  have h1 : ∀ k i : Nat, i + k = n → (∀ j, j < i → p j) → F (k + 1 + M) (i : Int) = some (decide (∀ j, j < n → p j) && e) := by
    intro k
    induction k with
    | zero =>
      intro i hi hp
      obtain rfl : i = n := by omega
      rw [show 0 + 1 + M = M + 1 from by omega, he, decide_eq_true hp]
      rfl
    | succ k ih =>
      intro i hi hp
      rw [show k + 1 + 1 + M = (k + 1 + M) + 1 from by omega, hs i _ (by omega)]
      by_cases c : p i
      · rw [cdp c]
        refine ih (i + 1) (by omega) fun j hj => ?_
        rcases Nat.lt_or_ge j i with h | h
        · exact hp j h
        · obtain rfl : j = i := by omega
          exact c
      · rw [cdn c, decide_eq_false fun h => c (h i (by omega))]
        rfl
  rw [hM]
  exact h1 n 0 (by omega) fun j hj => by omega
theorem allLoopK (F : Nat → Int → Option Bool) (n : Nat) (p : Nat → Prop) [DecidablePred p] (E : Option Bool) (hn : n ≤ 1000000000000)
    (hs : ∀ (i m : Nat), i < n → F (m + 1) (i : Int) = bif decide (p i) then F m ((i + 1 : Nat) : Int) else some false)
    (he : ∀ m : Nat, F (m + 1) (n : Int) = E) : F fu 0 = if ∀ j, j < n → p j then E else some false := by
  obtain ⟨M, hM⟩ := fu_ge n hn
  have h1 : ∀ k i : Nat, i + k = n → (∀ j, j < i → p j) → F (k + 1 + M) (i : Int) = if ∀ j, j < n → p j then E else some false := by
    intro k
    induction k with
    | zero =>
      intro i hi hp
      obtain rfl : i = n := by omega
      rw [show 0 + 1 + M = M + 1 from by omega, he, if_pos hp]
    | succ k ih =>
      intro i hi hp
      rw [show k + 1 + 1 + M = (k + 1 + M) + 1 from by omega, hs i _ (by omega)]
      by_cases c : p i
      · rw [cdp c]
        refine ih (i + 1) (by omega) fun j hj => ?_
        rcases Nat.lt_or_ge j i with h | h
        · exact hp j h
        · obtain rfl : j = i := by omega
          exact c
      · rw [cdn c, if_neg fun h => c (h i (by omega))]
  rw [hM]
  exact h1 n 0 (by omega) fun j hj => by omega
theorem dlt0 {x : Int} (h : 0 ≤ x) : decide (x < 0) = false := decide_eq_false (by omega)
theorem markLoopW {α : Type} (F : Nat → Int → Int → List α → Option (Int × List α)) (m1 : Int → α → α) (w1 : α → Nat) (a : List α) (d : α) {k : Int} (h0 : 0 ≤ k) (hn : a.length ≤ 1000000000000) (hc : k + (((a.map w1).sum : Nat) : Int) ≤ 1000000000000)
    (hs : ∀ (i m : Nat) (k : Int) (xs : List α), i < a.length → xs.length = a.length → 0 ≤ k → k + ((w1 (nthI xs (i : Int) d) : Nat) : Int) ≤ 1000000000000 → F (m + 1) k (i : Int) xs = F m (k + ((w1 (nthI xs (i : Int) d) : Nat) : Int)) ((i + 1 : Nat) : Int) (xs.set i (m1 k (nthI xs (i : Int) d))))
    (he : ∀ (m : Nat) (k : Int) (xs : List α), xs.length = a.length → F (m + 1) k (a.length : Int) xs = some (k, xs)) : F fu k 0 a = some (k + (((a.map w1).sum : Nat) : Int), markAll m1 w1 k a) := by
  obtain ⟨M, hM⟩ := fu_ge a.length hn
  have h1 : ∀ q i : Nat, ∀ (k : Int) (xs : List α), xs.length = a.length → i ≤ a.length → a.length - i = q → 0 ≤ k → k + ((((xs.drop i).map w1).sum : Nat) : Int) ≤ 1000000000000 → F (q + 1 + M) k (i : Int) xs = some (k + ((((xs.drop i).map w1).sum : Nat) : Int), xs.take i ++ markAll m1 w1 k (xs.drop i)) := by
    intro q
    induction q with
    | zero =>
      intro i k xs hx hi hd h0 hc
      obtain rfl : i = a.length := by omega
      rw [show 0 + 1 + M = M + 1 from by omega, he _ _ _ hx, List.take_of_length_le (by omega), List.drop_of_length_le (by omega)]
      simp [markAll]
    | succ q ih =>
      intro i k xs hx hi hd h0 hc
      have hi2 : i < xs.length := by omega
      rw [drop_at xs i d hi2, List.map_cons, List.sum_cons] at hc ⊢
      rw [show q + 1 + 1 + M = (q + 1 + M) + 1 from by omega, hs i _ k xs (by omega) hx h0 (by omega)]
      have e : (xs.set i (m1 k (nthI xs (i : Int) d))).drop (i + 1) = xs.drop (i + 1) := List.drop_set_of_lt (by omega)
      rw [ih (i + 1) _ _ (by simpa using hx) (by omega) (by omega) (by omega) (by rw [e]; omega), e, markAll]
      rw [List.take_add_one, List.getElem?_set_self hi2, List.take_set_of_le (Nat.le_refl i)]
      simp
      omega
  rw [hM]
  have := h1 a.length 0 k a rfl (by omega) (by omega) h0 hc
  simpa using this
theorem markAll_nthW {α : Type} (m1 : Int → α → α) (w1 : α → Nat) (d : α) : ∀ (a : List α) (k : Int) (i : Nat), i < a.length → nthI (markAll m1 w1 k a) (i : Int) d = m1 (k + ((((a.take i).map w1).sum : Nat) : Int)) (nthI a (i : Int) d)
  | [], _, i, h => by simp at h
  | x :: xs, k, 0, _ => by simp [markAll, nthI]
  | x :: xs, k, i + 1, h => by
    have := markAll_nthW m1 w1 d xs (k + (w1 x : Int)) i (by simpa using h)
    rw [nthI_nat, nthI_nat] at this ⊢
    rw [markAll, List.getD_cons_succ, List.getD_cons_succ, this, List.take_succ_cons, List.map_cons, List.sum_cons]
    congr 1
    omega
theorem sum_take_succ {α : Type} (w1 : α → Nat) (d : α) (a : List α) (i : Nat) (h : i < a.length) : ((a.take (i + 1)).map w1).sum = ((a.take i).map w1).sum + w1 (nthI a (i : Int) d) := by
  rw [List.take_add_one, List.map_append, List.sum_append, nthI_nat, List.getD_eq_getElem?_getD, List.getElem?_eq_getElem h]
  simp
theorem sum_take_le {α : Type} (w1 : α → Nat) (a : List α) (i : Nat) : ((a.take i).map w1).sum ≤ (a.map w1).sum := by
  have : (a.map w1).sum = ((a.take i).map w1).sum + ((a.drop i).map w1).sum := by rw [← List.sum_append, ← List.map_append, List.take_append_drop]
  omega
theorem heldLoopW {α : Type} (F : Nat → Int → Int → Option Int) (m1 : Int → α → α) (w1 : α → Nat) (a : List α) (d : α) (k : Int) (h0 : 0 ≤ k) (hn : a.length ≤ 1000000000000) (hc : k + (((a.map w1).sum : Nat) : Int) ≤ 1000000000000)
    (hs : ∀ (i m : Nat) (j : Int), i < a.length → 0 ≤ j → j + ((w1 (nthI a (i : Int) d) : Nat) : Int) ≤ 1000000000000 → nthI (markAll m1 w1 k a) (i : Int) d = m1 j (nthI a (i : Int) d) → F (m + 1) j (i : Int) = F m (j + ((w1 (nthI a (i : Int) d) : Nat) : Int)) ((i + 1 : Nat) : Int))
    (he : ∀ (m : Nat) (j : Int), F (m + 1) j (a.length : Int) = some j) : F fu k 0 = some (k + (((a.map w1).sum : Nat) : Int)) := by
  obtain ⟨M, hM⟩ := fu_ge a.length hn
  have h1 : ∀ q i : Nat, i ≤ a.length → a.length - i = q → F (q + 1 + M) (k + ((((a.take i).map w1).sum : Nat) : Int)) (i : Int) = some (k + (((a.map w1).sum : Nat) : Int)) := by
    intro q
    induction q with
    | zero =>
      intro i hi hd
      obtain rfl : i = a.length := by omega
      rw [show 0 + 1 + M = M + 1 from by omega, he, List.take_of_length_le (Nat.le_refl _)]
    | succ q ih =>
      intro i hi hd
      have hi2 : i < a.length := by omega
      have e := sum_take_succ w1 d a i hi2
      have hle := sum_take_le w1 a (i + 1)
      rw [show q + 1 + 1 + M = (q + 1 + M) + 1 from by omega, hs i _ _ hi2 (by omega) (by omega) (markAll_nthW m1 w1 d a k i hi2)]
      have := ih (i + 1) (by omega) (by omega)
      rw [e] at this
      rw [show k + ((((a.take i).map w1).sum : Nat) : Int) + ((w1 (nthI a (i : Int) d) : Nat) : Int) = k + ((((a.take i).map w1).sum + w1 (nthI a (i : Int) d) : Nat) : Int) from by omega]
      exact this
  rw [hM]
  have := h1 a.length 0 (by omega) (by omega)
  simpa using this
theorem u64_wf {n : Int} (h : (Lit.int .u64 n).wf = true) : 0 ≤ n ∧ n < 18446744073709551616 := by
  simp [Lit.wf, IntKind.min, IntKind.max, IntKind.signed, IntKind.bits, Bool.and_eq_true] at h
  omega
def bUint64 (x : Int) : Prop := (Lit.int .u64 x).wf = true
theorem szUint64S_eq (left : Int) (a : List Int) (h0 : 0 ≤ left) (h1 : left ≤ 1000000000000) (hm : a.length ≤ maxLen ∧ ∀ x ∈ a, bUint64 x) : L.szUint64S left a = some (if ((a.length : Nat) : Int) ≤ left then left - ((a.length : Nat) : Int) else -1) := by
  have hl : a.length ≤ 9223372036854775807 := hm.1
  unfold L.szUint64S
  simp only []
  rw [w64 (by omega) (by omega)]
  by_cases h : ((a.length : Nat) : Int) ≤ left
  · rw [cdn (by omega), if_pos h]
  · rw [cdp (by omega), if_neg h]
abbrev TLat : Type := Int × List Int
instance : DecidableEq TLat := (@instDecidableEqProd _ _ (inferInstance : DecidableEq Int) (inferInstance : DecidableEq (List Int)))
def cLat (x : TLat) : Nat := (x.2).length
def bLat (x : TLat) : Prop := ((Lit.int .i64 x.1).wf = true ∧ (x.2.length ≤ maxLen ∧ ∀ y ∈ x.2, bUint64 y))
theorem szLat_eq (x : TLat) (left : Int) (h0 : 0 ≤ left) (h1 : left ≤ 1000000000000) (hb : bLat x) : L.szLat x.1 left x.2 = some (if (cLat x : Int) ≤ left then left - (cLat x : Int) else -1) := by
  unfold bLat at hb
  unfold L.szLat cLat
  rw [szUint64S_eq _ x.2 (by omega) (by omega) hb.2, Option.bind_some]
  by_cases h0 : (((x.2).length : Nat) : Int) ≤ left
  · first
      | (rw [if_pos h0, cdn (by omega)]; done)
      | (rw [if_pos h0, cdn (by omega), if_pos (by omega)]; congr 1; omega)
  · first | (rw [if_neg h0, cdp (by omega)]; done) | rw [if_neg h0, cdp (by omega), if_neg (by omega)]
abbrev TTok : Type := Int × Int
instance : DecidableEq TTok := (@instDecidableEqProd _ _ (inferInstance : DecidableEq Int) (inferInstance : DecidableEq Int))
def bTok (x : TTok) : Prop := ((Lit.int .i64 x.1).wf = true ∧ (Lit.int .i64 x.2).wf = true)
theorem szTokS_eq (left : Int) (a : List TTok) (h0 : 0 ≤ left) (h1 : left ≤ 1000000000000) (hm : a.length ≤ maxLen ∧ ∀ x ∈ a, bTok x) : L.szTokS left a = some (if ((a.length : Nat) : Int) ≤ left then left - ((a.length : Nat) : Int) else -1) := by
  have hl : a.length ≤ 9223372036854775807 := hm.1
  unfold L.szTokS
  simp only []
  rw [w64 (by omega) (by omega)]
  by_cases h : ((a.length : Nat) : Int) ≤ left
  · rw [cdn (by omega), if_pos h]
  · rw [cdp (by omega), if_neg h]
abbrev TWinDef : Type := Int × Int × Int
instance : DecidableEq TWinDef := (@instDecidableEqProd _ _ (inferInstance : DecidableEq Int) (@instDecidableEqProd _ _ (inferInstance : DecidableEq Int) (inferInstance : DecidableEq Int)))
abbrev TQuery : Type := List TTok × List TTok × (TWinDef) × Int × Int
instance : DecidableEq TQuery := (@instDecidableEqProd _ _ (inferInstance : DecidableEq (List TTok)) (@instDecidableEqProd _ _ (inferInstance : DecidableEq (List TTok)) (@instDecidableEqProd _ _ (inferInstance : DecidableEq TWinDef) (@instDecidableEqProd _ _ (inferInstance : DecidableEq Int) (inferInstance : DecidableEq Int)))))
def cQuery (x : TQuery) : Nat := (x.1).length + (x.2.1).length
def cQueryS (a : List TQuery) : Nat := a.length + (a.map cQuery).sum
theorem cQueryS_mem {a : List TQuery} {x : TQuery} (h : x ∈ a) : cQuery x ≤ cQueryS a := by
  have := sum_mem (List.mem_map.2 ⟨x, h, rfl⟩ : cQuery x ∈ a.map cQuery)
  unfold cQueryS; omega
def bQuery (x : TQuery) : Prop := ((x.1.length ≤ maxLen ∧ ∀ y ∈ x.1, bTok y) ∧ (x.2.1.length ≤ maxLen ∧ ∀ y ∈ x.2.1, bTok y) ∧ ((Lit.int .i64 x.2.2.1.1).wf = true ∧ (Lit.int .i64 x.2.2.1.2.1).wf = true ∧ (Lit.int .i64 x.2.2.1.2.2).wf = true) ∧ (Lit.int .i64 x.2.2.2.1).wf = true ∧ (Lit.int .i64 x.2.2.2.2).wf = true)
theorem szQuery_eq (x : TQuery) (left : Int) (h0 : 0 ≤ left) (h1 : left ≤ 1000000000000) (hb : bQuery x) : L.szQuery x.2.2.1.1 x.2.2.1.2.1 x.2.2.1.2.2 x.2.2.2.1 x.2.2.2.2 left x.1 x.2.1 = some (if (cQuery x : Int) ≤ left then left - (cQuery x : Int) else -1) := by
  unfold bQuery at hb
  unfold L.szQuery cQuery
  rw [szTokS_eq _ x.1 (by omega) (by omega) hb.1, Option.bind_some]
  by_cases h0 : (((x.1).length : Nat) : Int) ≤ left
  · rw [if_pos h0, cdn (by omega)]
    rw [szTokS_eq _ x.2.1 (by omega) (by omega) hb.2.1, Option.bind_some]
    by_cases h1 : (((x.2.1).length : Nat) : Int) ≤ left - (((x.1).length : Nat) : Int)
    · first
        | (rw [if_pos h1, cdn (by omega)]; done)
        | (rw [if_pos h1, cdn (by omega), if_pos (by omega)]; congr 1; omega)
    · first | (rw [if_neg h1, cdp (by omega)]; done) | rw [if_neg h1, cdp (by omega), if_neg (by omega)]
  · first | (rw [if_neg h0, cdp (by omega)]; done) | rw [if_neg h0, cdp (by omega), if_neg (by omega)]
theorem szQueryS_eq (left : Int) (a : List TQuery) (h0 : 0 ≤ left) (h1 : left ≤ 1000000000000) (hm : a.length ≤ maxLen ∧ ∀ x ∈ a, bQuery x) : L.szQueryS left a = some (if ((cQueryS a : Nat) : Int) ≤ left then left - ((cQueryS a : Nat) : Int) else -1) := by
  have hl : a.length ≤ 9223372036854775807 := hm.1
  unfold L.szQueryS
  simp only []
  rw [w64 (by omega) (by omega)]
  by_cases h : ((a.length : Nat) : Int) ≤ left
  · rw [cdn (by omega)]
    have := szLoop (fun m l i => L.szQueryS_l0 m (fun y14 y15 => some y15) (fun y16 => some y16) l i a) a ([], ([], (((0 : Int), ((0 : Int), (0 : Int))), ((0 : Int), (0 : Int))))) cQuery (by omega) (fun i m l hi h0 h1 => ?_) (fun m l => ?_) (left - (a.length : Int)) (by omega) (by omega)
    · refine this.trans ?_
      unfold cQueryS
      congr 1
      split <;> split <;> omega
    · show L.szQueryS_l0 (m + 1) _ _ _ _ _ = _
      rw [L.szQueryS_l0, cdp (by omega), cdp (by omega), szQuery_eq (nthI a (i : Int) ([], ([], (((0 : Int), ((0 : Int), (0 : Int))), ((0 : Int), (0 : Int)))))) l h0 h1 (hm.2 _ (nthI_mem a i _ hi)), Option.bind_some]
      split
      · rw [cdn (by omega), w64 (by omega) (by omega)]; rfl
      · rw [cdp (by omega)]
    · show L.szQueryS_l0 (m + 1) _ _ _ _ _ = _
      rw [L.szQueryS_l0, cdn (by omega)]
  · rw [cdp (by omega), if_neg (by unfold cQueryS; omega)]
abbrev TSub : Type := Int × Int × Int
instance : DecidableEq TSub := (@instDecidableEqProd _ _ (inferInstance : DecidableEq Int) (@instDecidableEqProd _ _ (inferInstance : DecidableEq Int) (inferInstance : DecidableEq Int)))
def bSub (x : TSub) : Prop := ((Lit.int .i64 x.1).wf = true ∧ (Lit.int .i64 x.2.1).wf = true ∧ (Lit.int .i64 x.2.2).wf = true)
theorem szSubS_eq (left : Int) (a : List TSub) (h0 : 0 ≤ left) (h1 : left ≤ 1000000000000) (hm : a.length ≤ maxLen ∧ ∀ x ∈ a, bSub x) : L.szSubS left a = some (if ((a.length : Nat) : Int) ≤ left then left - ((a.length : Nat) : Int) else -1) := by
  have hl : a.length ≤ 9223372036854775807 := hm.1
  unfold L.szSubS
  simp only []
  rw [w64 (by omega) (by omega)]
  by_cases h : ((a.length : Nat) : Int) ≤ left
  · rw [cdn (by omega), if_pos h]
  · rw [cdp (by omega), if_neg h]
abbrev TRule : Type := Int × Int × Int × Int × Int
instance : DecidableEq TRule := (@instDecidableEqProd _ _ (inferInstance : DecidableEq Int) (@instDecidableEqProd _ _ (inferInstance : DecidableEq Int) (@instDecidableEqProd _ _ (inferInstance : DecidableEq Int) (@instDecidableEqProd _ _ (inferInstance : DecidableEq Int) (inferInstance : DecidableEq Int)))))
def bRule (x : TRule) : Prop := ((Lit.int .i64 x.1).wf = true ∧ (Lit.int .i64 x.2.1).wf = true ∧ (Lit.int .i64 x.2.2.1).wf = true ∧ (Lit.int .i64 x.2.2.2.1).wf = true ∧ (Lit.int .i64 x.2.2.2.2).wf = true)
theorem szRuleS_eq (left : Int) (a : List TRule) (h0 : 0 ≤ left) (h1 : left ≤ 1000000000000) (hm : a.length ≤ maxLen ∧ ∀ x ∈ a, bRule x) : L.szRuleS left a = some (if ((a.length : Nat) : Int) ≤ left then left - ((a.length : Nat) : Int) else -1) := by
  have hl : a.length ≤ 9223372036854775807 := hm.1
  unfold L.szRuleS
  simp only []
  rw [w64 (by omega) (by omega)]
  by_cases h : ((a.length : Nat) : Int) ≤ left
  · rw [cdn (by omega), if_pos h]
  · rw [cdp (by omega), if_neg h]
abbrev TConf : Type := (TLat) × Int × Int × List TQuery × List TSub × List TRule
instance : DecidableEq TConf := (@instDecidableEqProd _ _ (inferInstance : DecidableEq TLat) (@instDecidableEqProd _ _ (inferInstance : DecidableEq Int) (@instDecidableEqProd _ _ (inferInstance : DecidableEq Int) (@instDecidableEqProd _ _ (inferInstance : DecidableEq (List TQuery)) (@instDecidableEqProd _ _ (inferInstance : DecidableEq (List TSub)) (inferInstance : DecidableEq (List TRule)))))))
def cConf (x : TConf) : Nat := (x.1.2).length + cQueryS x.2.2.2.1 + (x.2.2.2.2.1).length + (x.2.2.2.2.2).length
def bConf (x : TConf) : Prop := (((Lit.int .i64 x.1.1).wf = true ∧ (x.1.2.length ≤ maxLen ∧ ∀ y ∈ x.1.2, bUint64 y)) ∧ (Lit.int .i64 x.2.1).wf = true ∧ (Lit.int .i64 x.2.2.1).wf = true ∧ (x.2.2.2.1.length ≤ maxLen ∧ ∀ y ∈ x.2.2.2.1, bQuery y) ∧ (x.2.2.2.2.1.length ≤ maxLen ∧ ∀ y ∈ x.2.2.2.2.1, bSub y) ∧ (x.2.2.2.2.2.length ≤ maxLen ∧ ∀ y ∈ x.2.2.2.2.2, bRule y))
theorem szConf_eq (x : TConf) (left : Int) (h0 : 0 ≤ left) (h1 : left ≤ 1000000000000) (hb : bConf x) : L.szConf x.1.1 x.2.1 x.2.2.1 left x.1.2 x.2.2.2.1 x.2.2.2.2.1 x.2.2.2.2.2 = some (if (cConf x : Int) ≤ left then left - (cConf x : Int) else -1) := by
  unfold bConf at hb
  unfold L.szConf cConf
  rw [szLat_eq x.1 _ (by omega) (by omega) hb.1, Option.bind_some]
  unfold cLat
  by_cases h0 : (((x.1.2).length : Nat) : Int) ≤ left
  · rw [if_pos h0, cdn (by omega)]
    rw [szQueryS_eq _ x.2.2.2.1 (by omega) (by omega) hb.2.2.2.1, Option.bind_some]
    by_cases h1 : ((cQueryS x.2.2.2.1 : Nat) : Int) ≤ left - (((x.1.2).length : Nat) : Int)
    · rw [if_pos h1, cdn (by omega)]
      rw [szSubS_eq _ x.2.2.2.2.1 (by omega) (by omega) hb.2.2.2.2.1, Option.bind_some]
      by_cases h2 : (((x.2.2.2.2.1).length : Nat) : Int) ≤ left - (((x.1.2).length : Nat) : Int) - ((cQueryS x.2.2.2.1 : Nat) : Int)
      · rw [if_pos h2, cdn (by omega)]
        rw [szRuleS_eq _ x.2.2.2.2.2 (by omega) (by omega) hb.2.2.2.2.2, Option.bind_some]
        by_cases h3 : (((x.2.2.2.2.2).length : Nat) : Int) ≤ left - (((x.1.2).length : Nat) : Int) - ((cQueryS x.2.2.2.1 : Nat) : Int) - (((x.2.2.2.2.1).length : Nat) : Int)
        · first
            | (rw [if_pos h3, cdn (by omega)]; done)
            | (rw [if_pos h3, cdn (by omega), if_pos (by omega)]; congr 1; omega)
        · first | (rw [if_neg h3, cdp (by omega)]; done) | rw [if_neg h3, cdp (by omega), if_neg (by omega)]
      · first | (rw [if_neg h2, cdp (by omega)]; done) | rw [if_neg h2, cdp (by omega), if_neg (by omega)]
    · first | (rw [if_neg h1, cdp (by omega)]; done) | rw [if_neg h1, cdp (by omega), if_neg (by omega)]
  · first | (rw [if_neg h0, cdp (by omega)]; done) | rw [if_neg h0, cdp (by omega), if_neg (by omega)]
theorem toUint64S_eq (a : List Int) (hc : a.length ≤ 1000000000000) : L.toUint64S a = some a := by
  have hn := hc
  unfold L.toUint64S
  simp only []
  rw [cdp (by omega)]
  refine toLoop (fun m i xs => L.toUint64S_l0 m (fun y => some y) i a xs) a (0 : Int) hn (fun i m xs hi hx => ?_) (fun m xs => ?_) _ (by simp)
  · show L.toUint64S_l0 (m + 1) _ _ _ _ = L.toUint64S_l0 m _ _ _ _
    rw [L.toUint64S_l0, cdp (by omega), cdp (by omega), cdp (by omega), w64 (by omega) (by omega)]
    rfl
  · show L.toUint64S_l0 (m + 1) _ _ _ _ = _
    rw [L.toUint64S_l0, cdn (by omega)]
theorem toLat_eq (x : TLat) (hc : cLat x ≤ 1000000000000) : L.toLat x.1 x.2 = some (x.1, x.2) := by
  unfold L.toLat
  unfold cLat at hc
  simp only [toUint64S_eq x.2 (by omega), Option.bind_some]
theorem toTok_eq (x : TTok) : L.toTok x.1 x.2 = some (x.1, x.2) := by
  rfl
theorem toTokS_eq (a : List TTok) (hc : a.length ≤ 1000000000000) : L.toTokS a = some a := by
  have hn := hc
  unfold L.toTokS
  simp only []
  rw [cdp (by omega)]
  refine toLoop (fun m i xs => L.toTokS_l0 m (fun y => some y) i a xs) a ((0 : Int), (0 : Int)) hn (fun i m xs hi hx => ?_) (fun m xs => ?_) _ (by simp)
  · show L.toTokS_l0 (m + 1) _ _ _ _ = L.toTokS_l0 m _ _ _ _
    rw [L.toTokS_l0, cdp (by omega), cdp (by omega), toTok_eq (nthI a (i : Int) ((0 : Int), (0 : Int))), Option.bind_some, cdp (by omega), w64 (by omega) (by omega)]
    rfl
  · show L.toTokS_l0 (m + 1) _ _ _ _ = _
    rw [L.toTokS_l0, cdn (by omega)]
theorem toWinDef_eq (x : TWinDef) : L.toWinDef x.1 x.2.1 x.2.2 = some (x.1, x.2.1, x.2.2) := by
  rfl
theorem toQuery_eq (x : TQuery) (hc : cQuery x ≤ 1000000000000) : L.toQuery x.2.2.1.1 x.2.2.1.2.1 x.2.2.1.2.2 x.2.2.2.1 x.2.2.2.2 x.1 x.2.1 = some (x.2.2.1.1, x.2.2.1.2.1, x.2.2.1.2.2, x.2.2.2.1, x.2.2.2.2, x.1, x.2.1) := by
  unfold L.toQuery
  unfold cQuery at hc
  simp only [toTokS_eq x.1 (by omega), toTokS_eq x.2.1 (by omega), toWinDef_eq x.2.2.1, Option.bind_some]
theorem toQueryS_eq (a : List TQuery) (hc : cQueryS a ≤ 1000000000000) : L.toQueryS a = some a := by
  have hn : a.length ≤ 1000000000000 := by unfold cQueryS at hc; omega
  unfold L.toQueryS
  simp only []
  rw [cdp (by omega)]
  refine toLoop (fun m i xs => L.toQueryS_l0 m (fun y => some y) i a xs) a ([], ([], (((0 : Int), ((0 : Int), (0 : Int))), ((0 : Int), (0 : Int))))) hn (fun i m xs hi hx => ?_) (fun m xs => ?_) _ (by simp)
  · show L.toQueryS_l0 (m + 1) _ _ _ _ = L.toQueryS_l0 m _ _ _ _
    rw [L.toQueryS_l0, cdp (by omega), cdp (by omega), toQuery_eq (nthI a (i : Int) ([], ([], (((0 : Int), ((0 : Int), (0 : Int))), ((0 : Int), (0 : Int)))))) (Nat.le_trans (cQueryS_mem (nthI_mem a i _ hi)) hc), Option.bind_some, cdp (by omega), w64 (by omega) (by omega)]
    rfl
  · show L.toQueryS_l0 (m + 1) _ _ _ _ = _
    rw [L.toQueryS_l0, cdn (by omega)]
theorem toSub_eq (x : TSub) : L.toSub x.1 x.2.1 x.2.2 = some (x.1, x.2.1, x.2.2) := by
  rfl
theorem toSubS_eq (a : List TSub) (hc : a.length ≤ 1000000000000) : L.toSubS a = some a := by
  have hn := hc
  unfold L.toSubS
  simp only []
  rw [cdp (by omega)]
  refine toLoop (fun m i xs => L.toSubS_l0 m (fun y => some y) i a xs) a ((0 : Int), ((0 : Int), (0 : Int))) hn (fun i m xs hi hx => ?_) (fun m xs => ?_) _ (by simp)
  · show L.toSubS_l0 (m + 1) _ _ _ _ = L.toSubS_l0 m _ _ _ _
    rw [L.toSubS_l0, cdp (by omega), cdp (by omega), toSub_eq (nthI a (i : Int) ((0 : Int), ((0 : Int), (0 : Int)))), Option.bind_some, cdp (by omega), w64 (by omega) (by omega)]
    rfl
  · show L.toSubS_l0 (m + 1) _ _ _ _ = _
    rw [L.toSubS_l0, cdn (by omega)]
theorem toRule_eq (x : TRule) : L.toRule x.1 x.2.1 x.2.2.1 x.2.2.2.1 x.2.2.2.2 = some (x.1, x.2.1, x.2.2.1, x.2.2.2.1, x.2.2.2.2) := by
  rfl
theorem toRuleS_eq (a : List TRule) (hc : a.length ≤ 1000000000000) : L.toRuleS a = some a := by
  have hn := hc
  unfold L.toRuleS
  simp only []
  rw [cdp (by omega)]
  refine toLoop (fun m i xs => L.toRuleS_l0 m (fun y => some y) i a xs) a ((0 : Int), ((0 : Int), ((0 : Int), ((0 : Int), (0 : Int))))) hn (fun i m xs hi hx => ?_) (fun m xs => ?_) _ (by simp)
  · show L.toRuleS_l0 (m + 1) _ _ _ _ = L.toRuleS_l0 m _ _ _ _
    rw [L.toRuleS_l0, cdp (by omega), cdp (by omega), toRule_eq (nthI a (i : Int) ((0 : Int), ((0 : Int), ((0 : Int), ((0 : Int), (0 : Int)))))), Option.bind_some, cdp (by omega), w64 (by omega) (by omega)]
    rfl
  · show L.toRuleS_l0 (m + 1) _ _ _ _ = _
    rw [L.toRuleS_l0, cdn (by omega)]
theorem toConf_eq (x : TConf) (hc : cConf x ≤ 1000000000000) : L.toConf x.1.1 x.2.1 x.2.2.1 x.1.2 x.2.2.2.1 x.2.2.2.2.1 x.2.2.2.2.2 = some (x.1.1, x.2.1, x.2.2.1, x.1.2, x.2.2.2.1, x.2.2.2.2.1, x.2.2.2.2.2) := by
  unfold L.toConf
  unfold cConf at hc
  simp only [toLat_eq x.1 (by unfold cLat; omega), toQueryS_eq x.2.2.2.1 (by omega), toSubS_eq x.2.2.2.2.1 (by omega), toRuleS_eq x.2.2.2.2.2 (by omega), Option.bind_some]
theorem eqUint64S_eq (a b : List Int) (hc : a.length ≤ 1000000000000) : L.eqUint64S a b = some (decide (a = b)) := by
  have hn := hc
  unfold L.eqUint64S
  refine eqTop a b ?_
  intro hl
  refine eqLoop (fun m i => L.eqUint64S_l0 m (fun y => some y) (some true) i a b) a b (0 : Int) hl hn (fun i m hi => ?_) (fun m => ?_)
  · show L.eqUint64S_l0 (m + 1) _ _ _ _ _ = bif _ then L.eqUint64S_l0 m _ _ _ _ _ else _
    rw [L.eqUint64S_l0, cdp (by omega), cdp (by omega), cdp (by omega), cneI, w64 (by omega) (by omega)]
    rfl
  · show L.eqUint64S_l0 (m + 1) _ _ _ _ _ = _
    rw [L.eqUint64S_l0, cdn (by omega)]
theorem eqLat_eq (x y : TLat) (hc : cLat x ≤ 1000000000000) : L.eqLat x.1 y.1 x.2 y.2 = some (decide (x = y)) := by
  unfold cLat at hc
  unfold L.eqLat
  simp only [eqUint64S_eq x.2 y.2 (by omega), cneI, cneB, cnotb, cbeB, cds, cdt, Option.bind_some]
  exact sdec ⟨fun h => (Prod.ext h.1 h.2), by rintro rfl; exact ⟨rfl, rfl⟩⟩
theorem eqTok_eq (x y : TTok) : L.eqTok x.1 x.2 y.1 y.2 = some (decide (x = y)) := by
  unfold L.eqTok
  simp only [cneI, cneB, cnotb, cbeB, cds, cdt, Option.bind_some]
  exact sdec ⟨fun h => (Prod.ext h.1 h.2), by rintro rfl; exact ⟨rfl, rfl⟩⟩
theorem eqTokS_eq (a b : List TTok) (hc : a.length ≤ 1000000000000) : L.eqTokS a b = some (decide (a = b)) := by
  have hn := hc
  unfold L.eqTokS
  refine eqTop a b ?_
  intro hl
  refine eqLoop (fun m i => L.eqTokS_l0 m (fun y => some y) (some true) i a b) a b ((0 : Int), (0 : Int)) hl hn (fun i m hi => ?_) (fun m => ?_)
  · show L.eqTokS_l0 (m + 1) _ _ _ _ _ = bif _ then L.eqTokS_l0 m _ _ _ _ _ else _
    rw [L.eqTokS_l0, cdp (by omega), cdp (by omega), cdp (by omega), eqTok_eq (nthI a (i : Int) ((0 : Int), (0 : Int))) (nthI b (i : Int) ((0 : Int), (0 : Int))), Option.bind_some, cnotb, w64 (by omega) (by omega)]
    rfl
  · show L.eqTokS_l0 (m + 1) _ _ _ _ _ = _
    rw [L.eqTokS_l0, cdn (by omega)]
theorem eqWinDef_eq (x y : TWinDef) : L.eqWinDef x.1 x.2.1 x.2.2 y.1 y.2.1 y.2.2 = some (decide (x = y)) := by
  unfold L.eqWinDef
  simp only [cneI, cneB, cnotb, cbeB, cds, cdt, Option.bind_some]
  exact sdec ⟨fun h => (Prod.ext h.1 (Prod.ext h.2.1 h.2.2)), by rintro rfl; exact ⟨rfl, rfl, rfl⟩⟩
theorem eqQuery_eq (x y : TQuery) (hc : cQuery x ≤ 1000000000000) : L.eqQuery x.2.2.1.1 x.2.2.1.2.1 x.2.2.1.2.2 x.2.2.2.1 x.2.2.2.2 y.2.2.1.1 y.2.2.1.2.1 y.2.2.1.2.2 y.2.2.2.1 y.2.2.2.2 x.1 x.2.1 y.1 y.2.1 = some (decide (x = y)) := by
  unfold cQuery at hc
  unfold L.eqQuery
  simp only [eqTokS_eq x.1 y.1 (by omega), eqTokS_eq x.2.1 y.2.1 (by omega), eqWinDef_eq x.2.2.1 y.2.2.1, cneI, cneB, cnotb, cbeB, cds, cdt, Option.bind_some]
  exact sdec ⟨fun h => (Prod.ext h.1 (Prod.ext h.2.1 (Prod.ext h.2.2.1 (Prod.ext h.2.2.2.1 h.2.2.2.2)))), by rintro rfl; exact ⟨rfl, rfl, rfl, rfl, rfl⟩⟩
theorem eqQueryS_eq (a b : List TQuery) (hc : cQueryS a ≤ 1000000000000) : L.eqQueryS a b = some (decide (a = b)) := by
  have hn : a.length ≤ 1000000000000 := by unfold cQueryS at hc; omega
  unfold L.eqQueryS
  refine eqTop a b ?_
  intro hl
  refine eqLoop (fun m i => L.eqQueryS_l0 m (fun y => some y) (some true) i a b) a b ([], ([], (((0 : Int), ((0 : Int), (0 : Int))), ((0 : Int), (0 : Int))))) hl hn (fun i m hi => ?_) (fun m => ?_)
  · show L.eqQueryS_l0 (m + 1) _ _ _ _ _ = bif _ then L.eqQueryS_l0 m _ _ _ _ _ else _
    rw [L.eqQueryS_l0, cdp (by omega), cdp (by omega), cdp (by omega), eqQuery_eq (nthI a (i : Int) ([], ([], (((0 : Int), ((0 : Int), (0 : Int))), ((0 : Int), (0 : Int)))))) (nthI b (i : Int) ([], ([], (((0 : Int), ((0 : Int), (0 : Int))), ((0 : Int), (0 : Int)))))) (Nat.le_trans (cQueryS_mem (nthI_mem a i _ hi)) hc), Option.bind_some, cnotb, w64 (by omega) (by omega)]
    rfl
  · show L.eqQueryS_l0 (m + 1) _ _ _ _ _ = _
    rw [L.eqQueryS_l0, cdn (by omega)]
theorem eqSub_eq (x y : TSub) : L.eqSub x.1 x.2.1 x.2.2 y.1 y.2.1 y.2.2 = some (decide (x = y)) := by
  unfold L.eqSub
  simp only [cneI, cneB, cnotb, cbeB, cds, cdt, Option.bind_some]
  exact sdec ⟨fun h => (Prod.ext h.1 (Prod.ext h.2.1 h.2.2)), by rintro rfl; exact ⟨rfl, rfl, rfl⟩⟩
theorem eqSubS_eq (a b : List TSub) (hc : a.length ≤ 1000000000000) : L.eqSubS a b = some (decide (a = b)) := by
  have hn := hc
  unfold L.eqSubS
  refine eqTop a b ?_
  intro hl
  refine eqLoop (fun m i => L.eqSubS_l0 m (fun y => some y) (some true) i a b) a b ((0 : Int), ((0 : Int), (0 : Int))) hl hn (fun i m hi => ?_) (fun m => ?_)
  · show L.eqSubS_l0 (m + 1) _ _ _ _ _ = bif _ then L.eqSubS_l0 m _ _ _ _ _ else _
    rw [L.eqSubS_l0, cdp (by omega), cdp (by omega), cdp (by omega), eqSub_eq (nthI a (i : Int) ((0 : Int), ((0 : Int), (0 : Int)))) (nthI b (i : Int) ((0 : Int), ((0 : Int), (0 : Int)))), Option.bind_some, cnotb, w64 (by omega) (by omega)]
    rfl
  · show L.eqSubS_l0 (m + 1) _ _ _ _ _ = _
    rw [L.eqSubS_l0, cdn (by omega)]
theorem eqRule_eq (x y : TRule) : L.eqRule x.1 x.2.1 x.2.2.1 x.2.2.2.1 x.2.2.2.2 y.1 y.2.1 y.2.2.1 y.2.2.2.1 y.2.2.2.2 = some (decide (x = y)) := by
  unfold L.eqRule
  simp only [cneI, cneB, cnotb, cbeB, cds, cdt, Option.bind_some]
  exact sdec ⟨fun h => (Prod.ext h.1 (Prod.ext h.2.1 (Prod.ext h.2.2.1 (Prod.ext h.2.2.2.1 h.2.2.2.2)))), by rintro rfl; exact ⟨rfl, rfl, rfl, rfl, rfl⟩⟩
theorem eqRuleS_eq (a b : List TRule) (hc : a.length ≤ 1000000000000) : L.eqRuleS a b = some (decide (a = b)) := by
  have hn := hc
  unfold L.eqRuleS
  refine eqTop a b ?_
  intro hl
  refine eqLoop (fun m i => L.eqRuleS_l0 m (fun y => some y) (some true) i a b) a b ((0 : Int), ((0 : Int), ((0 : Int), ((0 : Int), (0 : Int))))) hl hn (fun i m hi => ?_) (fun m => ?_)
  · show L.eqRuleS_l0 (m + 1) _ _ _ _ _ = bif _ then L.eqRuleS_l0 m _ _ _ _ _ else _
    rw [L.eqRuleS_l0, cdp (by omega), cdp (by omega), cdp (by omega), eqRule_eq (nthI a (i : Int) ((0 : Int), ((0 : Int), ((0 : Int), ((0 : Int), (0 : Int)))))) (nthI b (i : Int) ((0 : Int), ((0 : Int), ((0 : Int), ((0 : Int), (0 : Int)))))), Option.bind_some, cnotb, w64 (by omega) (by omega)]
    rfl
  · show L.eqRuleS_l0 (m + 1) _ _ _ _ _ = _
    rw [L.eqRuleS_l0, cdn (by omega)]
theorem eqConf_eq (x y : TConf) (hc : cConf x ≤ 1000000000000) : L.eqConf x.1.1 x.2.1 x.2.2.1 y.1.1 y.2.1 y.2.2.1 x.1.2 x.2.2.2.1 x.2.2.2.2.1 x.2.2.2.2.2 y.1.2 y.2.2.2.1 y.2.2.2.2.1 y.2.2.2.2.2 = some (decide (x = y)) := by
  unfold cConf at hc
  unfold L.eqConf
  simp only [eqLat_eq x.1 y.1 (by unfold cLat; omega), eqQueryS_eq x.2.2.2.1 y.2.2.2.1 (by omega), eqSubS_eq x.2.2.2.2.1 y.2.2.2.2.1 (by omega), eqRuleS_eq x.2.2.2.2.2 y.2.2.2.2.2 (by omega), cneI, cneB, cnotb, cbeB, cds, cdt, Option.bind_some]
  exact sdec ⟨fun h => (Prod.ext h.1 (Prod.ext h.2.1 (Prod.ext h.2.2.1 (Prod.ext h.2.2.2.1 (Prod.ext h.2.2.2.2.1 h.2.2.2.2.2))))), by rintro rfl; exact ⟨rfl, rfl, rfl, rfl, rfl, rfl⟩⟩
abbrev TPunct : Type := Int × Int × Int × Int
instance : DecidableEq TPunct := (@instDecidableEqProd _ _ (inferInstance : DecidableEq Int) (@instDecidableEqProd _ _ (inferInstance : DecidableEq Int) (@instDecidableEqProd _ _ (inferInstance : DecidableEq Int) (inferInstance : DecidableEq Int))))
theorem eqPunct_eq (x y : TPunct) : L.eqPunct x.1 x.2.1 x.2.2.1 x.2.2.2 y.1 y.2.1 y.2.2.1 y.2.2.2 = some (decide (x = y)) := by
  unfold L.eqPunct
  simp only [cneI, cneB, cnotb, cbeB, cds, cdt, Option.bind_some]
  exact sdec ⟨fun h => (Prod.ext h.1 (Prod.ext h.2.1 (Prod.ext h.2.2.1 h.2.2.2))), by rintro rfl; exact ⟨rfl, rfl, rfl, rfl⟩⟩
theorem eqPunctS_eq (a b : List TPunct) (hc : a.length ≤ 1000000000000) : L.eqPunctS a b = some (decide (a = b)) := by
  have hn := hc
  unfold L.eqPunctS
  refine eqTop a b ?_
  intro hl
  refine eqLoop (fun m i => L.eqPunctS_l0 m (fun y => some y) (some true) i a b) a b ((0 : Int), ((0 : Int), ((0 : Int), (0 : Int)))) hl hn (fun i m hi => ?_) (fun m => ?_)
  · show L.eqPunctS_l0 (m + 1) _ _ _ _ _ = bif _ then L.eqPunctS_l0 m _ _ _ _ _ else _
    rw [L.eqPunctS_l0, cdp (by omega), cdp (by omega), cdp (by omega), eqPunct_eq (nthI a (i : Int) ((0 : Int), ((0 : Int), ((0 : Int), (0 : Int))))) (nthI b (i : Int) ((0 : Int), ((0 : Int), ((0 : Int), (0 : Int))))), Option.bind_some, cnotb, w64 (by omega) (by omega)]
    rfl
  · show L.eqPunctS_l0 (m + 1) _ _ _ _ _ = _
    rw [L.eqPunctS_l0, cdn (by omega)]
abbrev TMark : Type := Int × Bool
instance : DecidableEq TMark := (@instDecidableEqProd _ _ (inferInstance : DecidableEq Int) (inferInstance : DecidableEq Bool))
theorem eqMark_eq (x y : TMark) : L.eqMark x.1 x.2 y.1 y.2 = some (decide (x = y)) := by
  unfold L.eqMark
  simp only [cneI, cneB, cnotb, cbeB, cds, cdt, Option.bind_some]
  exact sdec ⟨fun h => (Prod.ext h.1 h.2), by rintro rfl; exact ⟨rfl, rfl⟩⟩
theorem eqMarkS_eq (a b : List TMark) (hc : a.length ≤ 1000000000000) : L.eqMarkS a b = some (decide (a = b)) := by
  have hn := hc
  unfold L.eqMarkS
  refine eqTop a b ?_
  intro hl
  refine eqLoop (fun m i => L.eqMarkS_l0 m (fun y => some y) (some true) i a b) a b ((0 : Int), false) hl hn (fun i m hi => ?_) (fun m => ?_)
  · show L.eqMarkS_l0 (m + 1) _ _ _ _ _ = bif _ then L.eqMarkS_l0 m _ _ _ _ _ else _
    rw [L.eqMarkS_l0, cdp (by omega), cdp (by omega), cdp (by omega), eqMark_eq (nthI a (i : Int) ((0 : Int), false)) (nthI b (i : Int) ((0 : Int), false)), Option.bind_some, cnotb, w64 (by omega) (by omega)]
    rfl
  · show L.eqMarkS_l0 (m + 1) _ _ _ _ _ = _
    rw [L.eqMarkS_l0, cdn (by omega)]
abbrev TMarks : Type := Int × List TMark
instance : DecidableEq TMarks := (@instDecidableEqProd _ _ (inferInstance : DecidableEq Int) (inferInstance : DecidableEq (List TMark)))
def cMarks (x : TMarks) : Nat := (x.2).length
theorem eqMarks_eq (x y : TMarks) (hc : cMarks x ≤ 1000000000000) : L.eqMarks x.1 y.1 x.2 y.2 = some (decide (x = y)) := by
  unfold cMarks at hc
  unfold L.eqMarks
  simp only [eqMarkS_eq x.2 y.2 (by omega), cneI, cneB, cnotb, cbeB, cds, cdt, Option.bind_some]
  exact sdec ⟨fun h => (Prod.ext h.1 h.2), by rintro rfl; exact ⟨rfl, rfl⟩⟩
abbrev TWide : Type := Int × Int
instance : DecidableEq TWide := (@instDecidableEqProd _ _ (inferInstance : DecidableEq Int) (inferInstance : DecidableEq Int))
theorem eqWide_eq (x y : TWide) : L.eqWide x.1 x.2 y.1 y.2 = some (decide (x = y)) := by
  unfold L.eqWide
  simp only [cneI, cneB, cnotb, cbeB, cds, cdt, Option.bind_some]
  exact sdec ⟨fun h => (Prod.ext h.1 h.2), by rintro rfl; exact ⟨rfl, rfl⟩⟩
theorem eqIntS_eq (a b : List Int) (hc : a.length ≤ 1000000000000) : L.eqIntS a b = some (decide (a = b)) := by
  have hn := hc
  unfold L.eqIntS
  refine eqTop a b ?_
  intro hl
  refine eqLoop (fun m i => L.eqIntS_l0 m (fun y => some y) (some true) i a b) a b (0 : Int) hl hn (fun i m hi => ?_) (fun m => ?_)
  · show L.eqIntS_l0 (m + 1) _ _ _ _ _ = bif _ then L.eqIntS_l0 m _ _ _ _ _ else _
    rw [L.eqIntS_l0, cdp (by omega), cdp (by omega), cdp (by omega), cneI, w64 (by omega) (by omega)]
    rfl
  · show L.eqIntS_l0 (m + 1) _ _ _ _ _ = _
    rw [L.eqIntS_l0, cdn (by omega)]
abbrev TAgg : Type := Int × (TWide) × Int × Int × List Int
instance : DecidableEq TAgg := (@instDecidableEqProd _ _ (inferInstance : DecidableEq Int) (@instDecidableEqProd _ _ (inferInstance : DecidableEq TWide) (@instDecidableEqProd _ _ (inferInstance : DecidableEq Int) (@instDecidableEqProd _ _ (inferInstance : DecidableEq Int) (inferInstance : DecidableEq (List Int))))))
def cAgg (x : TAgg) : Nat := (x.2.2.2.2).length
theorem eqAgg_eq (x y : TAgg) (hc : cAgg x ≤ 1000000000000) : L.eqAgg x.1 x.2.1.1 x.2.1.2 x.2.2.1 x.2.2.2.1 y.1 y.2.1.1 y.2.1.2 y.2.2.1 y.2.2.2.1 x.2.2.2.2 y.2.2.2.2 = some (decide (x = y)) := by
  unfold cAgg at hc
  unfold L.eqAgg
  simp only [eqWide_eq x.2.1 y.2.1, eqIntS_eq x.2.2.2.2 y.2.2.2.2 (by omega), cneI, cneB, cnotb, cbeB, cds, cdt, Option.bind_some]
  exact sdec ⟨fun h => (Prod.ext h.1 (Prod.ext h.2.1 (Prod.ext h.2.2.1 (Prod.ext h.2.2.2.1 h.2.2.2.2)))), by rintro rfl; exact ⟨rfl, rfl, rfl, rfl, rfl⟩⟩
abbrev TCell : Type := Int × Int × Int × Int × Int × TAgg
instance : DecidableEq TCell := (@instDecidableEqProd _ _ (inferInstance : DecidableEq Int) (@instDecidableEqProd _ _ (inferInstance : DecidableEq Int) (@instDecidableEqProd _ _ (inferInstance : DecidableEq Int) (@instDecidableEqProd _ _ (inferInstance : DecidableEq Int) (@instDecidableEqProd _ _ (inferInstance : DecidableEq Int) (inferInstance : DecidableEq TAgg))))))
def cCell (x : TCell) : Nat := (x.2.2.2.2.2.2.2.2.2).length
def cCellS (a : List TCell) : Nat := a.length + (a.map cCell).sum
theorem cCellS_mem {a : List TCell} {x : TCell} (h : x ∈ a) : cCell x ≤ cCellS a := by
  have := sum_mem (List.mem_map.2 ⟨x, h, rfl⟩ : cCell x ∈ a.map cCell)
  unfold cCellS; omega
theorem eqCell_eq (x y : TCell) (hc : cCell x ≤ 1000000000000) : L.eqCell x.1 x.2.1 x.2.2.1 x.2.2.2.1 x.2.2.2.2.1 x.2.2.2.2.2.1 x.2.2.2.2.2.2.1.1 x.2.2.2.2.2.2.1.2 x.2.2.2.2.2.2.2.1 x.2.2.2.2.2.2.2.2.1 y.1 y.2.1 y.2.2.1 y.2.2.2.1 y.2.2.2.2.1 y.2.2.2.2.2.1 y.2.2.2.2.2.2.1.1 y.2.2.2.2.2.2.1.2 y.2.2.2.2.2.2.2.1 y.2.2.2.2.2.2.2.2.1 x.2.2.2.2.2.2.2.2.2 y.2.2.2.2.2.2.2.2.2 = some (decide (x = y)) := by
  unfold cCell at hc
  unfold L.eqCell
  simp only [eqAgg_eq x.2.2.2.2.2 y.2.2.2.2.2 (by unfold cAgg; omega), cneI, cneB, cnotb, cbeB, cds, cdt, Option.bind_some]
  exact sdec ⟨fun h => (Prod.ext h.1 (Prod.ext h.2.1 (Prod.ext h.2.2.1 (Prod.ext h.2.2.2.1 (Prod.ext h.2.2.2.2.1 h.2.2.2.2.2))))), by rintro rfl; exact ⟨rfl, rfl, rfl, rfl, rfl, rfl⟩⟩
theorem eqCellS_eq (a b : List TCell) (hc : cCellS a ≤ 1000000000000) : L.eqCellS a b = some (decide (a = b)) := by
  have hn : a.length ≤ 1000000000000 := by unfold cCellS at hc; omega
  unfold L.eqCellS
  refine eqTop a b ?_
  intro hl
  refine eqLoop (fun m i => L.eqCellS_l0 m (fun y => some y) (some true) i a b) a b ((0 : Int), ((0 : Int), ((0 : Int), ((0 : Int), ((0 : Int), ((0 : Int), (((0 : Int), (0 : Int)), ((0 : Int), ((0 : Int), []))))))))) hl hn (fun i m hi => ?_) (fun m => ?_)
  · show L.eqCellS_l0 (m + 1) _ _ _ _ _ = bif _ then L.eqCellS_l0 m _ _ _ _ _ else _
    rw [L.eqCellS_l0, cdp (by omega), cdp (by omega), cdp (by omega), eqCell_eq (nthI a (i : Int) ((0 : Int), ((0 : Int), ((0 : Int), ((0 : Int), ((0 : Int), ((0 : Int), (((0 : Int), (0 : Int)), ((0 : Int), ((0 : Int), [])))))))))) (nthI b (i : Int) ((0 : Int), ((0 : Int), ((0 : Int), ((0 : Int), ((0 : Int), ((0 : Int), (((0 : Int), (0 : Int)), ((0 : Int), ((0 : Int), [])))))))))) (Nat.le_trans (cCellS_mem (nthI_mem a i _ hi)) hc), Option.bind_some, cnotb, w64 (by omega) (by omega)]
    rfl
  · show L.eqCellS_l0 (m + 1) _ _ _ _ _ = _
    rw [L.eqCellS_l0, cdn (by omega)]
abbrev TPane : Type := Int × Int × Int × Int × Int × Int × List Int × Bool
instance : DecidableEq TPane := (@instDecidableEqProd _ _ (inferInstance : DecidableEq Int) (@instDecidableEqProd _ _ (inferInstance : DecidableEq Int) (@instDecidableEqProd _ _ (inferInstance : DecidableEq Int) (@instDecidableEqProd _ _ (inferInstance : DecidableEq Int) (@instDecidableEqProd _ _ (inferInstance : DecidableEq Int) (@instDecidableEqProd _ _ (inferInstance : DecidableEq Int) (@instDecidableEqProd _ _ (inferInstance : DecidableEq (List Int)) (inferInstance : DecidableEq Bool))))))))
def cPane (x : TPane) : Nat := (x.2.2.2.2.2.2.1).length
theorem eqPane_eq (x y : TPane) (hc : cPane x ≤ 1000000000000) : L.eqPane x.1 x.2.1 x.2.2.1 x.2.2.2.1 x.2.2.2.2.1 x.2.2.2.2.2.1 x.2.2.2.2.2.2.2 y.1 y.2.1 y.2.2.1 y.2.2.2.1 y.2.2.2.2.1 y.2.2.2.2.2.1 y.2.2.2.2.2.2.2 x.2.2.2.2.2.2.1 y.2.2.2.2.2.2.1 = some (decide (x = y)) := by
  unfold cPane at hc
  unfold L.eqPane
  simp only [eqIntS_eq x.2.2.2.2.2.2.1 y.2.2.2.2.2.2.1 (by omega), cneI, cneB, cnotb, cbeB, cds, cdt, Option.bind_some]
  exact sdec ⟨fun h => (Prod.ext h.1 (Prod.ext h.2.1 (Prod.ext h.2.2.1 (Prod.ext h.2.2.2.1 (Prod.ext h.2.2.2.2.1 (Prod.ext h.2.2.2.2.2.1 (Prod.ext h.2.2.2.2.2.2.1 h.2.2.2.2.2.2.2))))))), by rintro rfl; exact ⟨rfl, rfl, rfl, rfl, rfl, rfl, rfl, rfl⟩⟩
abbrev TItem : Type := Int × Int × TPane
instance : DecidableEq TItem := (@instDecidableEqProd _ _ (inferInstance : DecidableEq Int) (@instDecidableEqProd _ _ (inferInstance : DecidableEq Int) (inferInstance : DecidableEq TPane)))
def cItem (x : TItem) : Nat := (x.2.2.2.2.2.2.2.2.1).length
def cItemS (a : List TItem) : Nat := a.length + (a.map cItem).sum
theorem cItemS_mem {a : List TItem} {x : TItem} (h : x ∈ a) : cItem x ≤ cItemS a := by
  have := sum_mem (List.mem_map.2 ⟨x, h, rfl⟩ : cItem x ∈ a.map cItem)
  unfold cItemS; omega
theorem eqItem_eq (x y : TItem) (hc : cItem x ≤ 1000000000000) : L.eqItem x.1 x.2.1 x.2.2.1 x.2.2.2.1 x.2.2.2.2.1 x.2.2.2.2.2.1 x.2.2.2.2.2.2.1 x.2.2.2.2.2.2.2.1 x.2.2.2.2.2.2.2.2.2 y.1 y.2.1 y.2.2.1 y.2.2.2.1 y.2.2.2.2.1 y.2.2.2.2.2.1 y.2.2.2.2.2.2.1 y.2.2.2.2.2.2.2.1 y.2.2.2.2.2.2.2.2.2 x.2.2.2.2.2.2.2.2.1 y.2.2.2.2.2.2.2.2.1 = some (decide (x = y)) := by
  unfold cItem at hc
  unfold L.eqItem
  simp only [eqPane_eq x.2.2 y.2.2 (by unfold cPane; omega), cneI, cneB, cnotb, cbeB, cds, cdt, Option.bind_some]
  exact sdec ⟨fun h => (Prod.ext h.1 (Prod.ext h.2.1 h.2.2)), by rintro rfl; exact ⟨rfl, rfl, rfl⟩⟩
theorem eqItemS_eq (a b : List TItem) (hc : cItemS a ≤ 1000000000000) : L.eqItemS a b = some (decide (a = b)) := by
  have hn : a.length ≤ 1000000000000 := by unfold cItemS at hc; omega
  unfold L.eqItemS
  refine eqTop a b ?_
  intro hl
  refine eqLoop (fun m i => L.eqItemS_l0 m (fun y => some y) (some true) i a b) a b ((0 : Int), ((0 : Int), ((0 : Int), ((0 : Int), ((0 : Int), ((0 : Int), ((0 : Int), ((0 : Int), ([], false))))))))) hl hn (fun i m hi => ?_) (fun m => ?_)
  · show L.eqItemS_l0 (m + 1) _ _ _ _ _ = bif _ then L.eqItemS_l0 m _ _ _ _ _ else _
    rw [L.eqItemS_l0, cdp (by omega), cdp (by omega), cdp (by omega), eqItem_eq (nthI a (i : Int) ((0 : Int), ((0 : Int), ((0 : Int), ((0 : Int), ((0 : Int), ((0 : Int), ((0 : Int), ((0 : Int), ([], false)))))))))) (nthI b (i : Int) ((0 : Int), ((0 : Int), ((0 : Int), ((0 : Int), ((0 : Int), ((0 : Int), ((0 : Int), ((0 : Int), ([], false)))))))))) (Nat.le_trans (cItemS_mem (nthI_mem a i _ hi)) hc), Option.bind_some, cnotb, w64 (by omega) (by omega)]
    rfl
  · show L.eqItemS_l0 (m + 1) _ _ _ _ _ = _
    rw [L.eqItemS_l0, cdn (by omega)]
abbrev TRec : Type := Int × Int × Int
instance : DecidableEq TRec := (@instDecidableEqProd _ _ (inferInstance : DecidableEq Int) (@instDecidableEqProd _ _ (inferInstance : DecidableEq Int) (inferInstance : DecidableEq Int)))
theorem eqRec_eq (x y : TRec) : L.eqRec x.1 x.2.1 x.2.2 y.1 y.2.1 y.2.2 = some (decide (x = y)) := by
  unfold L.eqRec
  simp only [cneI, cneB, cnotb, cbeB, cds, cdt, Option.bind_some]
  exact sdec ⟨fun h => (Prod.ext h.1 (Prod.ext h.2.1 h.2.2)), by rintro rfl; exact ⟨rfl, rfl, rfl⟩⟩
theorem eqRecS_eq (a b : List TRec) (hc : a.length ≤ 1000000000000) : L.eqRecS a b = some (decide (a = b)) := by
  have hn := hc
  unfold L.eqRecS
  refine eqTop a b ?_
  intro hl
  refine eqLoop (fun m i => L.eqRecS_l0 m (fun y => some y) (some true) i a b) a b ((0 : Int), ((0 : Int), (0 : Int))) hl hn (fun i m hi => ?_) (fun m => ?_)
  · show L.eqRecS_l0 (m + 1) _ _ _ _ _ = bif _ then L.eqRecS_l0 m _ _ _ _ _ else _
    rw [L.eqRecS_l0, cdp (by omega), cdp (by omega), cdp (by omega), eqRec_eq (nthI a (i : Int) ((0 : Int), ((0 : Int), (0 : Int)))) (nthI b (i : Int) ((0 : Int), ((0 : Int), (0 : Int)))), Option.bind_some, cnotb, w64 (by omega) (by omega)]
    rfl
  · show L.eqRecS_l0 (m + 1) _ _ _ _ _ = _
    rw [L.eqRecS_l0, cdn (by omega)]
abbrev TBox : Type := Int × Int × Int × Int × List TItem × List TRec
instance : DecidableEq TBox := (@instDecidableEqProd _ _ (inferInstance : DecidableEq Int) (@instDecidableEqProd _ _ (inferInstance : DecidableEq Int) (@instDecidableEqProd _ _ (inferInstance : DecidableEq Int) (@instDecidableEqProd _ _ (inferInstance : DecidableEq Int) (@instDecidableEqProd _ _ (inferInstance : DecidableEq (List TItem)) (inferInstance : DecidableEq (List TRec)))))))
def cBox (x : TBox) : Nat := cItemS x.2.2.2.2.1 + (x.2.2.2.2.2).length
def cBoxS (a : List TBox) : Nat := a.length + (a.map cBox).sum
theorem cBoxS_mem {a : List TBox} {x : TBox} (h : x ∈ a) : cBox x ≤ cBoxS a := by
  have := sum_mem (List.mem_map.2 ⟨x, h, rfl⟩ : cBox x ∈ a.map cBox)
  unfold cBoxS; omega
theorem eqBox_eq (x y : TBox) (hc : cBox x ≤ 1000000000000) : L.eqBox x.1 x.2.1 x.2.2.1 x.2.2.2.1 y.1 y.2.1 y.2.2.1 y.2.2.2.1 x.2.2.2.2.1 x.2.2.2.2.2 y.2.2.2.2.1 y.2.2.2.2.2 = some (decide (x = y)) := by
  unfold cBox at hc
  unfold L.eqBox
  simp only [eqItemS_eq x.2.2.2.2.1 y.2.2.2.2.1 (by omega), eqRecS_eq x.2.2.2.2.2 y.2.2.2.2.2 (by omega), cneI, cneB, cnotb, cbeB, cds, cdt, Option.bind_some]
  exact sdec ⟨fun h => (Prod.ext h.1 (Prod.ext h.2.1 (Prod.ext h.2.2.1 (Prod.ext h.2.2.2.1 (Prod.ext h.2.2.2.2.1 h.2.2.2.2.2))))), by rintro rfl; exact ⟨rfl, rfl, rfl, rfl, rfl, rfl⟩⟩
theorem eqBoxS_eq (a b : List TBox) (hc : cBoxS a ≤ 1000000000000) : L.eqBoxS a b = some (decide (a = b)) := by
  have hn : a.length ≤ 1000000000000 := by unfold cBoxS at hc; omega
  unfold L.eqBoxS
  refine eqTop a b ?_
  intro hl
  refine eqLoop (fun m i => L.eqBoxS_l0 m (fun y => some y) (some true) i a b) a b ((0 : Int), ((0 : Int), ((0 : Int), ((0 : Int), ([], []))))) hl hn (fun i m hi => ?_) (fun m => ?_)
  · show L.eqBoxS_l0 (m + 1) _ _ _ _ _ = bif _ then L.eqBoxS_l0 m _ _ _ _ _ else _
    rw [L.eqBoxS_l0, cdp (by omega), cdp (by omega), cdp (by omega), eqBox_eq (nthI a (i : Int) ((0 : Int), ((0 : Int), ((0 : Int), ((0 : Int), ([], [])))))) (nthI b (i : Int) ((0 : Int), ((0 : Int), ((0 : Int), ((0 : Int), ([], [])))))) (Nat.le_trans (cBoxS_mem (nthI_mem a i _ hi)) hc), Option.bind_some, cnotb, w64 (by omega) (by omega)]
    rfl
  · show L.eqBoxS_l0 (m + 1) _ _ _ _ _ = _
    rw [L.eqBoxS_l0, cdn (by omega)]
abbrev TEng : Type := (TConf) × List TPunct × (TMarks) × List TCell × List Int × List Int × List TBox
instance : DecidableEq TEng := (@instDecidableEqProd _ _ (inferInstance : DecidableEq TConf) (@instDecidableEqProd _ _ (inferInstance : DecidableEq (List TPunct)) (@instDecidableEqProd _ _ (inferInstance : DecidableEq TMarks) (@instDecidableEqProd _ _ (inferInstance : DecidableEq (List TCell)) (@instDecidableEqProd _ _ (inferInstance : DecidableEq (List Int)) (@instDecidableEqProd _ _ (inferInstance : DecidableEq (List Int)) (inferInstance : DecidableEq (List TBox))))))))
def cEng (x : TEng) : Nat := (x.1.1.2).length + cQueryS x.1.2.2.2.1 + (x.1.2.2.2.2.1).length + (x.1.2.2.2.2.2).length + (x.2.1).length + (x.2.2.1.2).length + cCellS x.2.2.2.1 + (x.2.2.2.2.1).length + (x.2.2.2.2.2.1).length + cBoxS x.2.2.2.2.2.2
theorem eqEng_eq (x y : TEng) (hc : cEng x ≤ 1000000000000) : L.eqEng x.1.1.1 x.1.2.1 x.1.2.2.1 x.2.2.1.1 y.1.1.1 y.1.2.1 y.1.2.2.1 y.2.2.1.1 x.1.1.2 x.1.2.2.2.1 x.1.2.2.2.2.1 x.1.2.2.2.2.2 x.2.1 x.2.2.1.2 x.2.2.2.1 x.2.2.2.2.1 x.2.2.2.2.2.1 x.2.2.2.2.2.2 y.1.1.2 y.1.2.2.2.1 y.1.2.2.2.2.1 y.1.2.2.2.2.2 y.2.1 y.2.2.1.2 y.2.2.2.1 y.2.2.2.2.1 y.2.2.2.2.2.1 y.2.2.2.2.2.2 = some (decide (x = y)) := by
  unfold cEng at hc
  unfold L.eqEng
  simp only [eqConf_eq x.1 y.1 (by unfold cConf; omega), eqPunctS_eq x.2.1 y.2.1 (by omega), eqMarks_eq x.2.2.1 y.2.2.1 (by unfold cMarks; omega), eqCellS_eq x.2.2.2.1 y.2.2.2.1 (by omega), eqIntS_eq x.2.2.2.2.1 y.2.2.2.2.1 (by omega), eqIntS_eq x.2.2.2.2.2.1 y.2.2.2.2.2.1 (by omega), eqBoxS_eq x.2.2.2.2.2.2 y.2.2.2.2.2.2 (by omega), cneI, cneB, cnotb, cbeB, cds, cdt, Option.bind_some]
  exact sdec ⟨fun h => (Prod.ext h.1 (Prod.ext h.2.1 (Prod.ext h.2.2.1 (Prod.ext h.2.2.2.1 (Prod.ext h.2.2.2.2.1 (Prod.ext h.2.2.2.2.2.1 h.2.2.2.2.2.2)))))), by rintro rfl; exact ⟨rfl, rfl, rfl, rfl, rfl, rfl, rfl⟩⟩
def m1Uint64 (k : Int) (_ : Int) : Int := k
def w1Uint64 (_ : Int) : Nat := 1
def mUint64S (k : Int) (a : List Int) : List Int := markAll m1Uint64 w1Uint64 k a
theorem markUint64S_eq (k : Int) (a : List Int) (h0 : 0 ≤ k) (hc : k + 1 * (a.length : Int) ≤ 1000000000000) : L.markUint64S k a = some (k + 1 * (a.length : Int), mUint64S k a) := by
  unfold L.markUint64S mUint64S
  refine (markLoop (fun m k i xs => L.markUint64S_l0 m (fun y12 y13 => some (y12, y13)) k i xs) m1Uint64 w1Uint64 a (0 : Int) 1 (fun _ => rfl) h0 (by omega) hc (fun i m k xs hi hx h0 h1 => ?_) (fun m k xs hx => ?_)).trans rfl
  · show L.markUint64S_l0 (m + 1) _ _ _ _ = L.markUint64S_l0 m _ _ _ _
    have hdec : decide ((0 : Int) ≤ (i : Int) ∧ (i : Int) < (xs.length : Int)) = true := by simp; omega
    rw [L.markUint64S_l0, cdp (by omega)]
    simp (disch := omega) only [df1, df2, df3, df4, df5, df6, df7, df8, hdec, cond_true, w64, u8_mod, u64w, List.length_set, nthI_set, List.set_set, Int.toNat_natCast, cmod3, Int.add_assoc, Int.reduceAdd, if_false, reduceIte]
    rfl
  · show L.markUint64S_l0 (m + 1) _ _ _ _ = _
    rw [L.markUint64S_l0, cdn (by omega)]
def m1Tok (k : Int) (x : TTok) : TTok := (k, k + 1)
def w1Tok (x : TTok) : Nat := 2
def mTokS (k : Int) (a : List TTok) : List TTok := markAll m1Tok w1Tok k a
theorem markTokS_eq (k : Int) (a : List TTok) (h0 : 0 ≤ k) (hc : k + 2 * (a.length : Int) ≤ 1000000000000) : L.markTokS k a = some (k + 2 * (a.length : Int), mTokS k a) := by
  unfold L.markTokS mTokS
  refine (markLoop (fun m k i xs => L.markTokS_l0 m (fun y12 y13 => some (y12, y13)) k i xs) m1Tok w1Tok a ((0 : Int), (0 : Int)) 2 (fun _ => rfl) h0 (by omega) hc (fun i m k xs hi hx h0 h1 => ?_) (fun m k xs hx => ?_)).trans rfl
  · show L.markTokS_l0 (m + 1) _ _ _ _ = L.markTokS_l0 m _ _ _ _
    have hdec : decide ((0 : Int) ≤ (i : Int) ∧ (i : Int) < (xs.length : Int)) = true := by simp; omega
    rw [L.markTokS_l0, cdp (by omega)]
    simp (disch := omega) only [df1, df2, df3, df4, df5, df6, df7, df8, hdec, cond_true, w64, u8_mod, u64w, List.length_set, nthI_set, List.set_set, Int.toNat_natCast, cmod3, Int.add_assoc, Int.reduceAdd, if_false, reduceIte]
    rfl
  · show L.markTokS_l0 (m + 1) _ _ _ _ = _
    rw [L.markTokS_l0, cdn (by omega)]
def m1Query (k : Int) (x : TQuery) : TQuery := (mTokS k x.1, (mTokS (k + 2 * ((x.1).length : Int)) x.2.1, ((k + (2 * ((x.1).length : Int) + 2 * ((x.2.1).length : Int)), (k + (2 * ((x.1).length : Int) + (2 * ((x.2.1).length : Int) + 1)), k + (2 * ((x.1).length : Int) + (2 * ((x.2.1).length : Int) + 2)))), (k + (2 * ((x.1).length : Int) + (2 * ((x.2.1).length : Int) + 3)), k + (2 * ((x.1).length : Int) + (2 * ((x.2.1).length : Int) + 4))))))
def w1Query (x : TQuery) : Nat := 5 + 2 * (x.1).length + 2 * (x.2.1).length
def mQueryS (k : Int) (a : List TQuery) : List TQuery := markAll m1Query w1Query k a
def wQueryS (a : List TQuery) : Nat := (a.map w1Query).sum
theorem markQueryS_eq (k : Int) (a : List TQuery) (h0 : 0 ≤ k) (hn : a.length ≤ 1000000000000) (hc : k + ((wQueryS a : Nat) : Int) ≤ 1000000000000) : L.markQueryS k a = some (k + ((wQueryS a : Nat) : Int), mQueryS k a) := by
  unfold L.markQueryS mQueryS wQueryS
  refine (markLoopW (fun m k i xs => L.markQueryS_l0 m (fun y12 y13 => some (y12, y13)) k i xs) m1Query w1Query a ([], ([], (((0 : Int), ((0 : Int), (0 : Int))), ((0 : Int), (0 : Int))))) h0 hn (by unfold wQueryS at hc; exact hc) (fun i m k xs hi hx h0 h1 => ?_) (fun m k xs hx => ?_)).trans rfl
  · show L.markQueryS_l0 (m + 1) _ _ _ _ = L.markQueryS_l0 m _ _ _ _
    have hdec : decide ((0 : Int) ≤ (i : Int) ∧ (i : Int) < (xs.length : Int)) = true := by simp; omega
    have e : k + ((w1Query (nthI xs (i : Int) ([], ([], (((0 : Int), ((0 : Int), (0 : Int))), ((0 : Int), (0 : Int)))))) : Nat) : Int) = k + (2 * (((nthI xs (i : Int) ([], ([], (((0 : Int), ((0 : Int), (0 : Int))), ((0 : Int), (0 : Int)))))).1).length : Int) + (2 * (((nthI xs (i : Int) ([], ([], (((0 : Int), ((0 : Int), (0 : Int))), ((0 : Int), (0 : Int)))))).2.1).length : Int) + 5)) := by unfold w1Query; omega
    have e2 : IntKind.i64.wrap ((i : Int) + 1) = ((i + 1 : Nat) : Int) := by rw [w64 (by omega) (by omega)]; omega
    rw [e] at h1 ⊢
    unfold m1Query
    rw [L.markQueryS_l0, cdp (by omega)]
    skip
    simp (disch := omega) only [df1, df2, df3, df4, df5, df6, df7, df8, hdec, cond_true, e2, w64, u8_mod, u64w, List.length_set, nthI_set, List.set_set, Int.toNat_natCast, cmod3, Int.add_assoc, Int.reduceAdd, if_false, reduceIte, Option.bind_some, Int.add_zero, cond_false, markTokS_eq]
    all_goals rfl
  · show L.markQueryS_l0 (m + 1) _ _ _ _ = _
    rw [L.markQueryS_l0, cdn (by omega)]
def m1Sub (k : Int) (x : TSub) : TSub := (k, (k + 1, k + 2))
def w1Sub (x : TSub) : Nat := 3
def mSubS (k : Int) (a : List TSub) : List TSub := markAll m1Sub w1Sub k a
theorem markSubS_eq (k : Int) (a : List TSub) (h0 : 0 ≤ k) (hc : k + 3 * (a.length : Int) ≤ 1000000000000) : L.markSubS k a = some (k + 3 * (a.length : Int), mSubS k a) := by
  unfold L.markSubS mSubS
  refine (markLoop (fun m k i xs => L.markSubS_l0 m (fun y12 y13 => some (y12, y13)) k i xs) m1Sub w1Sub a ((0 : Int), ((0 : Int), (0 : Int))) 3 (fun _ => rfl) h0 (by omega) hc (fun i m k xs hi hx h0 h1 => ?_) (fun m k xs hx => ?_)).trans rfl
  · show L.markSubS_l0 (m + 1) _ _ _ _ = L.markSubS_l0 m _ _ _ _
    have hdec : decide ((0 : Int) ≤ (i : Int) ∧ (i : Int) < (xs.length : Int)) = true := by simp; omega
    rw [L.markSubS_l0, cdp (by omega)]
    simp (disch := omega) only [df1, df2, df3, df4, df5, df6, df7, df8, hdec, cond_true, w64, u8_mod, u64w, List.length_set, nthI_set, List.set_set, Int.toNat_natCast, cmod3, Int.add_assoc, Int.reduceAdd, if_false, reduceIte]
    rfl
  · show L.markSubS_l0 (m + 1) _ _ _ _ = _
    rw [L.markSubS_l0, cdn (by omega)]
def m1Rule (k : Int) (x : TRule) : TRule := (k, (k + 1, (k + 2, (k + 3, k + 4))))
def w1Rule (x : TRule) : Nat := 5
def mRuleS (k : Int) (a : List TRule) : List TRule := markAll m1Rule w1Rule k a
theorem markRuleS_eq (k : Int) (a : List TRule) (h0 : 0 ≤ k) (hc : k + 5 * (a.length : Int) ≤ 1000000000000) : L.markRuleS k a = some (k + 5 * (a.length : Int), mRuleS k a) := by
  unfold L.markRuleS mRuleS
  refine (markLoop (fun m k i xs => L.markRuleS_l0 m (fun y12 y13 => some (y12, y13)) k i xs) m1Rule w1Rule a ((0 : Int), ((0 : Int), ((0 : Int), ((0 : Int), (0 : Int))))) 5 (fun _ => rfl) h0 (by omega) hc (fun i m k xs hi hx h0 h1 => ?_) (fun m k xs hx => ?_)).trans rfl
  · show L.markRuleS_l0 (m + 1) _ _ _ _ = L.markRuleS_l0 m _ _ _ _
    have hdec : decide ((0 : Int) ≤ (i : Int) ∧ (i : Int) < (xs.length : Int)) = true := by simp; omega
    rw [L.markRuleS_l0, cdp (by omega)]
    simp (disch := omega) only [df1, df2, df3, df4, df5, df6, df7, df8, hdec, cond_true, w64, u8_mod, u64w, List.length_set, nthI_set, List.set_set, Int.toNat_natCast, cmod3, Int.add_assoc, Int.reduceAdd, if_false, reduceIte]
    rfl
  · show L.markRuleS_l0 (m + 1) _ _ _ _ = _
    rw [L.markRuleS_l0, cdn (by omega)]
theorem markConf_eq (x : TConf) (k : Int) (h0 : 0 ≤ k) (hn2 : (x.2.2.2.1).length ≤ 1000000000000) (hc : k + (1 * ((x.1.2).length : Int) + (((wQueryS x.2.2.2.1 : Nat) : Int) + (3 * ((x.2.2.2.2.1).length : Int) + 5 * ((x.2.2.2.2.2).length : Int)))) ≤ 1000000000000) : L.markConf x.1.1 x.2.1 x.2.2.1 k x.1.2 x.2.2.2.1 x.2.2.2.2.1 x.2.2.2.2.2 = some (k + (1 * ((x.1.2).length : Int) + (((wQueryS x.2.2.2.1 : Nat) : Int) + (3 * ((x.2.2.2.2.1).length : Int) + 5 * ((x.2.2.2.2.2).length : Int)))), (mUint64S (k) x.1.2), (mQueryS (k + 1 * ((x.1.2).length : Int)) x.2.2.2.1), (mSubS (k + (1 * ((x.1.2).length : Int) + ((wQueryS x.2.2.2.1 : Nat) : Int))) x.2.2.2.2.1), (mRuleS (k + (1 * ((x.1.2).length : Int) + (((wQueryS x.2.2.2.1 : Nat) : Int) + 3 * ((x.2.2.2.2.1).length : Int)))) x.2.2.2.2.2)) := by
  unfold L.markConf L.markLat
  simp (disch := omega) only [df1, df2, df3, df4, df5, df6, df7, df8, Int.add_assoc, Option.bind_some, dlt0, cond_false, markQueryS_eq, markRuleS_eq, markSubS_eq, markUint64S_eq]
def m1Punct (k : Int) (x : TPunct) : TPunct := (k, (k + 1, (k + 2, k + 3)))
def w1Punct (x : TPunct) : Nat := 4
def mPunctS (k : Int) (a : List TPunct) : List TPunct := markAll m1Punct w1Punct k a
theorem markPunctS_eq (k : Int) (a : List TPunct) (h0 : 0 ≤ k) (hc : k + 4 * (a.length : Int) ≤ 1000000000000) : L.markPunctS k a = some (k + 4 * (a.length : Int), mPunctS k a) := by
  unfold L.markPunctS mPunctS
  refine (markLoop (fun m k i xs => L.markPunctS_l0 m (fun y12 y13 => some (y12, y13)) k i xs) m1Punct w1Punct a ((0 : Int), ((0 : Int), ((0 : Int), (0 : Int)))) 4 (fun _ => rfl) h0 (by omega) hc (fun i m k xs hi hx h0 h1 => ?_) (fun m k xs hx => ?_)).trans rfl
  · show L.markPunctS_l0 (m + 1) _ _ _ _ = L.markPunctS_l0 m _ _ _ _
    have hdec : decide ((0 : Int) ≤ (i : Int) ∧ (i : Int) < (xs.length : Int)) = true := by simp; omega
    rw [L.markPunctS_l0, cdp (by omega)]
    simp (disch := omega) only [df1, df2, df3, df4, df5, df6, df7, df8, hdec, cond_true, w64, u8_mod, u64w, List.length_set, nthI_set, List.set_set, Int.toNat_natCast, cmod3, Int.add_assoc, Int.reduceAdd, if_false, reduceIte]
    rfl
  · show L.markPunctS_l0 (m + 1) _ _ _ _ = _
    rw [L.markPunctS_l0, cdn (by omega)]
def m1Mark (k : Int) (x : TMark) : TMark := (k, (Int.tmod (k + 1) 3 == 0))
def w1Mark (x : TMark) : Nat := 2
def mMarkS (k : Int) (a : List TMark) : List TMark := markAll m1Mark w1Mark k a
theorem markMarkS_eq (k : Int) (a : List TMark) (h0 : 0 ≤ k) (hc : k + 2 * (a.length : Int) ≤ 1000000000000) : L.markMarkS k a = some (k + 2 * (a.length : Int), mMarkS k a) := by
  unfold L.markMarkS mMarkS
  refine (markLoop (fun m k i xs => L.markMarkS_l0 m (fun y12 y13 => some (y12, y13)) k i xs) m1Mark w1Mark a ((0 : Int), false) 2 (fun _ => rfl) h0 (by omega) hc (fun i m k xs hi hx h0 h1 => ?_) (fun m k xs hx => ?_)).trans rfl
  · show L.markMarkS_l0 (m + 1) _ _ _ _ = L.markMarkS_l0 m _ _ _ _
    have hdec : decide ((0 : Int) ≤ (i : Int) ∧ (i : Int) < (xs.length : Int)) = true := by simp; omega
    rw [L.markMarkS_l0, cdp (by omega)]
    simp (disch := omega) only [df1, df2, df3, df4, df5, df6, df7, df8, hdec, cond_true, w64, u8_mod, u64w, List.length_set, nthI_set, List.set_set, Int.toNat_natCast, cmod3, Int.add_assoc, Int.reduceAdd, if_false, reduceIte]
    rfl
  · show L.markMarkS_l0 (m + 1) _ _ _ _ = _
    rw [L.markMarkS_l0, cdn (by omega)]
def m1Int (k : Int) (_ : Int) : Int := k
def w1Int (_ : Int) : Nat := 1
def mIntS (k : Int) (a : List Int) : List Int := markAll m1Int w1Int k a
theorem markIntS_eq (k : Int) (a : List Int) (h0 : 0 ≤ k) (hc : k + 1 * (a.length : Int) ≤ 1000000000000) : L.markIntS k a = some (k + 1 * (a.length : Int), mIntS k a) := by
  unfold L.markIntS mIntS
  refine (markLoop (fun m k i xs => L.markIntS_l0 m (fun y12 y13 => some (y12, y13)) k i xs) m1Int w1Int a (0 : Int) 1 (fun _ => rfl) h0 (by omega) hc (fun i m k xs hi hx h0 h1 => ?_) (fun m k xs hx => ?_)).trans rfl
  · show L.markIntS_l0 (m + 1) _ _ _ _ = L.markIntS_l0 m _ _ _ _
    have hdec : decide ((0 : Int) ≤ (i : Int) ∧ (i : Int) < (xs.length : Int)) = true := by simp; omega
    rw [L.markIntS_l0, cdp (by omega)]
    simp (disch := omega) only [df1, df2, df3, df4, df5, df6, df7, df8, hdec, cond_true, w64, u8_mod, u64w, List.length_set, nthI_set, List.set_set, Int.toNat_natCast, cmod3, Int.add_assoc, Int.reduceAdd, if_false, reduceIte]
    rfl
  · show L.markIntS_l0 (m + 1) _ _ _ _ = _
    rw [L.markIntS_l0, cdn (by omega)]
def m1Cell (k : Int) (x : TCell) : TCell := (k, (k + 1, (k + 2, (k + 3, (k + 4, (k + 5, ((k + 6, k + 7), (k + 8, (k + 9, mIntS (k + 10) x.2.2.2.2.2.2.2.2.2)))))))))
def w1Cell (x : TCell) : Nat := 10 + 1 * (x.2.2.2.2.2.2.2.2.2).length
def mCellS (k : Int) (a : List TCell) : List TCell := markAll m1Cell w1Cell k a
def wCellS (a : List TCell) : Nat := (a.map w1Cell).sum
theorem markCellS_eq (k : Int) (a : List TCell) (h0 : 0 ≤ k) (hn : a.length ≤ 1000000000000) (hc : k + ((wCellS a : Nat) : Int) ≤ 1000000000000) : L.markCellS k a = some (k + ((wCellS a : Nat) : Int), mCellS k a) := by
  unfold L.markCellS mCellS wCellS
  refine (markLoopW (fun m k i xs => L.markCellS_l0 m (fun y12 y13 => some (y12, y13)) k i xs) m1Cell w1Cell a ((0 : Int), ((0 : Int), ((0 : Int), ((0 : Int), ((0 : Int), ((0 : Int), (((0 : Int), (0 : Int)), ((0 : Int), ((0 : Int), []))))))))) h0 hn (by unfold wCellS at hc; exact hc) (fun i m k xs hi hx h0 h1 => ?_) (fun m k xs hx => ?_)).trans rfl
  · show L.markCellS_l0 (m + 1) _ _ _ _ = L.markCellS_l0 m _ _ _ _
    have hdec : decide ((0 : Int) ≤ (i : Int) ∧ (i : Int) < (xs.length : Int)) = true := by simp; omega
    have e : k + ((w1Cell (nthI xs (i : Int) ((0 : Int), ((0 : Int), ((0 : Int), ((0 : Int), ((0 : Int), ((0 : Int), (((0 : Int), (0 : Int)), ((0 : Int), ((0 : Int), [])))))))))) : Nat) : Int) = k + (10 + 1 * (((nthI xs (i : Int) ((0 : Int), ((0 : Int), ((0 : Int), ((0 : Int), ((0 : Int), ((0 : Int), (((0 : Int), (0 : Int)), ((0 : Int), ((0 : Int), [])))))))))).2.2.2.2.2.2.2.2.2).length : Int)) := by unfold w1Cell; omega
    have e2 : IntKind.i64.wrap ((i : Int) + 1) = ((i + 1 : Nat) : Int) := by rw [w64 (by omega) (by omega)]; omega
    rw [e] at h1 ⊢
    unfold m1Cell
    rw [L.markCellS_l0, cdp (by omega)]
    skip
    simp (disch := omega) only [df1, df2, df3, df4, df5, df6, df7, df8, hdec, cond_true, e2, w64, u8_mod, u64w, List.length_set, nthI_set, List.set_set, Int.toNat_natCast, cmod3, Int.add_assoc, Int.reduceAdd, if_false, reduceIte, Option.bind_some, Int.add_zero, cond_false, markIntS_eq]
    all_goals rfl
  · show L.markCellS_l0 (m + 1) _ _ _ _ = _
    rw [L.markCellS_l0, cdn (by omega)]
def m1Item (k : Int) (x : TItem) : TItem := (k, (k + 1, (k + 2, (k + 3, (k + 4, (k + 5, (k + 6, (k + 7, (mIntS (k + 8) x.2.2.2.2.2.2.2.2.1, (Int.tmod (k + (8 + 1 * ((x.2.2.2.2.2.2.2.2.1).length : Int))) 3 == 0))))))))))
def w1Item (x : TItem) : Nat := 9 + 1 * (x.2.2.2.2.2.2.2.2.1).length
def mItemS (k : Int) (a : List TItem) : List TItem := markAll m1Item w1Item k a
def wItemS (a : List TItem) : Nat := (a.map w1Item).sum
theorem wItemS_ge (a : List TItem) : a.length ≤ wItemS a := by
  unfold wItemS
  induction a with
  | nil => simp
  | cons x a ih =>
    have : 1 ≤ w1Item x := by unfold w1Item; omega
    simp only [List.map_cons, List.sum_cons, List.length_cons]
    omega
theorem markItemS_eq (k : Int) (a : List TItem) (h0 : 0 ≤ k) (hn : a.length ≤ 1000000000000) (hc : k + ((wItemS a : Nat) : Int) ≤ 1000000000000) : L.markItemS k a = some (k + ((wItemS a : Nat) : Int), mItemS k a) := by
  unfold L.markItemS mItemS wItemS
  refine (markLoopW (fun m k i xs => L.markItemS_l0 m (fun y12 y13 => some (y12, y13)) k i xs) m1Item w1Item a ((0 : Int), ((0 : Int), ((0 : Int), ((0 : Int), ((0 : Int), ((0 : Int), ((0 : Int), ((0 : Int), ([], false))))))))) h0 hn (by unfold wItemS at hc; exact hc) (fun i m k xs hi hx h0 h1 => ?_) (fun m k xs hx => ?_)).trans rfl
  · show L.markItemS_l0 (m + 1) _ _ _ _ = L.markItemS_l0 m _ _ _ _
    have hdec : decide ((0 : Int) ≤ (i : Int) ∧ (i : Int) < (xs.length : Int)) = true := by simp; omega
    have e : k + ((w1Item (nthI xs (i : Int) ((0 : Int), ((0 : Int), ((0 : Int), ((0 : Int), ((0 : Int), ((0 : Int), ((0 : Int), ((0 : Int), ([], false)))))))))) : Nat) : Int) = k + (8 + (1 * (((nthI xs (i : Int) ((0 : Int), ((0 : Int), ((0 : Int), ((0 : Int), ((0 : Int), ((0 : Int), ((0 : Int), ((0 : Int), ([], false)))))))))).2.2.2.2.2.2.2.2.1).length : Int) + 1)) := by unfold w1Item; omega
    have e2 : IntKind.i64.wrap ((i : Int) + 1) = ((i + 1 : Nat) : Int) := by rw [w64 (by omega) (by omega)]; omega
    rw [e] at h1 ⊢
    unfold m1Item
    rw [L.markItemS_l0, cdp (by omega)]
    skip
    simp (disch := omega) only [df1, df2, df3, df4, df5, df6, df7, df8, hdec, cond_true, e2, w64, u8_mod, u64w, List.length_set, nthI_set, List.set_set, Int.toNat_natCast, cmod3, Int.add_assoc, Int.reduceAdd, if_false, reduceIte, Option.bind_some, Int.add_zero, cond_false, markIntS_eq]
    all_goals rfl
  · show L.markItemS_l0 (m + 1) _ _ _ _ = _
    rw [L.markItemS_l0, cdn (by omega)]
def m1Rec (k : Int) (x : TRec) : TRec := (k, (k + 1, k + 2))
def w1Rec (x : TRec) : Nat := 3
def mRecS (k : Int) (a : List TRec) : List TRec := markAll m1Rec w1Rec k a
theorem markRecS_eq (k : Int) (a : List TRec) (h0 : 0 ≤ k) (hc : k + 3 * (a.length : Int) ≤ 1000000000000) : L.markRecS k a = some (k + 3 * (a.length : Int), mRecS k a) := by
  unfold L.markRecS mRecS
  refine (markLoop (fun m k i xs => L.markRecS_l0 m (fun y12 y13 => some (y12, y13)) k i xs) m1Rec w1Rec a ((0 : Int), ((0 : Int), (0 : Int))) 3 (fun _ => rfl) h0 (by omega) hc (fun i m k xs hi hx h0 h1 => ?_) (fun m k xs hx => ?_)).trans rfl
  · show L.markRecS_l0 (m + 1) _ _ _ _ = L.markRecS_l0 m _ _ _ _
    have hdec : decide ((0 : Int) ≤ (i : Int) ∧ (i : Int) < (xs.length : Int)) = true := by simp; omega
    rw [L.markRecS_l0, cdp (by omega)]
    simp (disch := omega) only [df1, df2, df3, df4, df5, df6, df7, df8, hdec, cond_true, w64, u8_mod, u64w, List.length_set, nthI_set, List.set_set, Int.toNat_natCast, cmod3, Int.add_assoc, Int.reduceAdd, if_false, reduceIte]
    rfl
  · show L.markRecS_l0 (m + 1) _ _ _ _ = _
    rw [L.markRecS_l0, cdn (by omega)]
def m1Box (k : Int) (x : TBox) : TBox := (k, (k + 1, (k + 2, (k + 3, (mItemS (k + 4) x.2.2.2.2.1, mRecS (k + (4 + ((wItemS x.2.2.2.2.1 : Nat) : Int))) x.2.2.2.2.2)))))
def w1Box (x : TBox) : Nat := 4 + wItemS x.2.2.2.2.1 + 3 * (x.2.2.2.2.2).length
def mBoxS (k : Int) (a : List TBox) : List TBox := markAll m1Box w1Box k a
def wBoxS (a : List TBox) : Nat := (a.map w1Box).sum
theorem markBoxS_eq (k : Int) (a : List TBox) (h0 : 0 ≤ k) (hn : a.length ≤ 1000000000000) (hc : k + ((wBoxS a : Nat) : Int) ≤ 1000000000000) : L.markBoxS k a = some (k + ((wBoxS a : Nat) : Int), mBoxS k a) := by
  unfold L.markBoxS mBoxS wBoxS
  refine (markLoopW (fun m k i xs => L.markBoxS_l0 m (fun y12 y13 => some (y12, y13)) k i xs) m1Box w1Box a ((0 : Int), ((0 : Int), ((0 : Int), ((0 : Int), ([], []))))) h0 hn (by unfold wBoxS at hc; exact hc) (fun i m k xs hi hx h0 h1 => ?_) (fun m k xs hx => ?_)).trans rfl
  · show L.markBoxS_l0 (m + 1) _ _ _ _ = L.markBoxS_l0 m _ _ _ _
    have hq554 := wItemS_ge ((nthI xs (i : Int) ((0 : Int), ((0 : Int), ((0 : Int), ((0 : Int), ([], [])))))).2.2.2.2.1)
    have hdec : decide ((0 : Int) ≤ (i : Int) ∧ (i : Int) < (xs.length : Int)) = true := by simp; omega
    have e : k + ((w1Box (nthI xs (i : Int) ((0 : Int), ((0 : Int), ((0 : Int), ((0 : Int), ([], [])))))) : Nat) : Int) = k + (4 + (((wItemS (nthI xs (i : Int) ((0 : Int), ((0 : Int), ((0 : Int), ((0 : Int), ([], [])))))).2.2.2.2.1 : Nat) : Int) + 3 * (((nthI xs (i : Int) ((0 : Int), ((0 : Int), ((0 : Int), ((0 : Int), ([], [])))))).2.2.2.2.2).length : Int))) := by unfold w1Box; omega
    have e2 : IntKind.i64.wrap ((i : Int) + 1) = ((i + 1 : Nat) : Int) := by rw [w64 (by omega) (by omega)]; omega
    rw [e] at h1 ⊢
    unfold m1Box
    rw [L.markBoxS_l0, cdp (by omega)]
    skip
    simp (disch := omega) only [df1, df2, df3, df4, df5, df6, df7, df8, hdec, cond_true, e2, w64, u8_mod, u64w, List.length_set, nthI_set, List.set_set, Int.toNat_natCast, cmod3, Int.add_assoc, Int.reduceAdd, if_false, reduceIte, Option.bind_some, Int.add_zero, cond_false, markItemS_eq, markRecS_eq]
    all_goals rfl
  · show L.markBoxS_l0 (m + 1) _ _ _ _ = _
    rw [L.markBoxS_l0, cdn (by omega)]
theorem markEng_eq (x : TEng) (k : Int) (h0 : 0 ≤ k) (hn2 : (x.1.2.2.2.1).length ≤ 1000000000000) (hn7 : (x.2.2.2.1).length ≤ 1000000000000) (hn10 : (x.2.2.2.2.2.2).length ≤ 1000000000000) (hc : k + (1 * ((x.1.1.2).length : Int) + (((wQueryS x.1.2.2.2.1 : Nat) : Int) + (3 * ((x.1.2.2.2.2.1).length : Int) + (5 * ((x.1.2.2.2.2.2).length : Int) + (4 * ((x.2.1).length : Int) + (2 * ((x.2.2.1.2).length : Int) + (((wCellS x.2.2.2.1 : Nat) : Int) + (1 * ((x.2.2.2.2.1).length : Int) + (1 * ((x.2.2.2.2.2.1).length : Int) + ((wBoxS x.2.2.2.2.2.2 : Nat) : Int)))))))))) ≤ 1000000000000) : L.markEng x.1.1.1 x.1.2.1 x.1.2.2.1 x.2.2.1.1 k x.1.1.2 x.1.2.2.2.1 x.1.2.2.2.2.1 x.1.2.2.2.2.2 x.2.1 x.2.2.1.2 x.2.2.2.1 x.2.2.2.2.1 x.2.2.2.2.2.1 x.2.2.2.2.2.2 = some (k + (1 * ((x.1.1.2).length : Int) + (((wQueryS x.1.2.2.2.1 : Nat) : Int) + (3 * ((x.1.2.2.2.2.1).length : Int) + (5 * ((x.1.2.2.2.2.2).length : Int) + (4 * ((x.2.1).length : Int) + (2 * ((x.2.2.1.2).length : Int) + (((wCellS x.2.2.2.1 : Nat) : Int) + (1 * ((x.2.2.2.2.1).length : Int) + (1 * ((x.2.2.2.2.2.1).length : Int) + ((wBoxS x.2.2.2.2.2.2 : Nat) : Int)))))))))), (mUint64S (k) x.1.1.2), (mQueryS (k + 1 * ((x.1.1.2).length : Int)) x.1.2.2.2.1), (mSubS (k + (1 * ((x.1.1.2).length : Int) + ((wQueryS x.1.2.2.2.1 : Nat) : Int))) x.1.2.2.2.2.1), (mRuleS (k + (1 * ((x.1.1.2).length : Int) + (((wQueryS x.1.2.2.2.1 : Nat) : Int) + 3 * ((x.1.2.2.2.2.1).length : Int)))) x.1.2.2.2.2.2), (mPunctS (k + (1 * ((x.1.1.2).length : Int) + (((wQueryS x.1.2.2.2.1 : Nat) : Int) + (3 * ((x.1.2.2.2.2.1).length : Int) + 5 * ((x.1.2.2.2.2.2).length : Int))))) x.2.1), (mMarkS (k + (1 * ((x.1.1.2).length : Int) + (((wQueryS x.1.2.2.2.1 : Nat) : Int) + (3 * ((x.1.2.2.2.2.1).length : Int) + (5 * ((x.1.2.2.2.2.2).length : Int) + 4 * ((x.2.1).length : Int)))))) x.2.2.1.2), (mCellS (k + (1 * ((x.1.1.2).length : Int) + (((wQueryS x.1.2.2.2.1 : Nat) : Int) + (3 * ((x.1.2.2.2.2.1).length : Int) + (5 * ((x.1.2.2.2.2.2).length : Int) + (4 * ((x.2.1).length : Int) + 2 * ((x.2.2.1.2).length : Int))))))) x.2.2.2.1), (mIntS (k + (1 * ((x.1.1.2).length : Int) + (((wQueryS x.1.2.2.2.1 : Nat) : Int) + (3 * ((x.1.2.2.2.2.1).length : Int) + (5 * ((x.1.2.2.2.2.2).length : Int) + (4 * ((x.2.1).length : Int) + (2 * ((x.2.2.1.2).length : Int) + ((wCellS x.2.2.2.1 : Nat) : Int)))))))) x.2.2.2.2.1), (mIntS (k + (1 * ((x.1.1.2).length : Int) + (((wQueryS x.1.2.2.2.1 : Nat) : Int) + (3 * ((x.1.2.2.2.2.1).length : Int) + (5 * ((x.1.2.2.2.2.2).length : Int) + (4 * ((x.2.1).length : Int) + (2 * ((x.2.2.1.2).length : Int) + (((wCellS x.2.2.2.1 : Nat) : Int) + 1 * ((x.2.2.2.2.1).length : Int))))))))) x.2.2.2.2.2.1), (mBoxS (k + (1 * ((x.1.1.2).length : Int) + (((wQueryS x.1.2.2.2.1 : Nat) : Int) + (3 * ((x.1.2.2.2.2.1).length : Int) + (5 * ((x.1.2.2.2.2.2).length : Int) + (4 * ((x.2.1).length : Int) + (2 * ((x.2.2.1.2).length : Int) + (((wCellS x.2.2.2.1 : Nat) : Int) + (1 * ((x.2.2.2.2.1).length : Int) + 1 * ((x.2.2.2.2.2.1).length : Int)))))))))) x.2.2.2.2.2.2)) := by
  unfold L.markEng L.markConf L.markLat L.markMarks
  simp (disch := omega) only [df1, df2, df3, df4, df5, df6, df7, df8, Int.add_assoc, Option.bind_some, dlt0, cond_false, markBoxS_eq, markCellS_eq, markIntS_eq, markMarkS_eq, markPunctS_eq, markQueryS_eq, markRuleS_eq, markSubS_eq, markUint64S_eq]
theorem heldUint64S_eq (k : Int) (a : List Int) (h0 : 0 ≤ k) (hc : k + 1 * (a.length : Int) ≤ 1000000000000) : L.heldUint64S k (mUint64S k a) = some (k + 1 * (a.length : Int)) := by
  unfold L.heldUint64S
  refine heldLoop (fun m q i => L.heldUint64S_l0 m (fun y12 y13 => some y13) (fun y14 => some y14) q i (mUint64S k a)) m1Uint64 w1Uint64 a (0 : Int) 1 (fun _ => rfl) k h0 (by omega) hc (fun i m j hi h0 h1 hx => ?_) (fun m j => ?_)
  all_goals (have hl : (mUint64S k a).length = a.length := markAll_length _ _ _ _)
  · show L.heldUint64S_l0 (m + 1) _ _ _ _ _ = L.heldUint64S_l0 m _ _ _ _ _
    have hx : nthI (mUint64S k a) (i : Int) (0 : Int) = _ := hx
    have hdec : decide ((0 : Int) ≤ (i : Int) ∧ (i : Int) < ((mUint64S k a).length : Int)) = true := by rw [hl]; simp; omega
    rw [L.heldUint64S_l0, cdp (by omega)]
    simp (disch := omega) only [df1, df2, df3, df4, df5, df6, df7, df8, hdec, hx, m1Uint64, cond_true, cond_false, w64, u8_mod, u64w, bne_self_eq_false, cmod3, Int.add_assoc, Int.reduceAdd, if_false, reduceIte, beq_self_eq_true, Bool.not_true]
    rfl
  · show L.heldUint64S_l0 (m + 1) _ _ _ _ _ = _
    rw [L.heldUint64S_l0, cdn (by rw [hl]; omega)]
theorem heldTokS_eq (k : Int) (a : List TTok) (h0 : 0 ≤ k) (hc : k + 2 * (a.length : Int) ≤ 1000000000000) : L.heldTokS k (mTokS k a) = some (k + 2 * (a.length : Int)) := by
  unfold L.heldTokS
  refine heldLoop (fun m q i => L.heldTokS_l0 m (fun y12 y13 => some y13) (fun y14 => some y14) q i (mTokS k a)) m1Tok w1Tok a ((0 : Int), (0 : Int)) 2 (fun _ => rfl) k h0 (by omega) hc (fun i m j hi h0 h1 hx => ?_) (fun m j => ?_)
  all_goals (have hl : (mTokS k a).length = a.length := markAll_length _ _ _ _)
  · show L.heldTokS_l0 (m + 1) _ _ _ _ _ = L.heldTokS_l0 m _ _ _ _ _
    have hx : nthI (mTokS k a) (i : Int) ((0 : Int), (0 : Int)) = _ := hx
    have hdec : decide ((0 : Int) ≤ (i : Int) ∧ (i : Int) < ((mTokS k a).length : Int)) = true := by rw [hl]; simp; omega
    rw [L.heldTokS_l0, cdp (by omega)]
    simp (disch := omega) only [df1, df2, df3, df4, df5, df6, df7, df8, hdec, hx, m1Tok, cond_true, cond_false, w64, u8_mod, u64w, bne_self_eq_false, cmod3, Int.add_assoc, Int.reduceAdd, if_false, reduceIte, beq_self_eq_true, Bool.not_true]
    rfl
  · show L.heldTokS_l0 (m + 1) _ _ _ _ _ = _
    rw [L.heldTokS_l0, cdn (by rw [hl]; omega)]
theorem heldQueryS_eq (k : Int) (a : List TQuery) (h0 : 0 ≤ k) (hn : a.length ≤ 1000000000000) (hc : k + ((wQueryS a : Nat) : Int) ≤ 1000000000000) : L.heldQueryS k (mQueryS k a) = some (k + ((wQueryS a : Nat) : Int)) := by
  unfold L.heldQueryS wQueryS
  refine heldLoopW (fun m q i => L.heldQueryS_l0 m (fun y12 y13 => some y13) (fun y14 => some y14) q i (mQueryS k a)) m1Query w1Query a ([], ([], (((0 : Int), ((0 : Int), (0 : Int))), ((0 : Int), (0 : Int))))) k h0 hn (by unfold wQueryS at hc; exact hc) (fun i m j hi h0 h1 hx => ?_) (fun m j => ?_)
  all_goals (have hl : (mQueryS k a).length = a.length := markAll_length _ _ _ _)
  · show L.heldQueryS_l0 (m + 1) _ _ _ _ _ = L.heldQueryS_l0 m _ _ _ _ _
    have hx : nthI (mQueryS k a) (i : Int) ([], ([], (((0 : Int), ((0 : Int), (0 : Int))), ((0 : Int), (0 : Int))))) = _ := hx
    have hdec : decide ((0 : Int) ≤ (i : Int) ∧ (i : Int) < ((mQueryS k a).length : Int)) = true := by rw [hl]; simp; omega
    have e : j + ((w1Query (nthI a (i : Int) ([], ([], (((0 : Int), ((0 : Int), (0 : Int))), ((0 : Int), (0 : Int)))))) : Nat) : Int) = j + (2 * (((nthI a (i : Int) ([], ([], (((0 : Int), ((0 : Int), (0 : Int))), ((0 : Int), (0 : Int)))))).1).length : Int) + (2 * (((nthI a (i : Int) ([], ([], (((0 : Int), ((0 : Int), (0 : Int))), ((0 : Int), (0 : Int)))))).2.1).length : Int) + 5)) := by unfold w1Query; omega
    have e2 : IntKind.i64.wrap ((i : Int) + 1) = ((i + 1 : Nat) : Int) := by rw [w64 (by omega) (by omega)]; omega
    rw [e] at h1 ⊢
    rw [L.heldQueryS_l0, cdp (by rw [hl]; omega)]
    simp (disch := omega) only [df1, df2, df3, df4, df5, df6, df7, df8, hdec, hx, e2, m1Query, cond_true, cond_false, w64, u8_mod, u64w, bne_self_eq_false, cmod3, Int.add_assoc, Int.reduceAdd, if_false, reduceIte, beq_self_eq_true, Bool.not_true, dlt0, Option.bind_some, Int.add_zero, heldTokS_eq]
    all_goals rfl
  · show L.heldQueryS_l0 (m + 1) _ _ _ _ _ = _
    rw [L.heldQueryS_l0, cdn (by rw [hl]; omega)]
theorem heldSubS_eq (k : Int) (a : List TSub) (h0 : 0 ≤ k) (hc : k + 3 * (a.length : Int) ≤ 1000000000000) : L.heldSubS k (mSubS k a) = some (k + 3 * (a.length : Int)) := by
  unfold L.heldSubS
  refine heldLoop (fun m q i => L.heldSubS_l0 m (fun y12 y13 => some y13) (fun y14 => some y14) q i (mSubS k a)) m1Sub w1Sub a ((0 : Int), ((0 : Int), (0 : Int))) 3 (fun _ => rfl) k h0 (by omega) hc (fun i m j hi h0 h1 hx => ?_) (fun m j => ?_)
  all_goals (have hl : (mSubS k a).length = a.length := markAll_length _ _ _ _)
  · show L.heldSubS_l0 (m + 1) _ _ _ _ _ = L.heldSubS_l0 m _ _ _ _ _
    have hx : nthI (mSubS k a) (i : Int) ((0 : Int), ((0 : Int), (0 : Int))) = _ := hx
    have hdec : decide ((0 : Int) ≤ (i : Int) ∧ (i : Int) < ((mSubS k a).length : Int)) = true := by rw [hl]; simp; omega
    rw [L.heldSubS_l0, cdp (by omega)]
    simp (disch := omega) only [df1, df2, df3, df4, df5, df6, df7, df8, hdec, hx, m1Sub, cond_true, cond_false, w64, u8_mod, u64w, bne_self_eq_false, cmod3, Int.add_assoc, Int.reduceAdd, if_false, reduceIte, beq_self_eq_true, Bool.not_true]
    rfl
  · show L.heldSubS_l0 (m + 1) _ _ _ _ _ = _
    rw [L.heldSubS_l0, cdn (by rw [hl]; omega)]
theorem heldRuleS_eq (k : Int) (a : List TRule) (h0 : 0 ≤ k) (hc : k + 5 * (a.length : Int) ≤ 1000000000000) : L.heldRuleS k (mRuleS k a) = some (k + 5 * (a.length : Int)) := by
  unfold L.heldRuleS
  refine heldLoop (fun m q i => L.heldRuleS_l0 m (fun y12 y13 => some y13) (fun y14 => some y14) q i (mRuleS k a)) m1Rule w1Rule a ((0 : Int), ((0 : Int), ((0 : Int), ((0 : Int), (0 : Int))))) 5 (fun _ => rfl) k h0 (by omega) hc (fun i m j hi h0 h1 hx => ?_) (fun m j => ?_)
  all_goals (have hl : (mRuleS k a).length = a.length := markAll_length _ _ _ _)
  · show L.heldRuleS_l0 (m + 1) _ _ _ _ _ = L.heldRuleS_l0 m _ _ _ _ _
    have hx : nthI (mRuleS k a) (i : Int) ((0 : Int), ((0 : Int), ((0 : Int), ((0 : Int), (0 : Int))))) = _ := hx
    have hdec : decide ((0 : Int) ≤ (i : Int) ∧ (i : Int) < ((mRuleS k a).length : Int)) = true := by rw [hl]; simp; omega
    rw [L.heldRuleS_l0, cdp (by omega)]
    simp (disch := omega) only [df1, df2, df3, df4, df5, df6, df7, df8, hdec, hx, m1Rule, cond_true, cond_false, w64, u8_mod, u64w, bne_self_eq_false, cmod3, Int.add_assoc, Int.reduceAdd, if_false, reduceIte, beq_self_eq_true, Bool.not_true]
    rfl
  · show L.heldRuleS_l0 (m + 1) _ _ _ _ _ = _
    rw [L.heldRuleS_l0, cdn (by rw [hl]; omega)]
theorem heldPunctS_eq (k : Int) (a : List TPunct) (h0 : 0 ≤ k) (hc : k + 4 * (a.length : Int) ≤ 1000000000000) : L.heldPunctS k (mPunctS k a) = some (k + 4 * (a.length : Int)) := by
  unfold L.heldPunctS
  refine heldLoop (fun m q i => L.heldPunctS_l0 m (fun y12 y13 => some y13) (fun y14 => some y14) q i (mPunctS k a)) m1Punct w1Punct a ((0 : Int), ((0 : Int), ((0 : Int), (0 : Int)))) 4 (fun _ => rfl) k h0 (by omega) hc (fun i m j hi h0 h1 hx => ?_) (fun m j => ?_)
  all_goals (have hl : (mPunctS k a).length = a.length := markAll_length _ _ _ _)
  · show L.heldPunctS_l0 (m + 1) _ _ _ _ _ = L.heldPunctS_l0 m _ _ _ _ _
    have hx : nthI (mPunctS k a) (i : Int) ((0 : Int), ((0 : Int), ((0 : Int), (0 : Int)))) = _ := hx
    have hdec : decide ((0 : Int) ≤ (i : Int) ∧ (i : Int) < ((mPunctS k a).length : Int)) = true := by rw [hl]; simp; omega
    rw [L.heldPunctS_l0, cdp (by omega)]
    simp (disch := omega) only [df1, df2, df3, df4, df5, df6, df7, df8, hdec, hx, m1Punct, cond_true, cond_false, w64, u8_mod, u64w, bne_self_eq_false, cmod3, Int.add_assoc, Int.reduceAdd, if_false, reduceIte, beq_self_eq_true, Bool.not_true]
    rfl
  · show L.heldPunctS_l0 (m + 1) _ _ _ _ _ = _
    rw [L.heldPunctS_l0, cdn (by rw [hl]; omega)]
theorem heldMarkS_eq (k : Int) (a : List TMark) (h0 : 0 ≤ k) (hc : k + 2 * (a.length : Int) ≤ 1000000000000) : L.heldMarkS k (mMarkS k a) = some (k + 2 * (a.length : Int)) := by
  unfold L.heldMarkS
  refine heldLoop (fun m q i => L.heldMarkS_l0 m (fun y12 y13 => some y13) (fun y14 => some y14) q i (mMarkS k a)) m1Mark w1Mark a ((0 : Int), false) 2 (fun _ => rfl) k h0 (by omega) hc (fun i m j hi h0 h1 hx => ?_) (fun m j => ?_)
  all_goals (have hl : (mMarkS k a).length = a.length := markAll_length _ _ _ _)
  · show L.heldMarkS_l0 (m + 1) _ _ _ _ _ = L.heldMarkS_l0 m _ _ _ _ _
    have hx : nthI (mMarkS k a) (i : Int) ((0 : Int), false) = _ := hx
    have hdec : decide ((0 : Int) ≤ (i : Int) ∧ (i : Int) < ((mMarkS k a).length : Int)) = true := by rw [hl]; simp; omega
    rw [L.heldMarkS_l0, cdp (by omega)]
    simp (disch := omega) only [df1, df2, df3, df4, df5, df6, df7, df8, hdec, hx, m1Mark, cond_true, cond_false, w64, u8_mod, u64w, bne_self_eq_false, cmod3, Int.add_assoc, Int.reduceAdd, if_false, reduceIte, beq_self_eq_true, Bool.not_true]
    rfl
  · show L.heldMarkS_l0 (m + 1) _ _ _ _ _ = _
    rw [L.heldMarkS_l0, cdn (by rw [hl]; omega)]
theorem heldIntS_eq (k : Int) (a : List Int) (h0 : 0 ≤ k) (hc : k + 1 * (a.length : Int) ≤ 1000000000000) : L.heldIntS k (mIntS k a) = some (k + 1 * (a.length : Int)) := by
  unfold L.heldIntS
  refine heldLoop (fun m q i => L.heldIntS_l0 m (fun y12 y13 => some y13) (fun y14 => some y14) q i (mIntS k a)) m1Int w1Int a (0 : Int) 1 (fun _ => rfl) k h0 (by omega) hc (fun i m j hi h0 h1 hx => ?_) (fun m j => ?_)
  all_goals (have hl : (mIntS k a).length = a.length := markAll_length _ _ _ _)
  · show L.heldIntS_l0 (m + 1) _ _ _ _ _ = L.heldIntS_l0 m _ _ _ _ _
    have hx : nthI (mIntS k a) (i : Int) (0 : Int) = _ := hx
    have hdec : decide ((0 : Int) ≤ (i : Int) ∧ (i : Int) < ((mIntS k a).length : Int)) = true := by rw [hl]; simp; omega
    rw [L.heldIntS_l0, cdp (by omega)]
    simp (disch := omega) only [df1, df2, df3, df4, df5, df6, df7, df8, hdec, hx, m1Int, cond_true, cond_false, w64, u8_mod, u64w, bne_self_eq_false, cmod3, Int.add_assoc, Int.reduceAdd, if_false, reduceIte, beq_self_eq_true, Bool.not_true]
    rfl
  · show L.heldIntS_l0 (m + 1) _ _ _ _ _ = _
    rw [L.heldIntS_l0, cdn (by rw [hl]; omega)]
theorem heldCellS_eq (k : Int) (a : List TCell) (h0 : 0 ≤ k) (hn : a.length ≤ 1000000000000) (hc : k + ((wCellS a : Nat) : Int) ≤ 1000000000000) : L.heldCellS k (mCellS k a) = some (k + ((wCellS a : Nat) : Int)) := by
  unfold L.heldCellS wCellS
  refine heldLoopW (fun m q i => L.heldCellS_l0 m (fun y12 y13 => some y13) (fun y14 => some y14) q i (mCellS k a)) m1Cell w1Cell a ((0 : Int), ((0 : Int), ((0 : Int), ((0 : Int), ((0 : Int), ((0 : Int), (((0 : Int), (0 : Int)), ((0 : Int), ((0 : Int), []))))))))) k h0 hn (by unfold wCellS at hc; exact hc) (fun i m j hi h0 h1 hx => ?_) (fun m j => ?_)
  all_goals (have hl : (mCellS k a).length = a.length := markAll_length _ _ _ _)
  · show L.heldCellS_l0 (m + 1) _ _ _ _ _ = L.heldCellS_l0 m _ _ _ _ _
    have hx : nthI (mCellS k a) (i : Int) ((0 : Int), ((0 : Int), ((0 : Int), ((0 : Int), ((0 : Int), ((0 : Int), (((0 : Int), (0 : Int)), ((0 : Int), ((0 : Int), []))))))))) = _ := hx
    have hdec : decide ((0 : Int) ≤ (i : Int) ∧ (i : Int) < ((mCellS k a).length : Int)) = true := by rw [hl]; simp; omega
    have e : j + ((w1Cell (nthI a (i : Int) ((0 : Int), ((0 : Int), ((0 : Int), ((0 : Int), ((0 : Int), ((0 : Int), (((0 : Int), (0 : Int)), ((0 : Int), ((0 : Int), [])))))))))) : Nat) : Int) = j + (10 + 1 * (((nthI a (i : Int) ((0 : Int), ((0 : Int), ((0 : Int), ((0 : Int), ((0 : Int), ((0 : Int), (((0 : Int), (0 : Int)), ((0 : Int), ((0 : Int), [])))))))))).2.2.2.2.2.2.2.2.2).length : Int)) := by unfold w1Cell; omega
    have e2 : IntKind.i64.wrap ((i : Int) + 1) = ((i + 1 : Nat) : Int) := by rw [w64 (by omega) (by omega)]; omega
    rw [e] at h1 ⊢
    rw [L.heldCellS_l0, cdp (by rw [hl]; omega)]
    simp (disch := omega) only [df1, df2, df3, df4, df5, df6, df7, df8, hdec, hx, e2, m1Cell, cond_true, cond_false, w64, u8_mod, u64w, bne_self_eq_false, cmod3, Int.add_assoc, Int.reduceAdd, if_false, reduceIte, beq_self_eq_true, Bool.not_true, dlt0, Option.bind_some, Int.add_zero, heldIntS_eq]
    all_goals rfl
  · show L.heldCellS_l0 (m + 1) _ _ _ _ _ = _
    rw [L.heldCellS_l0, cdn (by rw [hl]; omega)]
theorem heldItemS_eq (k : Int) (a : List TItem) (h0 : 0 ≤ k) (hn : a.length ≤ 1000000000000) (hc : k + ((wItemS a : Nat) : Int) ≤ 1000000000000) : L.heldItemS k (mItemS k a) = some (k + ((wItemS a : Nat) : Int)) := by
  unfold L.heldItemS wItemS
  refine heldLoopW (fun m q i => L.heldItemS_l0 m (fun y12 y13 => some y13) (fun y14 => some y14) q i (mItemS k a)) m1Item w1Item a ((0 : Int), ((0 : Int), ((0 : Int), ((0 : Int), ((0 : Int), ((0 : Int), ((0 : Int), ((0 : Int), ([], false))))))))) k h0 hn (by unfold wItemS at hc; exact hc) (fun i m j hi h0 h1 hx => ?_) (fun m j => ?_)
  all_goals (have hl : (mItemS k a).length = a.length := markAll_length _ _ _ _)
  · show L.heldItemS_l0 (m + 1) _ _ _ _ _ = L.heldItemS_l0 m _ _ _ _ _
    have hx : nthI (mItemS k a) (i : Int) ((0 : Int), ((0 : Int), ((0 : Int), ((0 : Int), ((0 : Int), ((0 : Int), ((0 : Int), ((0 : Int), ([], false))))))))) = _ := hx
    have hdec : decide ((0 : Int) ≤ (i : Int) ∧ (i : Int) < ((mItemS k a).length : Int)) = true := by rw [hl]; simp; omega
    have e : j + ((w1Item (nthI a (i : Int) ((0 : Int), ((0 : Int), ((0 : Int), ((0 : Int), ((0 : Int), ((0 : Int), ((0 : Int), ((0 : Int), ([], false)))))))))) : Nat) : Int) = j + (8 + (1 * (((nthI a (i : Int) ((0 : Int), ((0 : Int), ((0 : Int), ((0 : Int), ((0 : Int), ((0 : Int), ((0 : Int), ((0 : Int), ([], false)))))))))).2.2.2.2.2.2.2.2.1).length : Int) + 1)) := by unfold w1Item; omega
    have e2 : IntKind.i64.wrap ((i : Int) + 1) = ((i + 1 : Nat) : Int) := by rw [w64 (by omega) (by omega)]; omega
    rw [e] at h1 ⊢
    rw [L.heldItemS_l0, cdp (by rw [hl]; omega)]
    simp (disch := omega) only [df1, df2, df3, df4, df5, df6, df7, df8, hdec, hx, e2, m1Item, cond_true, cond_false, w64, u8_mod, u64w, bne_self_eq_false, cmod3, Int.add_assoc, Int.reduceAdd, if_false, reduceIte, beq_self_eq_true, Bool.not_true, dlt0, Option.bind_some, Int.add_zero, heldIntS_eq]
    all_goals rfl
  · show L.heldItemS_l0 (m + 1) _ _ _ _ _ = _
    rw [L.heldItemS_l0, cdn (by rw [hl]; omega)]
theorem heldRecS_eq (k : Int) (a : List TRec) (h0 : 0 ≤ k) (hc : k + 3 * (a.length : Int) ≤ 1000000000000) : L.heldRecS k (mRecS k a) = some (k + 3 * (a.length : Int)) := by
  unfold L.heldRecS
  refine heldLoop (fun m q i => L.heldRecS_l0 m (fun y12 y13 => some y13) (fun y14 => some y14) q i (mRecS k a)) m1Rec w1Rec a ((0 : Int), ((0 : Int), (0 : Int))) 3 (fun _ => rfl) k h0 (by omega) hc (fun i m j hi h0 h1 hx => ?_) (fun m j => ?_)
  all_goals (have hl : (mRecS k a).length = a.length := markAll_length _ _ _ _)
  · show L.heldRecS_l0 (m + 1) _ _ _ _ _ = L.heldRecS_l0 m _ _ _ _ _
    have hx : nthI (mRecS k a) (i : Int) ((0 : Int), ((0 : Int), (0 : Int))) = _ := hx
    have hdec : decide ((0 : Int) ≤ (i : Int) ∧ (i : Int) < ((mRecS k a).length : Int)) = true := by rw [hl]; simp; omega
    rw [L.heldRecS_l0, cdp (by omega)]
    simp (disch := omega) only [df1, df2, df3, df4, df5, df6, df7, df8, hdec, hx, m1Rec, cond_true, cond_false, w64, u8_mod, u64w, bne_self_eq_false, cmod3, Int.add_assoc, Int.reduceAdd, if_false, reduceIte, beq_self_eq_true, Bool.not_true]
    rfl
  · show L.heldRecS_l0 (m + 1) _ _ _ _ _ = _
    rw [L.heldRecS_l0, cdn (by rw [hl]; omega)]
theorem heldBoxS_eq (k : Int) (a : List TBox) (h0 : 0 ≤ k) (hn : a.length ≤ 1000000000000) (hc : k + ((wBoxS a : Nat) : Int) ≤ 1000000000000) : L.heldBoxS k (mBoxS k a) = some (k + ((wBoxS a : Nat) : Int)) := by
  unfold L.heldBoxS wBoxS
  refine heldLoopW (fun m q i => L.heldBoxS_l0 m (fun y12 y13 => some y13) (fun y14 => some y14) q i (mBoxS k a)) m1Box w1Box a ((0 : Int), ((0 : Int), ((0 : Int), ((0 : Int), ([], []))))) k h0 hn (by unfold wBoxS at hc; exact hc) (fun i m j hi h0 h1 hx => ?_) (fun m j => ?_)
  all_goals (have hl : (mBoxS k a).length = a.length := markAll_length _ _ _ _)
  · show L.heldBoxS_l0 (m + 1) _ _ _ _ _ = L.heldBoxS_l0 m _ _ _ _ _
    have hx : nthI (mBoxS k a) (i : Int) ((0 : Int), ((0 : Int), ((0 : Int), ((0 : Int), ([], []))))) = _ := hx
    have hdec : decide ((0 : Int) ≤ (i : Int) ∧ (i : Int) < ((mBoxS k a).length : Int)) = true := by rw [hl]; simp; omega
    have hq710 := wItemS_ge ((nthI a (i : Int) ((0 : Int), ((0 : Int), ((0 : Int), ((0 : Int), ([], [])))))).2.2.2.2.1)
    have e : j + ((w1Box (nthI a (i : Int) ((0 : Int), ((0 : Int), ((0 : Int), ((0 : Int), ([], [])))))) : Nat) : Int) = j + (4 + (((wItemS (nthI a (i : Int) ((0 : Int), ((0 : Int), ((0 : Int), ((0 : Int), ([], [])))))).2.2.2.2.1 : Nat) : Int) + 3 * (((nthI a (i : Int) ((0 : Int), ((0 : Int), ((0 : Int), ((0 : Int), ([], [])))))).2.2.2.2.2).length : Int))) := by unfold w1Box; omega
    have e2 : IntKind.i64.wrap ((i : Int) + 1) = ((i + 1 : Nat) : Int) := by rw [w64 (by omega) (by omega)]; omega
    rw [e] at h1 ⊢
    rw [L.heldBoxS_l0, cdp (by rw [hl]; omega)]
    simp (disch := omega) only [df1, df2, df3, df4, df5, df6, df7, df8, hdec, hx, e2, m1Box, cond_true, cond_false, w64, u8_mod, u64w, bne_self_eq_false, cmod3, Int.add_assoc, Int.reduceAdd, if_false, reduceIte, beq_self_eq_true, Bool.not_true, dlt0, Option.bind_some, Int.add_zero, heldItemS_eq, heldRecS_eq]
    all_goals rfl
  · show L.heldBoxS_l0 (m + 1) _ _ _ _ _ = _
    rw [L.heldBoxS_l0, cdn (by rw [hl]; omega)]
theorem heldEng_eq (x : TEng) (k : Int) (h0 : 0 ≤ k) (hn2 : (x.1.2.2.2.1).length ≤ 1000000000000) (hn7 : (x.2.2.2.1).length ≤ 1000000000000) (hn10 : (x.2.2.2.2.2.2).length ≤ 1000000000000) (hc : k + (1 * ((x.1.1.2).length : Int) + (((wQueryS x.1.2.2.2.1 : Nat) : Int) + (3 * ((x.1.2.2.2.2.1).length : Int) + (5 * ((x.1.2.2.2.2.2).length : Int) + (4 * ((x.2.1).length : Int) + (2 * ((x.2.2.1.2).length : Int) + (((wCellS x.2.2.2.1 : Nat) : Int) + (1 * ((x.2.2.2.2.1).length : Int) + (1 * ((x.2.2.2.2.2.1).length : Int) + ((wBoxS x.2.2.2.2.2.2 : Nat) : Int)))))))))) ≤ 1000000000000) : L.heldEng x.1.1.1 x.1.2.1 x.1.2.2.1 x.2.2.1.1 k (mUint64S (k) x.1.1.2) (mQueryS (k + 1 * ((x.1.1.2).length : Int)) x.1.2.2.2.1) (mSubS (k + (1 * ((x.1.1.2).length : Int) + ((wQueryS x.1.2.2.2.1 : Nat) : Int))) x.1.2.2.2.2.1) (mRuleS (k + (1 * ((x.1.1.2).length : Int) + (((wQueryS x.1.2.2.2.1 : Nat) : Int) + 3 * ((x.1.2.2.2.2.1).length : Int)))) x.1.2.2.2.2.2) (mPunctS (k + (1 * ((x.1.1.2).length : Int) + (((wQueryS x.1.2.2.2.1 : Nat) : Int) + (3 * ((x.1.2.2.2.2.1).length : Int) + 5 * ((x.1.2.2.2.2.2).length : Int))))) x.2.1) (mMarkS (k + (1 * ((x.1.1.2).length : Int) + (((wQueryS x.1.2.2.2.1 : Nat) : Int) + (3 * ((x.1.2.2.2.2.1).length : Int) + (5 * ((x.1.2.2.2.2.2).length : Int) + 4 * ((x.2.1).length : Int)))))) x.2.2.1.2) (mCellS (k + (1 * ((x.1.1.2).length : Int) + (((wQueryS x.1.2.2.2.1 : Nat) : Int) + (3 * ((x.1.2.2.2.2.1).length : Int) + (5 * ((x.1.2.2.2.2.2).length : Int) + (4 * ((x.2.1).length : Int) + 2 * ((x.2.2.1.2).length : Int))))))) x.2.2.2.1) (mIntS (k + (1 * ((x.1.1.2).length : Int) + (((wQueryS x.1.2.2.2.1 : Nat) : Int) + (3 * ((x.1.2.2.2.2.1).length : Int) + (5 * ((x.1.2.2.2.2.2).length : Int) + (4 * ((x.2.1).length : Int) + (2 * ((x.2.2.1.2).length : Int) + ((wCellS x.2.2.2.1 : Nat) : Int)))))))) x.2.2.2.2.1) (mIntS (k + (1 * ((x.1.1.2).length : Int) + (((wQueryS x.1.2.2.2.1 : Nat) : Int) + (3 * ((x.1.2.2.2.2.1).length : Int) + (5 * ((x.1.2.2.2.2.2).length : Int) + (4 * ((x.2.1).length : Int) + (2 * ((x.2.2.1.2).length : Int) + (((wCellS x.2.2.2.1 : Nat) : Int) + 1 * ((x.2.2.2.2.1).length : Int))))))))) x.2.2.2.2.2.1) (mBoxS (k + (1 * ((x.1.1.2).length : Int) + (((wQueryS x.1.2.2.2.1 : Nat) : Int) + (3 * ((x.1.2.2.2.2.1).length : Int) + (5 * ((x.1.2.2.2.2.2).length : Int) + (4 * ((x.2.1).length : Int) + (2 * ((x.2.2.1.2).length : Int) + (((wCellS x.2.2.2.1 : Nat) : Int) + (1 * ((x.2.2.2.2.1).length : Int) + 1 * ((x.2.2.2.2.2.1).length : Int)))))))))) x.2.2.2.2.2.2) = some (k + (1 * ((x.1.1.2).length : Int) + (((wQueryS x.1.2.2.2.1 : Nat) : Int) + (3 * ((x.1.2.2.2.2.1).length : Int) + (5 * ((x.1.2.2.2.2.2).length : Int) + (4 * ((x.2.1).length : Int) + (2 * ((x.2.2.1.2).length : Int) + (((wCellS x.2.2.2.1 : Nat) : Int) + (1 * ((x.2.2.2.2.1).length : Int) + (1 * ((x.2.2.2.2.2.1).length : Int) + ((wBoxS x.2.2.2.2.2.2 : Nat) : Int))))))))))) := by
  unfold L.heldEng L.heldConf L.heldLat L.heldMarks
  simp (disch := omega) only [df1, df2, df3, df4, df5, df6, df7, df8, Int.add_assoc, Option.bind_some, dlt0, cond_false, heldBoxS_eq, heldCellS_eq, heldIntS_eq, heldMarkS_eq, heldPunctS_eq, heldQueryS_eq, heldRuleS_eq, heldSubS_eq, heldUint64S_eq]
theorem in_eq (a b c : Int) : I.in a b c = some (decide (b ≤ a ∧ a ≤ c)) := by unfold I.in; rw [cond_some, cond_and, dand]
def takesF (op : Int) : Int := if op ≤ 3 then 0 else if op = 11 then 1 else 2
theorem takesF_le (op : Int) : 0 ≤ takesF op ∧ takesF op ≤ 2 := by unfold takesF; split <;> (try split) <;> omega
theorem sTakes_eq (a : Int) : S.l03Takes a = some (takesF a) := by
  unfold S.l03Takes takesF
  by_cases h : a ≤ 3
  · rw [cdp h, if_pos h]
  · rw [cdn h, if_neg h]
    by_cases h2 : a = 11
    · rw [cep h2, if_pos h2]
    · rw [cen h2, if_neg h2]
theorem iTakes_eq (a b : Int) : I.Tok_takes a b = some (takesF a) := by
  unfold I.Tok_takes takesF
  by_cases h : a ≤ 3
  · rw [cdp h, if_pos h]
  · rw [cdn h, if_neg h]
    by_cases h2 : a = 11
    · rw [cep h2, if_pos h2]
    · rw [cen h2, if_neg h2]
def tokFits (t : Int × Int) (n : Int) : Prop := (0 ≤ t.1 ∧ t.1 ≤ 11) ∧ (t.1 = 0 ∨ t.2 = 0) ∧ takesF t.1 ≤ n
instance (t : Int × Int) (n : Int) : Decidable (tokFits t n) := by unfold tokFits; exact inferInstance
def depthGo : List (Int × Int) → Int → Int → Option (Int × Int)
  | [], n, mo => some (n, mo)
  | t :: ts, n, mo => if tokFits t n then depthGo ts (n - takesF t.1 + 1) (max mo (n - takesF t.1 + 1)) else none
def depthF (x : List (Int × Int)) : Int :=
  if 1 ≤ x.length ∧ x.length ≤ 20 then
    match depthGo x 0 0 with
    | some r => if r.1 = 1 then r.2 else -1
    | none => -1
  else -1
theorem depthGo_le : ∀ (x : List (Int × Int)) (n mo : Int) (r : Int × Int), n ≤ mo → depthGo x n mo = some r → r.1 ≤ r.2
  | [], n, mo, r, h, e => by simp only [depthGo, Option.some.injEq] at e; subst e; exact h
  | t :: ts, n, mo, r, h, e => by
    simp only [depthGo] at e
    split at e
    · exact depthGo_le ts _ _ r (by omega) e
    · cases e
theorem depthF_cases (x : List (Int × Int)) : depthF x = -1 ∨ 1 ≤ depthF x := by
  unfold depthF
  split
  · split
    · rename_i r hr
      split
      · have := depthGo_le x 0 0 r (by omega) hr; omega
      · omega
    · omega
  · omega
theorem max_if (a b : Int) : (if a > b then a else b) = max b a := by split <;> omega
theorem sDepth_l (e0 : Int → Int → Int → Option Int) (e1 : Int → Int → Option Int) (he : ∀ a b, e0 (-1) a b = some (-1)) (x : List (Int × Int)) (hx : x.length ≤ 20) (m : Nat) : ∀ (d i : Nat) (n mo : Int), i + d = x.length → 0 ≤ n → n ≤ i →
    S.l03Depth_l0 (d + 1 + m) e0 e1 n mo (i : Int) x = match depthGo (x.drop i) n mo with | some r => e1 r.1 r.2 | none => some (-1) := by
  intro d
  induction d with
  | zero =>
    intro i n mo hi h0 h1
    rw [show 0 + 1 + m = m + 1 from by omega, S.l03Depth_l0, cdn (by omega), List.drop_of_length_le (by omega)]
    rfl
  | succ d ih =>
    intro i n mo hi h0 h1
    rw [show d + 1 + 1 + m = (d + 1 + m) + 1 from by omega, S.l03Depth_l0, cdp (by omega), drop_at x i ((0 : Int), (0 : Int)) (by omega), depthGo]
    generalize nthI x (i : Int) ((0 : Int), (0 : Int)) = t
    have hdec : decide ((0 : Int) ≤ (i : Int) ∧ (i : Int) < (x.length : Int)) = true := by simp; omega
    have ht := takesF_le t.1
    simp only [hdec, cond_true, sTakes_eq, Option.bind_some]
    by_cases c1 : t.1 < 0
    · rw [cdp c1, if_neg (by unfold tokFits; omega), he]
    rw [cdn c1]
    by_cases c2 : 11 < t.1
    · rw [cdp c2, if_neg (by unfold tokFits; omega), he]
    rw [cdn c2]
    have fin : (bif decide (n < takesF t.1) then e0 (-1) n mo else
        S.l03Depth_l0 (d + 1 + m) e0 e1 (IntKind.i64.wrap (IntKind.i64.wrap (n - takesF t.1) + 1)) (if IntKind.i64.wrap (IntKind.i64.wrap (n - takesF t.1) + 1) > mo then IntKind.i64.wrap (IntKind.i64.wrap (n - takesF t.1) + 1) else mo) (IntKind.i64.wrap ((i : Int) + 1)) x) =
        if takesF t.1 ≤ n then (match depthGo (x.drop (i + 1)) (n - takesF t.1 + 1) (max mo (n - takesF t.1 + 1)) with | some r => e1 r.1 r.2 | none => some (-1)) else some (-1) := by
      by_cases c5 : n < takesF t.1
      · rw [cdp c5, if_neg (by omega), he]
      · rw [cdn c5, w64 (n := n - takesF t.1) (by omega) (by omega), w64 (n := n - takesF t.1 + 1) (by omega) (by omega), w64 (n := (i : Int) + 1) (by omega) (by omega), max_if, if_pos (by omega)]
        exact ih (i + 1) _ _ (by omega) (by omega) (by omega)
    by_cases c3 : t.1 = 0
    · rw [cnn c3, fin]
      by_cases c5 : takesF t.1 ≤ n
      · rw [if_pos c5, if_pos ⟨by omega, .inl c3, c5⟩]
      · rw [if_neg c5, if_neg (fun h => c5 h.2.2)]
    · rw [cnp c3]
      by_cases c4 : t.2 = 0
      · rw [cnn c4, fin]
        by_cases c5 : takesF t.1 ≤ n
        · rw [if_pos c5, if_pos ⟨by omega, .inr c4, c5⟩]
        · rw [if_neg c5, if_neg (fun h => c5 h.2.2)]
      · rw [cnp c4, he, if_neg (by unfold tokFits; omega)]
theorem iDepth_l (e0 : Int → Int → Int → Option Int) (e1 : Int → Int → Option Int) (he : ∀ a b, e0 (-1) a b = some (-1)) (x : List (Int × Int)) (hx : x.length ≤ 20) (m : Nat) : ∀ (d i : Nat) (n mo : Int), i + d = x.length → 0 ≤ n → n ≤ i →
    I.depth_l0 (d + 1 + m) e0 e1 n mo (x.length : Int) (i : Int) x = match depthGo (x.drop i) n mo with | some r => e1 r.1 r.2 | none => some (-1) := by
  intro d
  induction d with
  | zero =>
    intro i n mo hi h0 h1
    rw [show 0 + 1 + m = m + 1 from by omega, I.depth_l0, cdn (by omega), List.drop_of_length_le (by omega)]
    rfl
  | succ d ih =>
    intro i n mo hi h0 h1
    rw [show d + 1 + 1 + m = (d + 1 + m) + 1 from by omega, I.depth_l0, cdp (by omega), drop_at x i ((0 : Int), (0 : Int)) (by omega), depthGo]
    generalize nthI x (i : Int) ((0 : Int), (0 : Int)) = t
    have hdec : decide ((0 : Int) ≤ (i : Int) ∧ (i : Int) < (x.length : Int)) = true := by simp; omega
    have ht := takesF_le t.1
    simp only [hdec, cond_true, iTakes_eq, in_eq, Option.bind_some]
    by_cases c1 : ¬ (0 ≤ t.1 ∧ t.1 ≤ 11)
    · rw [decide_eq_false c1, Bool.not_false, cond_true, if_neg (fun h => c1 h.1), he]
    have c1 := Decidable.not_not.1 c1
    rw [decide_eq_true c1, Bool.not_true, cond_false]
    have fin : (bif decide (n < takesF t.1) then e0 (-1) n mo else
        I.depth_l0 (d + 1 + m) e0 e1 (IntKind.i64.wrap (n + IntKind.i64.wrap (1 - takesF t.1))) (if IntKind.i64.wrap (n + IntKind.i64.wrap (1 - takesF t.1)) > mo then IntKind.i64.wrap (n + IntKind.i64.wrap (1 - takesF t.1)) else mo) (x.length : Int) (IntKind.i64.wrap ((i : Int) + 1)) x) =
        if takesF t.1 ≤ n then (match depthGo (x.drop (i + 1)) (n - takesF t.1 + 1) (max mo (n - takesF t.1 + 1)) with | some r => e1 r.1 r.2 | none => some (-1)) else some (-1) := by
      by_cases c5 : n < takesF t.1
      · rw [cdp c5, if_neg (by omega), he]
      · rw [cdn c5, w64 (n := 1 - takesF t.1) (by omega) (by omega), w64 (n := n + (1 - takesF t.1)) (by omega) (by omega), w64 (n := (i : Int) + 1) (by omega) (by omega), max_if, if_pos (by omega), show n + (1 - takesF t.1) = n - takesF t.1 + 1 from by omega]
        exact ih (i + 1) _ _ (by omega) (by omega) (by omega)
    by_cases c3 : t.1 = 0
    · rw [cnn c3, fin]
      by_cases c5 : takesF t.1 ≤ n
      · rw [if_pos c5, if_pos ⟨by omega, .inl c3, c5⟩]
      · rw [if_neg c5, if_neg (fun h => c5 h.2.2)]
    · rw [cnp c3]
      by_cases c4 : t.2 = 0
      · rw [cnn c4, fin]
        by_cases c5 : takesF t.1 ≤ n
        · rw [if_pos c5, if_pos ⟨by omega, .inr c4, c5⟩]
        · rw [if_neg c5, if_neg (fun h => c5 h.2.2)]
      · rw [cnp c4, he, if_neg (by unfold tokFits; omega)]
theorem sDepth_eq (x : List (Int × Int)) : S.l03Depth x = some (depthF x) := by
  unfold S.l03Depth depthF
  by_cases h1 : x.length < 1
  · rw [cdp (by omega), if_neg (by omega)]
  rw [cdn (by omega)]
  by_cases h2 : 20 < x.length
  · rw [cdp (by omega), if_neg (by omega)]
  rw [cdn (by omega), if_pos (by omega)]
  obtain ⟨m, hm⟩ := fu_ge x.length (by omega)
  have := sDepth_l (fun y30 y31 y32 => some y30) (fun y33 y34 => bif (y33 != 1) then some (-1) else some y34) (fun _ _ => rfl) x (by omega) m x.length 0 0 0 (by omega) (by omega) (by omega)
  rw [hm]
  refine this.trans ?_
  rw [List.drop_zero]
  cases depthGo x 0 0 with
  | none => rfl
  | some r =>
    simp only
    by_cases e : r.1 = 1
    · rw [cnn e, if_pos e]
    · rw [cnp e, if_neg e]
theorem iDepth_eq (x : List (Int × Int)) (hx : x.length ≤ 1000000000000) : I.depth x = some (depthF x) := by
  unfold I.depth depthF
  rw [in_eq, Option.bind_some]
  by_cases h1 : ¬ (1 ≤ x.length ∧ x.length ≤ 20)
  · rw [decide_eq_false (by omega), Bool.not_false, cond_true, if_neg h1]
  have h1 := Decidable.not_not.1 h1
  rw [decide_eq_true (by omega), Bool.not_true, cond_false, if_pos h1]
  obtain ⟨m, hm⟩ := fu_ge x.length (by omega)
  have := iDepth_l (fun y30 y31 y32 => some y30) (fun y33 y34 => bif (y33 != 1) then some (-1) else some y34) (fun _ _ => rfl) x (by omega) m x.length 0 0 0 (by omega) (by omega) (by omega)
  rw [hm]
  refine this.trans ?_
  rw [List.drop_zero]
  cases depthGo x 0 0 with
  | none => rfl
  | some r =>
    simp only
    by_cases e : r.1 = 1
    · rw [cnn e, if_pos e]
    · rw [cnp e, if_neg e]
def exprOk (x : List (Int × Int)) : Prop := 0 < depthF x
instance (x : List (Int × Int)) : Decidable (exprOk x) := by unfold exprOk; exact inferInstance
theorem sExprOk_eq (x : List (Int × Int)) : S.ExprOk x = some (decide (exprOk x)) := by
  unfold S.ExprOk
  rw [sDepth_eq, Option.bind_some]
  have := depthF_cases x
  exact congrArg some (decide_eq_decide.mpr (by unfold exprOk; omega))
theorem iExprOk_eq (x : List (Int × Int)) (hx : x.length ≤ 1000000000000) : I.isExpr x = some (decide (exprOk x)) := by
  unfold I.isExpr
  rw [iDepth_eq x hx, Option.bind_some]
  rfl
def winOk (k s p : Int) : Prop := (1 ≤ s ∧ s ≤ 100) ∧ ((k = 1 ∨ k = 3) ∧ p = 0 ∨ k = 2 ∧ 1 ≤ p ∧ p ≤ s ∧ s ≤ 8 * p)
instance (k s p : Int) : Decidable (winOk k s p) := by unfold winOk; exact inferInstance
theorem sWinOk_eq (k s p : Int) (h0 : -9223372036854775808 ≤ p) (h1 : p < 9223372036854775808) : S.WinOk k s p = some (decide (winOk k s p)) := by
  unfold S.WinOk
  simp only [Bool.cond_eq_ite, decide_eq_true_eq, bne_iff_ne]
  repeat' split
  all_goals first
    | exact sfal (by unfold winOk; omega)
    | exact sbool (by unfold winOk; rw [beq_iff_eq]; omega)
    | (rw [w64 (by omega) (by omega)]; exact sdec (by unfold winOk; omega))
theorem iWinOk_eq (k s p : Int) (h0 : -9223372036854775808 ≤ p) (h1 : p < 9223372036854775808) : I.isWinDef k s p = some (decide (winOk k s p)) := by
  unfold I.isWinDef
  simp only [in_eq, Option.bind_some, Bool.cond_eq_ite, decide_eq_true_eq, bne_iff_ne, beq_iff_eq, Bool.not_eq_true', decide_eq_false_iff_not]
  repeat' split
  all_goals first
    | exact sfal (by unfold winOk; omega)
    | exact sbool (by unfold winOk; rw [beq_iff_eq]; omega)
    | (rw [w64 (by omega) (by omega)]; exact sdec (by unfold winOk; omega))
def aggKind (a b : Int) : Prop := a = 6 ∧ 1 ≤ b ∧ b ≤ 4 ∨ 1 ≤ a ∧ a ≤ 5 ∧ b = 0
instance (a b : Int) : Decidable (aggKind a b) := by unfold aggKind; exact inferInstance
theorem sAggKind_eq (a b : Int) : S.AggKind a b = some (decide (aggKind a b)) := by
  unfold S.AggKind
  simp only [Bool.cond_eq_ite, decide_eq_true_eq, beq_iff_eq]
  repeat' split
  all_goals first
    | exact sfal (by unfold aggKind; omega)
    | exact sbool (by unfold aggKind; rw [beq_iff_eq]; omega)
    | exact sdec (by unfold aggKind; omega)
theorem iAggKind_eq (a b : Int) : I.isAggKind a b = some (decide (aggKind a b)) := by
  unfold I.isAggKind
  simp only [in_eq, Option.bind_some, Bool.cond_eq_ite, decide_eq_true_eq, beq_iff_eq]
  repeat' split
  all_goals first
    | exact sfal (by unfold aggKind; omega)
    | exact sbool (by unfold aggKind; rw [beq_iff_eq]; omega)
    | exact sdec (by unfold aggKind; omega)
def queryOk (k s p a b : Int) (x y : List (Int × Int)) : Prop := exprOk x ∧ exprOk y ∧ winOk k s p ∧ aggKind a b
instance (k s p a b : Int) (x y : List (Int × Int)) : Decidable (queryOk k s p a b x y) := by unfold queryOk; exact inferInstance
theorem sQueryOk_eq (k s p a b : Int) (x y : List (Int × Int)) (h0 : -9223372036854775808 ≤ p) (h1 : p < 9223372036854775808) : S.QueryOk k s p a b x y = some (decide (queryOk k s p a b x y)) := by
  unfold S.QueryOk
  simp only [sExprOk_eq, sWinOk_eq k s p h0 h1, sAggKind_eq, Option.bind_some, cds]
  exact sdec Iff.rfl
theorem iQueryOk_eq (k s p a b : Int) (x y : List (Int × Int)) (h0 : -9223372036854775808 ≤ p) (h1 : p < 9223372036854775808) (hx : x.length ≤ 1000000000000) (hy : y.length ≤ 1000000000000) : I.isQuery k s p a b x y = some (decide (queryOk k s p a b x y)) := by
  unfold I.isQuery
  simp only [iExprOk_eq x hx, iExprOk_eq y hy, iWinOk_eq k s p h0 h1, iAggKind_eq, Option.bind_some, cds]
  exact sdec Iff.rfl
theorem flagLoop {β : Type} (F : Nat → Bool → Int → Option β) (n : Nat) (ok : Nat → Bool) (E : Bool → Option β) (hn : n ≤ 1000000000000)
    (hs : ∀ (i m : Nat) (f : Bool), i < n → F (m + 1) f (i : Int) = F m (f && ok i) ((i + 1 : Nat) : Int) ∨ f = false ∧ F (m + 1) f (i : Int) = E false)
    (he : ∀ (m : Nat) (f : Bool), F (m + 1) f (n : Int) = E f) (f : Bool) : F fu f 0 = E (f && (List.range n).all ok) := by
  obtain ⟨M, hM⟩ := fu_ge n hn
  have h1 : ∀ k i : Nat, ∀ f, i + k = n → F (k + 1 + M) f (i : Int) = E (f && (List.range' i k).all ok) := by
    intro k
    induction k with
    | zero =>
      intro i f hi
      obtain rfl : i = n := by omega
      rw [show 0 + 1 + M = M + 1 from by omega, he]
      simp
    | succ k ih =>
      intro i f hi
      rw [show k + 1 + 1 + M = (k + 1 + M) + 1 from by omega, List.range'_succ, List.all_cons]
      rcases hs i (k + 1 + M) f (by omega) with h | ⟨rfl, h⟩
      · rw [h, ih (i + 1) _ (by omega), Bool.and_assoc]
      · rw [h]; rfl
  rw [hM, List.range_eq_range']
  exact h1 n 0 f (by omega)
theorem findLoop {β : Type} (F : Nat → Int → Option β) (n : Nat) (ok : Nat → Bool) (E : Nat → Option β) (e : Option β) (hn : n ≤ 1000000000000)
    (hs : ∀ (i m : Nat), i < n → F (m + 1) (i : Int) = bif ok i then E i else F m ((i + 1 : Nat) : Int))
    (he : ∀ m : Nat, F (m + 1) (n : Int) = e) : F fu 0 = match (List.range n).find? ok with | some c => E c | none => e := by
  obtain ⟨M, hM⟩ := fu_ge n hn
  have h1 : ∀ k i : Nat, i + k = n → F (k + 1 + M) (i : Int) = match (List.range' i k).find? ok with | some c => E c | none => e := by
    intro k
    induction k with
    | zero =>
      intro i hi
      obtain rfl : i = n := by omega
      rw [show 0 + 1 + M = M + 1 from by omega, he]
      rfl
    | succ k ih =>
      intro i hi
      rw [show k + 1 + 1 + M = (k + 1 + M) + 1 from by omega, List.range'_succ, List.find?_cons, hs i _ (by omega)]
      cases ok i with
      | true => rfl
      | false => exact ih (i + 1) (by omega)
  rw [hM, List.range_eq_range']
  exact h1 n 0 (by omega)
def bit (x i : Int) : Bool := Go.bits .and .u64 (Int.fdiv x (2 ^ min (Int.toNat i) (IntKind.bits .u64))) 1 == 1
def leB (up : List Int) (a b : Int) : Bool := bit (nthI up a 0) b
def sideB (up : List Int) (a c : Int) (u : Bool) : Bool := bif u then leB up a c else leB up c a
theorem l01Bit_eq (x i : Int) (h0 : 0 ≤ i) (h1 : i < 100) : S.l01Bit x i = some (bit x i) := by
  unfold S.l01Bit bit
  simp only [u64w h0 (show i < 18446744073709551616 by omega)]
  rw [cdp h0]
theorem latLe_eq (n a b : Int) (up : List Int) (ha : 0 ≤ a ∧ a < (up.length : Int)) (hb : 0 ≤ b) : I.Lat_le n a b up = some (leB up a b) := by
  unfold I.Lat_le leB bit
  rw [cdp ha, cdp hb]
theorem l01Side_eq (n a c : Int) (u : Bool) (up : List Int) (hn : up.length ≤ 16) (ha : 0 ≤ a ∧ a < (up.length : Int)) (hc : 0 ≤ c ∧ c < (up.length : Int)) : S.l01Side n a c u up = some (sideB up a c u) := by
  unfold S.l01Side sideB leB
  rw [cdp ha, cdp hc, l01Bit_eq _ _ hc.1 (by omega), l01Bit_eq _ _ ha.1 (by omega)]
  cases u <;> rfl
theorem under_eq (n a c : Int) (u : Bool) (up : List Int) (ha : 0 ≤ a ∧ a < (up.length : Int)) (hc : 0 ≤ c ∧ c < (up.length : Int)) : I.Lat_bound_1 a c u n up = some (sideB up a c u, u, n, up) := by
  unfold I.Lat_bound_1 sideB
  rw [latLe_eq n a c up ha hc.1, latLe_eq n c a up hc ha.1]
  cases u <;> rfl
def okD (up : List Int) (u : Bool) (a b c : Int) (d : Nat) : Bool := !(sideB up a (d : Int) u && sideB up b (d : Int) u && !sideB up c (d : Int) u)
def fitsB (up : List Int) (u : Bool) (a b : Int) (c : Nat) : Bool := sideB up a (c : Int) u && (sideB up b (c : Int) u && (List.range up.length).all (okD up u a b (c : Int)))
def bndF (up : List Int) (u : Bool) (a b : Int) : Int := match (List.range up.length).find? (fitsB up u a b) with | some c => (c : Int) | none => -1
section
variable (up : List Int) (hn : up.length ≤ 16)
include hn
theorem sB1 (e : Int → Int → Bool → Int → Bool → Int → List Int → Option Int) (a b : Int) (u f : Bool) (c : Int) (ha : 0 ≤ a ∧ a < (up.length : Int)) (hb : 0 ≤ b ∧ b < (up.length : Int)) (hc : 0 ≤ c ∧ c < (up.length : Int)) :
    S.l01Bound_l1 fu e a b u c f 0 (up.length : Int) up = e a b u c (f && (List.range up.length).all (okD up u a b c)) (up.length : Int) up := by
  refine flagLoop (fun m f i => S.l01Bound_l1 m e a b u c f i (up.length : Int) up) up.length (okD up u a b c) (fun f => e a b u c f (up.length : Int) up) (by omega) (fun i m f hi => ?_) (fun m f => ?_) f
  · show S.l01Bound_l1 (m + 1) _ _ _ _ _ _ _ _ _ = S.l01Bound_l1 m _ _ _ _ _ _ _ _ _ ∨ _ ∧ S.l01Bound_l1 (m + 1) _ _ _ _ _ _ _ _ _ = _
    have hd : 0 ≤ (i : Int) ∧ (i : Int) < (up.length : Int) := by omega
    rw [S.l01Bound_l1, cdp (by omega)]
    simp only [l01Side_eq _ _ _ u up hn ha hd, l01Side_eq _ _ _ u up hn hb hd, l01Side_eq _ _ _ u up hn hc hd, Option.bind_some]
    rw [w64 (by omega) (by omega)]
    cases f
    · exact .inr ⟨rfl, rfl⟩
    · left
      unfold okD
      cases sideB up a (i : Int) u <;> cases sideB up b (i : Int) u <;> cases sideB up c (i : Int) u <;> rfl
  · show S.l01Bound_l1 (m + 1) _ _ _ _ _ _ _ _ _ = _
    rw [S.l01Bound_l1, cdn (by omega)]
theorem sBound_eq (a b : Int) (u : Bool) (ha : 0 ≤ a ∧ a < (up.length : Int)) (hb : 0 ≤ b ∧ b < (up.length : Int)) : S.l01Bound (up.length : Int) a b u up = some (bndF up u a b) := by
  unfold S.l01Bound bndF
  refine (findLoop (fun m i => S.l01Bound_l0 m (fun y47 => some y47) (some (-1)) a b u i (up.length : Int) up) up.length (fitsB up u a b) (fun c => some (c : Int)) (some (-1)) (by omega) (fun i m hi => ?_) (fun m => ?_)).trans (by split <;> rfl)
  · show S.l01Bound_l0 (m + 1) _ _ _ _ _ _ _ _ = bif _ then _ else S.l01Bound_l0 m _ _ _ _ _ _ _ _
    have hd : 0 ≤ (i : Int) ∧ (i : Int) < (up.length : Int) := by omega
    rw [S.l01Bound_l0, cdp (by omega)]
    simp only [l01Side_eq _ _ _ u up hn ha hd, l01Side_eq _ _ _ u up hn hb hd, Option.bind_some, sB1 up hn _ a b u _ (i : Int) ha hb hd]
    rw [w64 (by omega) (by omega)]
    unfold fitsB
    cases sideB up a (i : Int) u <;> cases sideB up b (i : Int) u <;> rfl
  · show S.l01Bound_l0 (m + 1) _ _ _ _ _ _ _ _ = _
    rw [S.l01Bound_l0, cdn (by omega)]
theorem iB1 (e : Int → Int → Int → Bool → Int → Int → Int → Bool → List Int → Option Int) (a b : Int) (u f : Bool) (c a22 a23 n : Int) (ha : 0 ≤ a ∧ a < (up.length : Int)) (hb : 0 ≤ b ∧ b < (up.length : Int)) (hc : 0 ≤ c ∧ c < (up.length : Int)) :
    I.Lat_bound_l1 fu e a b c f a22 a23 (up.length : Int) 0 n u up = e a b c (f && (List.range up.length).all (okD up u a b c)) a22 a23 n u up := by
  refine flagLoop (fun m f i => I.Lat_bound_l1 m e a b c f a22 a23 (up.length : Int) i n u up) up.length (okD up u a b c) (fun f => e a b c f a22 a23 n u up) (by omega) (fun i m f hi => .inl ?_) (fun m f => ?_) f
  · show I.Lat_bound_l1 (m + 1) _ _ _ _ _ _ _ _ _ _ _ _ = I.Lat_bound_l1 m _ _ _ _ _ _ _ _ _ _ _ _
    have hd : 0 ≤ (i : Int) ∧ (i : Int) < (up.length : Int) := by omega
    rw [I.Lat_bound_l1, cdp (by omega)]
    simp only [under_eq _ _ _ u up ha hd, under_eq _ _ _ u up hb hd, under_eq _ _ _ u up hc hd, Option.bind_some]
    rw [w64 (by omega) (by omega)]
    unfold okD
    cases f <;> cases sideB up a (i : Int) u <;> cases sideB up b (i : Int) u <;> cases sideB up c (i : Int) u <;> rfl
  · show I.Lat_bound_l1 (m + 1) _ _ _ _ _ _ _ _ _ _ _ _ = _
    rw [I.Lat_bound_l1, cdn (by omega)]
theorem iBound_eq (a b : Int) (u : Bool) (ha : 0 ≤ a ∧ a < (up.length : Int)) (hb : 0 ≤ b ∧ b < (up.length : Int)) : I.Lat_bound (up.length : Int) a b u up = some (bndF up u a b) := by
  unfold I.Lat_bound bndF
  refine (findLoop (fun m i => I.Lat_bound_l0 m (fun y47 => some y47) (some (-1)) a b (up.length : Int) i (up.length : Int) u up) up.length (fitsB up u a b) (fun c => some (c : Int)) (some (-1)) (by omega) (fun i m hi => ?_) (fun m => ?_)).trans (by split <;> rfl)
  · show I.Lat_bound_l0 (m + 1) _ _ _ _ _ _ _ _ _ = bif _ then _ else I.Lat_bound_l0 m _ _ _ _ _ _ _ _ _
    have hd : 0 ≤ (i : Int) ∧ (i : Int) < (up.length : Int) := by omega
    rw [I.Lat_bound_l0, cdp (by omega)]
    simp only [under_eq _ _ _ u up ha hd, under_eq _ _ _ u up hb hd, Option.bind_some, iB1 up hn _ a b u _ (i : Int) _ _ _ ha hb hd]
    rw [w64 (by omega) (by omega)]
    unfold fitsB
    cases sideB up a (i : Int) u <;> cases sideB up b (i : Int) u <;> rfl
  · show I.Lat_bound_l0 (m + 1) _ _ _ _ _ _ _ _ _ = _
    rw [I.Lat_bound_l0, cdn (by omega)]
end
theorem cb3 {x y z : Bool} {k : Option Bool} {p : Prop} [Decidable p] (h : p ↔ ¬ (x = true ∧ y = true ∧ z = false)) : (bif x then (bif y then (bif !z then some false else k) else k) else k) = bif decide p then k else some false := by
  by_cases c : p
  · rw [cdp c]
    have := h.1 c
    revert this
    cases x <;> cases y <;> cases z <;> simp
  · rw [cdn c]
    have := fun e => c (h.2 e)
    revert this
    cases x <;> cases y <;> cases z <;> simp
theorem cb2 {x y : Bool} {k : Option Bool} {p : Prop} [Decidable p] (h : p ↔ ¬ (x = true ∧ y = true)) : (bif x then (bif y then some false else k) else k) = bif decide p then k else some false := by
  by_cases c : p
  · rw [cdp c]
    have := h.1 c
    revert this
    cases x <;> cases y <;> simp
  · rw [cdn c]
    have := fun e => c (h.2 e)
    revert this
    cases x <;> cases y <;> simp
def thruP (up : List Int) (a b c : Nat) : Prop := ¬ (leB up a b = true ∧ leB up b c = true ∧ leB up a c = false)
instance (up : List Int) (a b : Nat) : DecidablePred (thruP up a b) := fun c => by unfold thruP; exact inferInstance
def pairP (up : List Int) (a b : Nat) : Prop := (a ≠ b → ¬ (leB up a b = true ∧ leB up b a = true)) ∧ ∀ c, c < up.length → thruP up a b c
instance (up : List Int) (a : Nat) : DecidablePred (pairP up a) := fun b => by unfold pairP; exact inferInstance
def lowP (up : List Int) (a : Nat) : Prop := nthI up (a : Int) 0 < 2 ^ up.length
instance (up : List Int) : DecidablePred (lowP up) := fun a => by unfold lowP; exact inferInstance
def ordP (up : List Int) (a : Nat) : Prop := leB up a a = true ∧ ∀ b, b < up.length → pairP up a b
instance (up : List Int) : DecidablePred (ordP up) := fun a => by unfold ordP; exact inferInstance
def bndP (up : List Int) (a b : Nat) : Prop := 0 ≤ bndF up true a b ∧ 0 ≤ bndF up false a b
instance (up : List Int) (a : Nat) : DecidablePred (bndP up a) := fun b => by unfold bndP; exact inferInstance
def latOk (n : Int) (up : List Int) : Prop := (1 ≤ n ∧ n ≤ 16) ∧ (up.length : Int) = n ∧ (∀ a, a < up.length → lowP up a) ∧ (∀ a, a < up.length → ordP up a) ∧ ∀ a, a < up.length → ∀ b, b < up.length → bndP up a b
instance (n : Int) (up : List Int) : Decidable (latOk n up) := by unfold latOk; exact inferInstance
theorem power_l (e : Int → Option Int) (m : Nat) : ∀ (d : Nat) (x : Int), 0 ≤ x → x * 2 ^ d < 18446744073709551616 → d ≤ 64 → S.l01Power_l0 (d + 1 + m) e (d : Int) x = e (x * 2 ^ d)
  | 0, x, h0, h1, hd => by
    rw [show 0 + 1 + m = m + 1 from by omega, S.l01Power_l0, cdn (by omega)]
    simp
  | d + 1, x, h0, h1, hd => by
    have h2 : x * 2 ^ (d + 1) = 2 * x * 2 ^ d := by rw [Int.pow_succ, Int.mul_comm (2 ^ d) 2, ← Int.mul_assoc, Int.mul_comm x 2]
    have hp : (1 : Int) ≤ 2 ^ d := by have : (0 : Int) < 2 ^ d := Int.pow_pos (by omega); omega
    have h3 : 2 * x ≤ 2 * x * 2 ^ d := by have := Int.mul_le_mul_of_nonneg_left hp (show 0 ≤ 2 * x by omega); omega
    rw [show d + 1 + 1 + m = (d + 1 + m) + 1 from by omega, S.l01Power_l0, cdp (by omega), w64 (by omega) (by omega), u64w (by omega) (by omega), show ((d + 1 : Nat) : Int) - 1 = (d : Int) from by omega, power_l e m d (2 * x) (by omega) (by omega) (by omega), h2]
theorem power_eq (n : Nat) (h : n ≤ 16) : S.l01Power (n : Int) = some (2 ^ n) := by
  unfold S.l01Power
  obtain ⟨m, hm⟩ := fu_ge n (by omega)
  have hp : (2 : Int) ^ n ≤ 2 ^ 16 := by
    have : 2 ^ n ≤ 2 ^ 16 := Nat.pow_le_pow_right (by omega) h
    exact_mod_cast this
  rw [hm, power_l _ m n 1 (by omega) (by omega) (by omega), Int.one_mul]
section
variable (up : List Int) (hn : up.length ≤ 16)
include hn
theorem sLat_l2 (e0 : Bool → Int → Int → Int → List Int → Option Bool) (e1 : Int → Int → Int → List Int → Option Bool) (he : ∀ a b n u, e0 false a b n u = some false) (a b : Nat) (ha : a < up.length) (hb : b < up.length) :
    S.LatOk_l2 fu e0 e1 (a : Int) (b : Int) 0 (up.length : Int) up = if ∀ c, c < up.length → thruP up a b c then e1 a b up.length up else some false := by
  refine allLoopK (fun m i => S.LatOk_l2 m e0 e1 (a : Int) (b : Int) i (up.length : Int) up) up.length (thruP up a b) _ (by omega) (fun i m hi => ?_) (fun m => ?_)
  · show S.LatOk_l2 (m + 1) _ _ _ _ _ _ _ = bif _ then S.LatOk_l2 m _ _ _ _ _ _ _ else _
    have e1' : decide ((0 : Int) ≤ (a : Int) ∧ (a : Int) < (up.length : Int)) = true := decide_eq_true (by omega)
    have e2' : decide ((0 : Int) ≤ (b : Int) ∧ (b : Int) < (up.length : Int)) = true := decide_eq_true (by omega)
    have l1 : ∀ x, S.l01Bit x (i : Int) = some (bit x i) := fun x => l01Bit_eq x _ (by omega) (by omega)
    have l2 : ∀ x, S.l01Bit x (b : Int) = some (bit x b) := fun x => l01Bit_eq x _ (by omega) (by omega)
    rw [S.LatOk_l2, cdp (by omega)]
    simp only [e1', e2', l1, l2, cond_true, Option.bind_some, he]
    rw [w64 (by omega) (by omega)]
    exact cb3 (p := thruP up a b i) Iff.rfl
  · show S.LatOk_l2 (m + 1) _ _ _ _ _ _ _ = _
    rw [S.LatOk_l2, cdn (by omega)]
theorem sLat_l1 (e0 : Bool → Int → Int → List Int → Option Bool) (e1 : Int → Int → List Int → Option Bool) (he : ∀ a n u, e0 false a n u = some false) (a : Nat) (ha : a < up.length) :
    S.LatOk_l1 fu e0 e1 (a : Int) 0 (up.length : Int) up = if ∀ b, b < up.length → pairP up a b then e1 a up.length up else some false := by
  refine allLoopK (fun m i => S.LatOk_l1 m e0 e1 (a : Int) i (up.length : Int) up) up.length (pairP up a) _ (by omega) (fun i m hi => ?_) (fun m => ?_)
  · show S.LatOk_l1 (m + 1) _ _ _ _ _ _ = bif _ then S.LatOk_l1 m _ _ _ _ _ _ else _
    have e1' : decide ((0 : Int) ≤ (a : Int) ∧ (a : Int) < (up.length : Int)) = true := decide_eq_true (by omega)
    have e2' : decide ((0 : Int) ≤ (i : Int) ∧ (i : Int) < (up.length : Int)) = true := decide_eq_true (by omega)
    have l1 : ∀ x, S.l01Bit x (i : Int) = some (bit x i) := fun x => l01Bit_eq x _ (by omega) (by omega)
    have l2 : ∀ x, S.l01Bit x (a : Int) = some (bit x a) := fun x => l01Bit_eq x _ (by omega) (by omega)
    rw [S.LatOk_l1, cdp (by omega)]
    simp only [e1', e2', l1, l2, cond_true, Option.bind_some, he]
    rw [sLat_l2 up hn (fun y32 y33 y34 y35 y36 => e0 y32 y33 y35 y36) _ (fun _ _ _ _ => he _ _ _) a i ha hi]
    rw [w64 (by omega) (by omega)]
    by_cases q : ∀ c, c < up.length → thruP up a i c
    · rw [if_pos q]
      by_cases e : (a : Int) = (i : Int)
      · rw [cnn e, cdp (show pairP up a i from ⟨fun h => absurd (by omega) h, q⟩)]
        rfl
      · rw [cnp e]
        exact cb2 (p := pairP up a i) (x := leB up a i) (y := leB up i a) ⟨fun h => h.1 (by omega), fun h => ⟨fun _ => h, q⟩⟩
    · rw [if_neg q, cdn (fun h : pairP up a i => q h.2)]
      change (bif _ then (bif leB up a i then (bif leB up i a then _ else _) else _) else _) = _
      cases ((a : Int) != (i : Int)) <;> cases leB up a i <;> cases leB up i a <;> rfl
  · show S.LatOk_l1 (m + 1) _ _ _ _ _ _ = _
    rw [S.LatOk_l1, cdn (by omega)]
theorem sLat_l0 (e0 : Bool → Int → List Int → Option Bool) (e1 : Int → List Int → Option Bool) (he : ∀ n u, e0 false n u = some false) :
    S.LatOk_l0 fu e0 e1 0 (up.length : Int) up = if ∀ a, a < up.length → lowP up a ∧ ordP up a then e1 up.length up else some false := by
  refine allLoopK (fun m i => S.LatOk_l0 m e0 e1 i (up.length : Int) up) up.length (fun a => lowP up a ∧ ordP up a) _ (by omega) (fun i m hi => ?_) (fun m => ?_)
  · show S.LatOk_l0 (m + 1) _ _ _ _ _ = bif _ then S.LatOk_l0 m _ _ _ _ _ else _
    have e2' : decide ((0 : Int) ≤ (i : Int) ∧ (i : Int) < (up.length : Int)) = true := decide_eq_true (by omega)
    have l1 : ∀ x, S.l01Bit x (i : Int) = some (bit x i) := fun x => l01Bit_eq x _ (by omega) (by omega)
    rw [S.LatOk_l0, cdp (by omega)]
    simp only [e2', l1, cond_true, Option.bind_some, he, power_eq up.length hn]
    rw [sLat_l1 up hn (fun y62 y63 y64 y65 => e0 y62 y64 y65) _ (fun _ _ _ => he _ _) i hi]
    rw [w64 (by omega) (by omega)]
    change (bif !leB up i i then _ else _) = _
    by_cases c : leB up i i = true
    · rw [c, Bool.not_true, cond_false]
      by_cases c1 : 2 ^ up.length ≤ nthI up (i : Int) 0
      · rw [cdp c1, cdn (fun h : lowP up i ∧ ordP up i => by have := h.1; unfold lowP at this; omega)]
      · rw [cdn c1]
        by_cases q : ∀ b, b < up.length → pairP up i b
        · rw [if_pos q, cdp (show lowP up i ∧ ordP up i from ⟨by unfold lowP; omega, c, q⟩)]
          rfl
        · rw [if_neg q, cdn (fun h : lowP up i ∧ ordP up i => q h.2.2)]
    · rw [Bool.eq_false_iff.2 c, cdn (fun h : lowP up i ∧ ordP up i => c h.2.1)]
      rfl
  · show S.LatOk_l0 (m + 1) _ _ _ _ _ = _
    rw [S.LatOk_l0, cdn (by omega)]
theorem sLat_l4 (e0 : Bool → Int → Int → List Int → Option Bool) (e1 : Int → Int → List Int → Option Bool) (he : ∀ a n u, e0 false a n u = some false) (a : Nat) (ha : a < up.length) :
    S.LatOk_l4 fu e0 e1 (a : Int) 0 (up.length : Int) up = if ∀ b, b < a → bndP up a b then e1 a up.length up else some false := by
  refine allLoopK (fun m i => S.LatOk_l4 m e0 e1 (a : Int) i (up.length : Int) up) a (bndP up a) _ (by omega) (fun i m hi => ?_) (fun m => ?_)
  · show S.LatOk_l4 (m + 1) _ _ _ _ _ _ = bif _ then S.LatOk_l4 m _ _ _ _ _ _ else _
    rw [S.LatOk_l4, cdp (by omega)]
    simp only [sBound_eq up hn (a : Int) (i : Int) _ (by omega) (by omega), Option.bind_some, he]
    rw [w64 (by omega) (by omega)]
    by_cases c1 : bndF up true a i < 0
    · rw [cdp c1, cdn (fun h : bndP up a i => by have := h.1; omega)]
    · rw [cdn c1]
      by_cases c2 : bndF up false a i < 0
      · rw [cdp c2, cdn (fun h : bndP up a i => by have := h.2; omega)]
      · rw [cdn c2, cdp (show bndP up a i from ⟨by omega, by omega⟩)]
        rfl
  · show S.LatOk_l4 (m + 1) _ _ _ _ _ _ = _
    rw [S.LatOk_l4, cdn (by omega)]
theorem sLat_l3 : S.LatOk_l3 fu (fun y => some y) (some true) 0 (up.length : Int) up = some (decide (∀ a, a < up.length → ∀ b, b < a → bndP up a b) && true) := by
  refine allLoop (fun m i => S.LatOk_l3 m (fun y => some y) (some true) i (up.length : Int) up) up.length (fun a => ∀ b, b < a → bndP up a b) true (by omega) (fun i m hi => ?_) (fun m => ?_)
  · show S.LatOk_l3 (m + 1) _ _ _ _ _ = bif _ then S.LatOk_l3 m _ _ _ _ _ else _
    rw [S.LatOk_l3, cdp (by omega)]
    rw [sLat_l4 up hn (fun y89 y90 y91 y92 => some y89) _ (fun _ _ _ => rfl) i hi, w64 (by omega) (by omega)]
    by_cases q : ∀ b, b < i → bndP up i b
    · rw [if_pos q, cdp q]; rfl
    · rw [if_neg q, cdn q]
  · show S.LatOk_l3 (m + 1) _ _ _ _ _ = _
    rw [S.LatOk_l3, cdn (by omega)]
theorem iOrd_l2 (e0 : Bool → Int → Int → Int → Int → Int → Int → List Int → Option Bool) (e1 : Int → Int → Int → Int → Int → Int → List Int → Option Bool) (he : ∀ a b c d e f u, e0 false a b c d e f u = some false) (a b : Nat) (ha : a < up.length) (hb : b < up.length) (x y z w : Int) :
    I.Lat_isOrder_l2 fu e0 e1 (a : Int) (b : Int) x y z w (up.length : Int) 0 (up.length : Int) up = if ∀ c, c < up.length → thruP up a b c then e1 a x y z w up.length up else some false := by
  refine allLoopK (fun m i => I.Lat_isOrder_l2 m e0 e1 (a : Int) (b : Int) x y z w (up.length : Int) i (up.length : Int) up) up.length (thruP up a b) _ (by omega) (fun i m hi => ?_) (fun m => ?_)
  · show I.Lat_isOrder_l2 (m + 1) _ _ _ _ _ _ _ _ _ _ _ _ = bif _ then I.Lat_isOrder_l2 m _ _ _ _ _ _ _ _ _ _ _ _ else _
    rw [I.Lat_isOrder_l2, cdp (by omega)]
    simp only [latLe_eq _ (a : Int) (b : Int) up (by omega) (by omega), latLe_eq _ (b : Int) (i : Int) up (by omega) (by omega), latLe_eq _ (a : Int) (i : Int) up (by omega) (by omega), Option.bind_some, he]
    rw [w64 (by omega) (by omega)]
    exact cb3 (p := thruP up a b i) Iff.rfl
  · show I.Lat_isOrder_l2 (m + 1) _ _ _ _ _ _ _ _ _ _ _ _ = _
    rw [I.Lat_isOrder_l2, cdn (by omega)]
theorem iOrd_l1 (e0 : Bool → Int → Int → Int → List Int → Option Bool) (e1 : Int → Int → Int → List Int → Option Bool) (he : ∀ a b c u, e0 false a b c u = some false) (a : Nat) (ha : a < up.length) (x y : Int) :
    I.Lat_isOrder_l1 fu e0 e1 (a : Int) x y (up.length : Int) 0 (up.length : Int) up = if ∀ b, b < up.length → pairP up a b then e1 x y up.length up else some false := by
  refine allLoopK (fun m i => I.Lat_isOrder_l1 m e0 e1 (a : Int) x y (up.length : Int) i (up.length : Int) up) up.length (pairP up a) _ (by omega) (fun i m hi => ?_) (fun m => ?_)
  · show I.Lat_isOrder_l1 (m + 1) _ _ _ _ _ _ _ _ _ = bif _ then I.Lat_isOrder_l1 m _ _ _ _ _ _ _ _ _ else _
    rw [I.Lat_isOrder_l1, cdp (by omega)]
    simp only [latLe_eq _ (a : Int) (i : Int) up (by omega) (by omega), latLe_eq _ (i : Int) (a : Int) up (by omega) (by omega), Option.bind_some, he]
    rw [iOrd_l2 up hn (fun y36 y37 y38 y39 y40 y41 y42 y43 => e0 y36 y38 y39 y42 y43) _ (fun _ _ _ _ _ _ _ => he _ _ _ _) a i ha hi x y (up.length : Int) (i : Int)]
    rw [w64 (by omega) (by omega)]
    by_cases q : ∀ c, c < up.length → thruP up a i c
    · rw [if_pos q]
      by_cases e : (a : Int) = (i : Int)
      · rw [cnn e, cdp (show pairP up a i from ⟨fun h => absurd (by omega) h, q⟩)]
        rfl
      · rw [cnp e]
        exact cb2 (p := pairP up a i) ⟨fun h => h.1 (by omega), fun h => ⟨fun _ => h, q⟩⟩
    · rw [if_neg q, cdn (fun h : pairP up a i => q h.2)]
      cases ((a : Int) != (i : Int)) <;> cases leB up a i <;> cases leB up i a <;> rfl
  · show I.Lat_isOrder_l1 (m + 1) _ _ _ _ _ _ _ _ _ = _
    rw [I.Lat_isOrder_l1, cdn (by omega)]
theorem iOrd_eq : I.Lat_isOrder (up.length : Int) up = some (decide (∀ a, a < up.length → ordP up a) && true) := by
  unfold I.Lat_isOrder
  refine allLoop (fun m i => I.Lat_isOrder_l0 m (fun y => some y) (some true) (up.length : Int) i (up.length : Int) up) up.length (ordP up) true (by omega) (fun i m hi => ?_) (fun m => ?_)
  · show I.Lat_isOrder_l0 (m + 1) _ _ _ _ _ _ = bif _ then I.Lat_isOrder_l0 m _ _ _ _ _ _ else _
    rw [I.Lat_isOrder_l0, cdp (by omega)]
    simp only [latLe_eq _ (i : Int) (i : Int) up (by omega) (by omega), Option.bind_some]
    rw [iOrd_l1 up hn (fun y84 y85 y86 y87 y88 => some y84) _ (fun _ _ _ _ => rfl) i hi (up.length : Int) (i : Int)]
    rw [w64 (by omega) (by omega)]
    by_cases c : leB up i i = true
    · rw [c, Bool.not_true, cond_false]
      by_cases q : ∀ b, b < up.length → pairP up i b
      · rw [if_pos q, cdp (show ordP up i from ⟨c, q⟩)]
        rfl
      · rw [if_neg q, cdn (fun h : ordP up i => q h.2)]
    · rw [Bool.eq_false_iff.2 c, cdn (fun h : ordP up i => c h.1)]
      rfl
  · show I.Lat_isOrder_l0 (m + 1) _ _ _ _ _ _ = _
    rw [I.Lat_isOrder_l0, cdn (by omega)]
theorem iLat_l2 (e0 : Bool → Int → Int → Int → List Int → Option Bool) (e1 : Int → Int → Int → List Int → Option Bool) (he : ∀ a b n u, e0 false a b n u = some false) (a : Nat) (ha : a < up.length) (x y : Int) :
    I.isLat_l2 fu e0 e1 (a : Int) x y (up.length : Int) 0 (up.length : Int) up = if ∀ b, b < up.length → bndP up a b then e1 x y up.length up else some false := by
  refine allLoopK (fun m i => I.isLat_l2 m e0 e1 (a : Int) x y (up.length : Int) i (up.length : Int) up) up.length (bndP up a) _ (by omega) (fun i m hi => ?_) (fun m => ?_)
  · show I.isLat_l2 (m + 1) _ _ _ _ _ _ _ _ _ = bif _ then I.isLat_l2 m _ _ _ _ _ _ _ _ _ else _
    rw [I.isLat_l2, cdp (by omega)]
    simp only [iBound_eq up hn (a : Int) (i : Int) _ (by omega) (by omega), Option.bind_some, he]
    rw [w64 (by omega) (by omega)]
    by_cases c1 : bndF up true a i < 0
    · rw [cdp c1, cdn (fun h : bndP up a i => by have := h.1; omega)]
    · rw [cdn c1]
      by_cases c2 : bndF up false a i < 0
      · rw [cdp c2, cdn (fun h : bndP up a i => by have := h.2; omega)]
      · rw [cdn c2, cdp (show bndP up a i from ⟨by omega, by omega⟩)]
        rfl
  · show I.isLat_l2 (m + 1) _ _ _ _ _ _ _ _ _ = _
    rw [I.isLat_l2, cdn (by omega)]
theorem iLat_l1 : I.isLat_l1 fu (fun y => some y) (some true) (up.length : Int) 0 (up.length : Int) up = some (decide (∀ a, a < up.length → ∀ b, b < up.length → bndP up a b) && true) := by
  refine allLoop (fun m i => I.isLat_l1 m (fun y => some y) (some true) (up.length : Int) i (up.length : Int) up) up.length (fun a => ∀ b, b < up.length → bndP up a b) true (by omega) (fun i m hi => ?_) (fun m => ?_)
  · show I.isLat_l1 (m + 1) _ _ _ _ _ _ = bif _ then I.isLat_l1 m _ _ _ _ _ _ else _
    rw [I.isLat_l1, cdp (by omega)]
    rw [iLat_l2 up hn (fun y38 y39 y40 y41 y42 => some y38) _ (fun _ _ _ _ => rfl) i hi (up.length : Int) (i : Int), w64 (by omega) (by omega)]
    by_cases q : ∀ b, b < up.length → bndP up i b
    · rw [if_pos q, cdp q]; rfl
    · rw [if_neg q, cdn q]
  · show I.isLat_l1 (m + 1) _ _ _ _ _ _ = _
    rw [I.isLat_l1, cdn (by omega)]
theorem iLat_l0 (hu : ∀ y ∈ up, (Lit.int .u64 y).wf = true) (e0 : Bool → Int → List Int → Option Bool) (e1 : Int → List Int → Option Bool) (he : ∀ n u, e0 false n u = some false) :
    I.isLat_l0 fu e0 e1 (up.length : Int) 0 (up.length : Int) up = if ∀ a, a < up.length → lowP up a then e1 up.length up else some false := by
  refine allLoopK (fun m i => I.isLat_l0 m e0 e1 (up.length : Int) i (up.length : Int) up) up.length (lowP up) _ (by omega) (fun i m hi => ?_) (fun m => ?_)
  · show I.isLat_l0 (m + 1) _ _ _ _ _ _ = bif _ then I.isLat_l0 m _ _ _ _ _ _ else _
    have h0 := (u64_wf (hu _ (nthI_mem up i 0 hi))).1
    rw [I.isLat_l0, cdp (by omega), cdp (show (0 : Int) ≤ (i : Int) ∧ (i : Int) < (up.length : Int) by omega), cdp (show (0 : Int) ≤ (up.length : Int) by omega), he, w64 (by omega) (by omega)]
    have e1 : min (Int.toNat (up.length : Int)) (IntKind.bits .u64) = up.length := by
      rw [Int.toNat_natCast]
      exact Nat.min_eq_left (by have : IntKind.bits .u64 = 64 := rfl; omega)
    have hp : (0 : Int) < 2 ^ up.length := Int.pow_pos (by omega)
    rw [e1, Int.fdiv_eq_ediv_of_nonneg _ (by omega)]
    have hiff : nthI up (i : Int) 0 / 2 ^ up.length = 0 ↔ lowP up i := by
      unfold lowP
      constructor
      · intro h
        by_cases c : nthI up (i : Int) 0 < 2 ^ up.length
        · exact c
        · have := (Int.le_ediv_iff_mul_le hp).2 (show 1 * 2 ^ up.length ≤ nthI up (i : Int) 0 by omega)
          omega
      · intro h
        exact Int.ediv_eq_zero_of_lt h0 h
    by_cases c : lowP up i
    · rw [cnn (hiff.2 c), cdp c]; rfl
    · rw [cnp (fun h => c (hiff.1 h)), cdn c]
  · show I.isLat_l0 (m + 1) _ _ _ _ _ _ = _
    rw [I.isLat_l0, cdn (by omega)]
end
theorem bnd_iff (up : List Int) (u : Bool) (a b : Int) : 0 ≤ bndF up u a b ↔ ∃ c, c < up.length ∧ fitsB up u a b c = true := by
  unfold bndF
  split
  · rename_i c hc
    refine ⟨fun _ => ⟨c, ?_, List.find?_some hc⟩, fun _ => by omega⟩
    exact List.mem_range.1 (List.mem_of_find?_eq_some hc)
  · rename_i hc
    refine ⟨fun h => by omega, ?_⟩
    rintro ⟨c, h1, h2⟩
    exact absurd h2 (List.find?_eq_none.1 hc c (List.mem_range.2 h1))
theorem fits_comm (up : List Int) (u : Bool) (a b : Int) (c : Nat) : fitsB up u a b c = fitsB up u b a c := by
  unfold fitsB
  have : okD up u a b (c : Int) = okD up u b a (c : Int) := by
    funext d
    unfold okD
    rw [Bool.and_comm (sideB up a (d : Int) u)]
  rw [this, ← Bool.and_assoc, Bool.and_comm (sideB up a (c : Int) u), Bool.and_assoc]
theorem bnd_comm (up : List Int) (u : Bool) (a b : Int) (h : 0 ≤ bndF up u a b) : 0 ≤ bndF up u b a := by
  obtain ⟨c, h1, h2⟩ := (bnd_iff up u a b).1 h
  exact (bnd_iff up u b a).2 ⟨c, h1, by rw [fits_comm]; exact h2⟩
theorem bnd_self (up : List Int) (u : Bool) (a : Nat) (ha : a < up.length) (h : leB up a a = true) : 0 ≤ bndF up u a a := by
  refine (bnd_iff up u a a).2 ⟨a, ha, ?_⟩
  have h1 : sideB up a a u = true := by unfold sideB; cases u <;> exact h
  unfold fitsB
  rw [h1, Bool.true_and, Bool.true_and, List.all_eq_true]
  intro d _
  unfold okD
  cases sideB up a (d : Int) u <;> rfl
theorem sLatOk_eq (n : Int) (up : List Int) : S.LatOk n up = some (decide (latOk n up)) := by
  unfold S.LatOk
  by_cases h1 : n < 1
  · rw [cdp h1]; exact sfal fun h => by have := h.1; omega
  rw [cdn h1]
  by_cases h2 : 16 < n
  · rw [cdp h2]; exact sfal fun h => by have := h.1; omega
  rw [cdn h2]
  by_cases h3 : (up.length : Int) ≠ n
  · rw [cnp h3]; exact sfal fun h => h3 h.2.1
  have h3 := Decidable.not_not.1 h3
  subst h3
  have hn : up.length ≤ 16 := by omega
  rw [cnn rfl, sLat_l0 up hn (fun y70 y71 y72 => some y70) _ (fun _ _ => rfl)]
  by_cases h4 : ¬ ∀ a, a < up.length → lowP up a ∧ ordP up a
  · rw [if_neg h4]; exact sfal fun h => h4 fun a ha => ⟨h.2.2.1 a ha, h.2.2.2.1 a ha⟩
  have h4 := Decidable.not_not.1 h4
  rw [if_pos h4, sLat_l3 up hn, Bool.and_true]
  refine sdec ⟨fun h => ⟨by omega, rfl, fun a ha => (h4 a ha).1, fun a ha => (h4 a ha).2, fun a ha b hb => ?_⟩, fun h a ha b hb => h.2.2.2.2 a ha b (by omega)⟩
  rcases Nat.lt_trichotomy a b with q | q | q
  · exact ⟨bnd_comm _ _ _ _ (h b hb a q).1, bnd_comm _ _ _ _ (h b hb a q).2⟩
  · subst q
    exact ⟨bnd_self up true a ha (h4 a ha).2.1, bnd_self up false a ha (h4 a ha).2.1⟩
  · exact h a ha b q
theorem iLatOk_eq (n : Int) (up : List Int) (hu : ∀ y ∈ up, (Lit.int .u64 y).wf = true) : I.isLat n up = some (decide (latOk n up)) := by
  unfold I.isLat
  rw [in_eq, Option.bind_some, cnotb]
  by_cases h1 : ¬ (1 ≤ n ∧ n ≤ 16)
  · rw [cdn h1]; exact sfal fun h => h1 h.1
  have h1 := Decidable.not_not.1 h1
  rw [cdp h1]
  by_cases h3 : (up.length : Int) ≠ n
  · rw [cnp h3]; exact sfal fun h => h3 h.2.1
  have h3 := Decidable.not_not.1 h3
  subst h3
  have hn : up.length ≤ 16 := by omega
  rw [cnn rfl, iLat_l0 up hn hu (fun y14 y15 y16 => some y14) _ (fun _ _ => rfl)]
  by_cases h4 : ¬ ∀ a, a < up.length → lowP up a
  · rw [if_neg h4]; exact sfal fun h => h4 h.2.2.1
  have h4 := Decidable.not_not.1 h4
  rw [if_pos h4, iOrd_eq up hn, Bool.and_true, Option.bind_some, cnotb]
  by_cases h5 : ¬ ∀ a, a < up.length → ordP up a
  · rw [cdn h5]; exact sfal fun h => h5 h.2.2.2.1
  have h5 := Decidable.not_not.1 h5
  rw [cdp h5, iLat_l1 up hn, Bool.and_true]
  exact sdec ⟨fun h => ⟨h1, rfl, h4, h5, h⟩, fun h => h.2.2.2.2⟩
theorem here_eq (n a : Int) (up : List Int) : S.l01Here n a up = some (decide (0 ≤ a ∧ a < n)) := by unfold S.l01Here; rw [cds]
theorem has_eq (n a : Int) (up : List Int) (h : 0 ≤ n ∧ n ≤ 100) : I.Lat_has n a up = some (decide (0 ≤ a ∧ a < n)) := by
  unfold I.Lat_has
  rw [in_eq, w64 (by omega) (by omega)]
  exact sdec (by omega)
def queryP (q : List TQuery) (i : Nat) : Prop := queryOk (nthI q (i : Int) ([], ([], (((0 : Int), ((0 : Int), (0 : Int))), ((0 : Int), (0 : Int)))))).2.2.1.1 (nthI q (i : Int) ([], ([], (((0 : Int), ((0 : Int), (0 : Int))), ((0 : Int), (0 : Int)))))).2.2.1.2.1 (nthI q (i : Int) ([], ([], (((0 : Int), ((0 : Int), (0 : Int))), ((0 : Int), (0 : Int)))))).2.2.1.2.2 (nthI q (i : Int) ([], ([], (((0 : Int), ((0 : Int), (0 : Int))), ((0 : Int), (0 : Int)))))).2.2.2.1 (nthI q (i : Int) ([], ([], (((0 : Int), ((0 : Int), (0 : Int))), ((0 : Int), (0 : Int)))))).2.2.2.2 (nthI q (i : Int) ([], ([], (((0 : Int), ((0 : Int), (0 : Int))), ((0 : Int), (0 : Int)))))).1 (nthI q (i : Int) ([], ([], (((0 : Int), ((0 : Int), (0 : Int))), ((0 : Int), (0 : Int)))))).2.1
instance (q : List TQuery) : DecidablePred (queryP q) := fun i => by unfold queryP; exact inferInstance
def subP (n : Int) (s : List TSub) (i : Nat) : Prop := (0 ≤ (nthI s (i : Int) ((0 : Int), ((0 : Int), (0 : Int)))).1 ∧ (nthI s (i : Int) ((0 : Int), ((0 : Int), (0 : Int)))).1 < n) ∧ (1 ≤ (nthI s (i : Int) ((0 : Int), ((0 : Int), (0 : Int)))).2.1 ∧ (nthI s (i : Int) ((0 : Int), ((0 : Int), (0 : Int)))).2.1 ≤ 50) ∧ 1 ≤ (nthI s (i : Int) ((0 : Int), ((0 : Int), (0 : Int)))).2.2 ∧ (nthI s (i : Int) ((0 : Int), ((0 : Int), (0 : Int)))).2.2 ≤ 50
instance (n : Int) (s : List TSub) : DecidablePred (subP n s) := fun i => by unfold subP; exact inferInstance
def ruleP (n k : Int) (r : List TRule) (i : Nat) : Prop := (0 ≤ (nthI r (i : Int) ((0 : Int), ((0 : Int), ((0 : Int), ((0 : Int), (0 : Int)))))).1 ∧ (nthI r (i : Int) ((0 : Int), ((0 : Int), ((0 : Int), ((0 : Int), (0 : Int)))))).1 < k) ∧ (0 ≤ (nthI r (i : Int) ((0 : Int), ((0 : Int), ((0 : Int), ((0 : Int), (0 : Int)))))).2.1 ∧ (nthI r (i : Int) ((0 : Int), ((0 : Int), ((0 : Int), ((0 : Int), (0 : Int)))))).2.1 < n) ∧ (0 ≤ (nthI r (i : Int) ((0 : Int), ((0 : Int), ((0 : Int), ((0 : Int), (0 : Int)))))).2.2.1 ∧ (nthI r (i : Int) ((0 : Int), ((0 : Int), ((0 : Int), ((0 : Int), (0 : Int)))))).2.2.1 < n) ∧ (1 ≤ (nthI r (i : Int) ((0 : Int), ((0 : Int), ((0 : Int), ((0 : Int), (0 : Int)))))).2.2.2.1 ∧ (nthI r (i : Int) ((0 : Int), ((0 : Int), ((0 : Int), ((0 : Int), (0 : Int)))))).2.2.2.1 ≤ 1000000) ∧ 0 ≤ (nthI r (i : Int) ((0 : Int), ((0 : Int), ((0 : Int), ((0 : Int), (0 : Int)))))).2.2.2.2 ∧ (nthI r (i : Int) ((0 : Int), ((0 : Int), ((0 : Int), ((0 : Int), (0 : Int)))))).2.2.2.2 ≤ 20
instance (n k : Int) (r : List TRule) : DecidablePred (ruleP n k r) := fun i => by unfold ruleP; exact inferInstance
def confOk (n src quo : Int) (up : List Int) (q : List TQuery) (s : List TSub) (r : List TRule) : Prop :=
  latOk n up ∧ (1 ≤ src ∧ src ≤ 4) ∧ (1 ≤ quo ∧ quo ≤ 30) ∧ (1 ≤ q.length ∧ q.length ≤ 4) ∧ (1 ≤ s.length ∧ s.length ≤ 4) ∧ r.length ≤ 3 ∧
    (∀ i, i < q.length → queryP q i) ∧ (∀ i, i < s.length → subP n s i) ∧ ∀ i, i < r.length → ruleP n (q.length : Int) r i
instance (n src quo : Int) (up : List Int) (q : List TQuery) (s : List TSub) (r : List TRule) : Decidable (confOk n src quo up q s r) := by unfold confOk; exact inferInstance
def queryW (q : List TQuery) : Prop := ∀ x ∈ q, (-9223372036854775808 ≤ x.2.2.1.2.2 ∧ x.2.2.1.2.2 < 9223372036854775808) ∧ x.1.length ≤ 1000000000000 ∧ x.2.1.length ≤ 1000000000000
theorem capS_eq (a : Int) : S.l10Cap a = some (decide (1 ≤ a ∧ a ≤ 50)) := by unfold S.l10Cap; rw [cds]
theorem capI_eq (a : Int) : I.isCap a = some (decide (1 ≤ a ∧ a ≤ 50)) := by unfold I.isCap; rw [in_eq]; rfl
theorem l11Query_eq (a b c d : Int) (up : List Int) (q : List TQuery) (s : List TSub) (r : List TRule) : S.l11Query a b c d up q s r = some (decide (0 ≤ a ∧ a < (q.length : Int))) := by unfold S.l11Query; rw [cds]
section
variable (n src quo : Int) (up : List Int) (q : List TQuery) (s : List TSub) (r : List TRule) (hn : 1 ≤ n ∧ n ≤ 16) (hq : 1 ≤ q.length ∧ q.length ≤ 4) (hs : s.length ≤ 4) (hr : r.length ≤ 3) (hw : queryW q)
include hn hq hs hr hw
theorem sConf_l0 (e0 : Bool → Int → Int → Int → List Int → List TQuery → List TSub → List TRule → Option Bool) (e1 : Int → Int → Int → List Int → List TQuery → List TSub → List TRule → Option Bool) (he : ∀ a b c u v w x, e0 false a b c u v w x = some false) :
    S.ConfOk_l0 fu e0 e1 0 n src quo up q s r = if ∀ i, i < q.length → queryP q i then e1 n src quo up q s r else some false := by
  refine allLoopK (fun m i => S.ConfOk_l0 m e0 e1 i n src quo up q s r) q.length (queryP q) _ (by omega) (fun i m hi => ?_) (fun m => ?_)
  · show S.ConfOk_l0 (m + 1) _ _ _ _ _ _ _ _ _ _ = bif _ then S.ConfOk_l0 m _ _ _ _ _ _ _ _ _ _ else _
    have h1 := hw _ (nthI_mem q i ([], ([], (((0 : Int), ((0 : Int), (0 : Int))), ((0 : Int), (0 : Int))))) hi)
    rw [S.ConfOk_l0, cdp (by omega), cdp (show (0 : Int) ≤ (i : Int) ∧ (i : Int) < (q.length : Int) by omega), sQueryOk_eq _ _ _ _ _ _ _ h1.1.1 h1.1.2, Option.bind_some, he, cnotb, w64 (by omega) (by omega)]
    rfl
  · show S.ConfOk_l0 (m + 1) _ _ _ _ _ _ _ _ _ _ = _
    rw [S.ConfOk_l0, cdn (by omega)]
theorem sConf_l1 (e0 : Bool → Int → Int → Int → List Int → List TQuery → List TSub → List TRule → Option Bool) (e1 : Int → Int → Int → List Int → List TQuery → List TSub → List TRule → Option Bool) (he : ∀ a b c u v w x, e0 false a b c u v w x = some false) :
    S.ConfOk_l1 fu e0 e1 0 n src quo up q s r = if ∀ i, i < s.length → subP n s i then e1 n src quo up q s r else some false := by
  refine allLoopK (fun m i => S.ConfOk_l1 m e0 e1 i n src quo up q s r) s.length (subP n s) _ (by omega) (fun i m hi => ?_) (fun m => ?_)
  · show S.ConfOk_l1 (m + 1) _ _ _ _ _ _ _ _ _ _ = bif _ then S.ConfOk_l1 m _ _ _ _ _ _ _ _ _ _ else _
    rw [S.ConfOk_l1, cdp (by omega), cdp (show (0 : Int) ≤ (i : Int) ∧ (i : Int) < (s.length : Int) by omega)]
    simp only [here_eq, capS_eq, Option.bind_some, he]
    rw [w64 (by omega) (by omega), cnotb, cnotb, cnotb]
    by_cases c1 : 0 ≤ (nthI s (i : Int) ((0 : Int), ((0 : Int), (0 : Int)))).1 ∧ (nthI s (i : Int) ((0 : Int), ((0 : Int), (0 : Int)))).1 < n
    · rw [cdp c1]
      by_cases c2 : 1 ≤ (nthI s (i : Int) ((0 : Int), ((0 : Int), (0 : Int)))).2.1 ∧ (nthI s (i : Int) ((0 : Int), ((0 : Int), (0 : Int)))).2.1 ≤ 50
      · rw [cdp c2]
        by_cases c3 : 1 ≤ (nthI s (i : Int) ((0 : Int), ((0 : Int), (0 : Int)))).2.2 ∧ (nthI s (i : Int) ((0 : Int), ((0 : Int), (0 : Int)))).2.2 ≤ 50
        · rw [cdp c3, cdp (show subP n s i from ⟨c1, c2, c3⟩)]; rfl
        · rw [cdn c3, cdn (fun h : subP n s i => c3 h.2.2)]
      · rw [cdn c2, cdn (fun h : subP n s i => c2 h.2.1)]
    · rw [cdn c1, cdn (fun h : subP n s i => c1 h.1)]
  · show S.ConfOk_l1 (m + 1) _ _ _ _ _ _ _ _ _ _ = _
    rw [S.ConfOk_l1, cdn (by omega)]
theorem sConf_l2 : S.ConfOk_l2 fu (fun y => some y) (some true) 0 n src quo up q s r = some (decide (∀ i, i < r.length → ruleP n (q.length : Int) r i) && true) := by
  refine allLoop (fun m i => S.ConfOk_l2 m (fun y => some y) (some true) i n src quo up q s r) r.length (ruleP n (q.length : Int) r) true (by omega) (fun i m hi => ?_) (fun m => ?_)
  · show S.ConfOk_l2 (m + 1) _ _ _ _ _ _ _ _ _ _ = bif _ then S.ConfOk_l2 m _ _ _ _ _ _ _ _ _ _ else _
    rw [S.ConfOk_l2, cdp (by omega), cdp (show (0 : Int) ≤ (i : Int) ∧ (i : Int) < (r.length : Int) by omega)]
    simp only [here_eq, l11Query_eq, Option.bind_some]
    rw [w64 (by omega) (by omega), cnotb, cnotb, cnotb]
    by_cases c1 : 0 ≤ (nthI r (i : Int) ((0 : Int), ((0 : Int), ((0 : Int), ((0 : Int), (0 : Int)))))).1 ∧ (nthI r (i : Int) ((0 : Int), ((0 : Int), ((0 : Int), ((0 : Int), (0 : Int)))))).1 < (q.length : Int)
    · rw [cdp c1]
      by_cases c2 : 0 ≤ (nthI r (i : Int) ((0 : Int), ((0 : Int), ((0 : Int), ((0 : Int), (0 : Int)))))).2.1 ∧ (nthI r (i : Int) ((0 : Int), ((0 : Int), ((0 : Int), ((0 : Int), (0 : Int)))))).2.1 < n
      · rw [cdp c2]
        by_cases c3 : 0 ≤ (nthI r (i : Int) ((0 : Int), ((0 : Int), ((0 : Int), ((0 : Int), (0 : Int)))))).2.2.1 ∧ (nthI r (i : Int) ((0 : Int), ((0 : Int), ((0 : Int), ((0 : Int), (0 : Int)))))).2.2.1 < n
        · rw [cdp c3]
          by_cases c4 : (nthI r (i : Int) ((0 : Int), ((0 : Int), ((0 : Int), ((0 : Int), (0 : Int)))))).2.2.2.1 < 1
          · rw [cdp c4, cdn (fun h : ruleP n (q.length : Int) r i => by have := h.2.2.2.1; omega)]
          rw [cdn c4]
          by_cases c5 : 1000000 < (nthI r (i : Int) ((0 : Int), ((0 : Int), ((0 : Int), ((0 : Int), (0 : Int)))))).2.2.2.1
          · rw [cdp c5, cdn (fun h : ruleP n (q.length : Int) r i => by have := h.2.2.2.1; omega)]
          rw [cdn c5]
          by_cases c6 : (nthI r (i : Int) ((0 : Int), ((0 : Int), ((0 : Int), ((0 : Int), (0 : Int)))))).2.2.2.2 < 0
          · rw [cdp c6, cdn (fun h : ruleP n (q.length : Int) r i => by have := h.2.2.2.2; omega)]
          rw [cdn c6]
          by_cases c7 : 20 < (nthI r (i : Int) ((0 : Int), ((0 : Int), ((0 : Int), ((0 : Int), (0 : Int)))))).2.2.2.2
          · rw [cdp c7, cdn (fun h : ruleP n (q.length : Int) r i => by have := h.2.2.2.2; omega)]
          rw [cdn c7, cdp (show ruleP n (q.length : Int) r i from ⟨c1, c2, c3, by omega, by omega⟩)]
          rfl
        · rw [cdn c3, cdn (fun h : ruleP n (q.length : Int) r i => c3 h.2.2.1)]
      · rw [cdn c2, cdn (fun h : ruleP n (q.length : Int) r i => c2 h.2.1)]
    · rw [cdn c1, cdn (fun h : ruleP n (q.length : Int) r i => c1 h.1)]
  · show S.ConfOk_l2 (m + 1) _ _ _ _ _ _ _ _ _ _ = _
    rw [S.ConfOk_l2, cdn (by omega)]
theorem iConf_l0 (e0 : Bool → Int → Int → Int → List Int → List TQuery → List TSub → List TRule → Option Bool) (e1 : Int → Int → Int → List Int → List TQuery → List TSub → List TRule → Option Bool) (he : ∀ a b c u v w x, e0 false a b c u v w x = some false) :
    I.isConf_l0 fu e0 e1 (q.length : Int) 0 n src quo q up s r = if ∀ i, i < q.length → queryP q i then e1 n src quo up q s r else some false := by
  refine allLoopK (fun m i => I.isConf_l0 m e0 e1 (q.length : Int) i n src quo q up s r) q.length (queryP q) _ (by omega) (fun i m hi => ?_) (fun m => ?_)
  · show I.isConf_l0 (m + 1) _ _ _ _ _ _ _ _ _ _ _ = bif _ then I.isConf_l0 m _ _ _ _ _ _ _ _ _ _ _ else _
    have h1 := hw _ (nthI_mem q i ([], ([], (((0 : Int), ((0 : Int), (0 : Int))), ((0 : Int), (0 : Int))))) hi)
    rw [I.isConf_l0, cdp (by omega), cdp (show (0 : Int) ≤ (i : Int) ∧ (i : Int) < (q.length : Int) by omega), iQueryOk_eq _ _ _ _ _ _ _ h1.1.1 h1.1.2 h1.2.1 h1.2.2, Option.bind_some, he, cnotb, w64 (by omega) (by omega)]
    rfl
  · show I.isConf_l0 (m + 1) _ _ _ _ _ _ _ _ _ _ _ = _
    rw [I.isConf_l0, cdn (by omega)]
theorem iConf_l1 (e0 : Bool → Int → Int → Int → List Int → List TQuery → List TSub → List TRule → Option Bool) (e1 : Int → Int → Int → List Int → List TQuery → List TSub → List TRule → Option Bool) (he : ∀ a b c u v w x, e0 false a b c u v w x = some false) :
    I.isConf_l1 fu e0 e1 (s.length : Int) 0 n src quo s up q r = if ∀ i, i < s.length → subP n s i then e1 n src quo up q s r else some false := by
  refine allLoopK (fun m i => I.isConf_l1 m e0 e1 (s.length : Int) i n src quo s up q r) s.length (subP n s) _ (by omega) (fun i m hi => ?_) (fun m => ?_)
  · show I.isConf_l1 (m + 1) _ _ _ _ _ _ _ _ _ _ _ = bif _ then I.isConf_l1 m _ _ _ _ _ _ _ _ _ _ _ else _
    rw [I.isConf_l1, cdp (by omega), cdp (show (0 : Int) ≤ (i : Int) ∧ (i : Int) < (s.length : Int) by omega)]
    simp only [has_eq n _ up ⟨by omega, by omega⟩, capI_eq, Option.bind_some, he]
    rw [w64 (by omega) (by omega), cnotb, cnotb, cnotb]
    by_cases c1 : 0 ≤ (nthI s (i : Int) ((0 : Int), ((0 : Int), (0 : Int)))).1 ∧ (nthI s (i : Int) ((0 : Int), ((0 : Int), (0 : Int)))).1 < n
    · rw [cdp c1]
      by_cases c2 : 1 ≤ (nthI s (i : Int) ((0 : Int), ((0 : Int), (0 : Int)))).2.1 ∧ (nthI s (i : Int) ((0 : Int), ((0 : Int), (0 : Int)))).2.1 ≤ 50
      · rw [cdp c2]
        by_cases c3 : 1 ≤ (nthI s (i : Int) ((0 : Int), ((0 : Int), (0 : Int)))).2.2 ∧ (nthI s (i : Int) ((0 : Int), ((0 : Int), (0 : Int)))).2.2 ≤ 50
        · rw [cdp c3, cdp (show subP n s i from ⟨c1, c2, c3⟩)]; rfl
        · rw [cdn c3, cdn (fun h : subP n s i => c3 h.2.2)]
      · rw [cdn c2, cdn (fun h : subP n s i => c2 h.2.1)]
    · rw [cdn c1, cdn (fun h : subP n s i => c1 h.1)]
  · show I.isConf_l1 (m + 1) _ _ _ _ _ _ _ _ _ _ _ = _
    rw [I.isConf_l1, cdn (by omega)]
theorem iConf_l2 : I.isConf_l2 fu (fun y => some y) (some true) (r.length : Int) 0 n src quo r up q s = some (decide (∀ i, i < r.length → ruleP n (q.length : Int) r i) && true) := by
  refine allLoop (fun m i => I.isConf_l2 m (fun y => some y) (some true) (r.length : Int) i n src quo r up q s) r.length (ruleP n (q.length : Int) r) true (by omega) (fun i m hi => ?_) (fun m => ?_)
  · show I.isConf_l2 (m + 1) _ _ _ _ _ _ _ _ _ _ _ = bif _ then I.isConf_l2 m _ _ _ _ _ _ _ _ _ _ _ else _
    rw [I.isConf_l2, cdp (by omega), cdp (show (0 : Int) ≤ (i : Int) ∧ (i : Int) < (r.length : Int) by omega)]
    simp only [has_eq n _ up ⟨by omega, by omega⟩, in_eq, Option.bind_some]
    rw [w64 (n := (i : Int) + 1) (by omega) (by omega), w64 (n := (q.length : Int) - 1) (by omega) (by omega), cnotb, cnotb, cnotb, cnotb, cnotb]
    by_cases c1 : 0 ≤ (nthI r (i : Int) ((0 : Int), ((0 : Int), ((0 : Int), ((0 : Int), (0 : Int)))))).1 ∧ (nthI r (i : Int) ((0 : Int), ((0 : Int), ((0 : Int), ((0 : Int), (0 : Int)))))).1 ≤ (q.length : Int) - 1
    · rw [cdp c1]
      by_cases c2 : 0 ≤ (nthI r (i : Int) ((0 : Int), ((0 : Int), ((0 : Int), ((0 : Int), (0 : Int)))))).2.1 ∧ (nthI r (i : Int) ((0 : Int), ((0 : Int), ((0 : Int), ((0 : Int), (0 : Int)))))).2.1 < n
      · rw [cdp c2]
        by_cases c3 : 0 ≤ (nthI r (i : Int) ((0 : Int), ((0 : Int), ((0 : Int), ((0 : Int), (0 : Int)))))).2.2.1 ∧ (nthI r (i : Int) ((0 : Int), ((0 : Int), ((0 : Int), ((0 : Int), (0 : Int)))))).2.2.1 < n
        · rw [cdp c3]
          by_cases c4 : 1 ≤ (nthI r (i : Int) ((0 : Int), ((0 : Int), ((0 : Int), ((0 : Int), (0 : Int)))))).2.2.2.1 ∧ (nthI r (i : Int) ((0 : Int), ((0 : Int), ((0 : Int), ((0 : Int), (0 : Int)))))).2.2.2.1 ≤ 1000000
          · rw [cdp c4]
            by_cases c5 : 0 ≤ (nthI r (i : Int) ((0 : Int), ((0 : Int), ((0 : Int), ((0 : Int), (0 : Int)))))).2.2.2.2 ∧ (nthI r (i : Int) ((0 : Int), ((0 : Int), ((0 : Int), ((0 : Int), (0 : Int)))))).2.2.2.2 ≤ 20
            · rw [cdp c5, cdp (show ruleP n (q.length : Int) r i from ⟨by omega, c2, c3, c4, c5⟩)]; rfl
            · rw [cdn c5, cdn (fun h : ruleP n (q.length : Int) r i => c5 h.2.2.2.2)]
          · rw [cdn c4, cdn (fun h : ruleP n (q.length : Int) r i => c4 h.2.2.2.1)]
        · rw [cdn c3, cdn (fun h : ruleP n (q.length : Int) r i => c3 h.2.2.1)]
      · rw [cdn c2, cdn (fun h : ruleP n (q.length : Int) r i => c2 h.2.1)]
    · rw [cdn c1, cdn (fun h : ruleP n (q.length : Int) r i => c1 ⟨h.1.1, by have := h.1.2; omega⟩)]
  · show I.isConf_l2 (m + 1) _ _ _ _ _ _ _ _ _ _ _ = _
    rw [I.isConf_l2, cdn (by omega)]
end
theorem sConfOk_eq (n src quo : Int) (up : List Int) (q : List TQuery) (s : List TSub) (r : List TRule) (hw : queryW q) : S.ConfOk n src quo up q s r = some (decide (confOk n src quo up q s r)) := by
  unfold S.ConfOk
  rw [sLatOk_eq, Option.bind_some, cnotb]
  by_cases c1 : ¬ latOk n up
  · rw [cdn c1]; exact sfal fun h => c1 h.1
  have c1 := Decidable.not_not.1 c1
  rw [cdp c1]
  by_cases c2 : src < 1
  · rw [cdp c2]; exact sfal fun h => by have := h.2.1; omega
  rw [cdn c2]
  by_cases c3 : 4 < src
  · rw [cdp c3]; exact sfal fun h => by have := h.2.1; omega
  rw [cdn c3]
  by_cases c4 : quo < 1
  · rw [cdp c4]; exact sfal fun h => by have := h.2.2.1; omega
  rw [cdn c4]
  by_cases c5 : 30 < quo
  · rw [cdp c5]; exact sfal fun h => by have := h.2.2.1; omega
  rw [cdn c5]
  by_cases c6 : (q.length : Int) < 1
  · rw [cdp c6]; exact sfal fun h => by have := h.2.2.2.1; omega
  rw [cdn c6]
  by_cases c7 : 4 < (q.length : Int)
  · rw [cdp c7]; exact sfal fun h => by have := h.2.2.2.1; omega
  rw [cdn c7]
  by_cases c8 : (s.length : Int) < 1
  · rw [cdp c8]; exact sfal fun h => by have := h.2.2.2.2.1; omega
  rw [cdn c8]
  by_cases c9 : 4 < (s.length : Int)
  · rw [cdp c9]; exact sfal fun h => by have := h.2.2.2.2.1; omega
  rw [cdn c9]
  by_cases c10 : 3 < (r.length : Int)
  · rw [cdp c10]; exact sfal fun h => by have := h.2.2.2.2.2.1; omega
  rw [cdn c10, sConf_l0 n src quo up q s r c1.1 (by omega) (by omega) (by omega) hw (fun y35 y36 y37 y38 y39 y40 y41 y42 => some y35) _ (fun _ _ _ _ _ _ _ => rfl)]
  by_cases c11 : ¬ ∀ i, i < q.length → queryP q i
  · rw [if_neg c11]; exact sfal fun h => c11 h.2.2.2.2.2.2.1
  have c11 := Decidable.not_not.1 c11
  rw [if_pos c11, sConf_l1 n src quo up q s r c1.1 (by omega) (by omega) (by omega) hw (fun y35 y36 y37 y38 y39 y40 y41 y42 => some y35) _ (fun _ _ _ _ _ _ _ => rfl)]
  by_cases c12 : ¬ ∀ i, i < s.length → subP n s i
  · rw [if_neg c12]; exact sfal fun h => c12 h.2.2.2.2.2.2.2.1
  have c12 := Decidable.not_not.1 c12
  rw [if_pos c12, sConf_l2 n src quo up q s r c1.1 (by omega) (by omega) (by omega) hw, Bool.and_true]
  exact sdec ⟨fun h => ⟨c1, by omega, by omega, by omega, by omega, by omega, c11, c12, h⟩, fun h => h.2.2.2.2.2.2.2.2⟩
theorem iConfOk_eq (n src quo : Int) (up : List Int) (q : List TQuery) (s : List TSub) (r : List TRule) (hw : queryW q) (hu : ∀ y ∈ up, (Lit.int .u64 y).wf = true) : I.isConf n src quo up q s r = some (decide (confOk n src quo up q s r)) := by
  unfold I.isConf
  rw [iLatOk_eq n up hu]
  simp only [in_eq, Option.bind_some, cnotb]
  by_cases c1 : ¬ latOk n up
  · rw [cdn c1]; exact sfal fun h => c1 h.1
  have c1 := Decidable.not_not.1 c1
  rw [cdp c1]
  by_cases c2 : ¬ (1 ≤ src ∧ src ≤ 4)
  · rw [cdn c2]; exact sfal fun h => c2 h.2.1
  have c2 := Decidable.not_not.1 c2
  rw [cdp c2]
  by_cases c4 : ¬ (1 ≤ quo ∧ quo ≤ 30)
  · rw [cdn c4]; exact sfal fun h => c4 h.2.2.1
  have c4 := Decidable.not_not.1 c4
  rw [cdp c4]
  by_cases c6 : ¬ (1 ≤ (q.length : Int) ∧ (q.length : Int) ≤ 4)
  · rw [cdn c6]; exact sfal fun h => by have := h.2.2.2.1; omega
  have c6 := Decidable.not_not.1 c6
  rw [cdp c6]
  by_cases c8 : ¬ (1 ≤ (s.length : Int) ∧ (s.length : Int) ≤ 4)
  · rw [cdn c8]; exact sfal fun h => by have := h.2.2.2.2.1; omega
  have c8 := Decidable.not_not.1 c8
  rw [cdp c8]
  by_cases c10 : 3 < (r.length : Int)
  · rw [cdp c10]; exact sfal fun h => by have := h.2.2.2.2.2.1; omega
  rw [cdn c10, iConf_l0 n src quo up q s r c1.1 (by omega) (by omega) (by omega) hw (fun y35 y36 y37 y38 y39 y40 y41 y42 => some y35) _ (fun _ _ _ _ _ _ _ => rfl)]
  by_cases c11 : ¬ ∀ i, i < q.length → queryP q i
  · rw [if_neg c11]; exact sfal fun h => c11 h.2.2.2.2.2.2.1
  have c11 := Decidable.not_not.1 c11
  rw [if_pos c11, iConf_l1 n src quo up q s r c1.1 (by omega) (by omega) (by omega) hw (fun y35 y36 y37 y38 y39 y40 y41 y42 => some y35) _ (fun _ _ _ _ _ _ _ => rfl)]
  by_cases c12 : ¬ ∀ i, i < s.length → subP n s i
  · rw [if_neg c12]; exact sfal fun h => c12 h.2.2.2.2.2.2.2.1
  have c12 := Decidable.not_not.1 c12
  rw [if_pos c12, iConf_l2 n src quo up q s r c1.1 (by omega) (by omega) (by omega) hw, Bool.and_true]
  exact sdec ⟨fun h => ⟨c1, c2, c4, by omega, by omega, by omega, c11, c12, h⟩, fun h => h.2.2.2.2.2.2.2.2⟩
theorem filterLoop {β γ : Type} (F : Nat → Int → List β → Option γ) (n : Nat) (p : Nat → Bool) (g : Nat → β) (E : List β → Option γ) (hn : n ≤ 1000000000000)
    (hs : ∀ (i m : Nat) (acc : List β), i < n → acc.length ≤ i → F (m + 1) (i : Int) acc = bif p i then F m ((i + 1 : Nat) : Int) (acc ++ [g i]) else F m ((i + 1 : Nat) : Int) acc)
    (he : ∀ (m : Nat) (acc : List β), F (m + 1) (n : Int) acc = E acc) : F fu 0 [] = E (((List.range n).filter p).map g) := by
  obtain ⟨M, hM⟩ := fu_ge n hn
  have h1 : ∀ k i : Nat, ∀ acc : List β, i + k = n → acc.length ≤ i → F (k + 1 + M) (i : Int) acc = E (acc ++ ((List.range' i k).filter p).map g) := by
    intro k
    induction k with
    | zero =>
      intro i acc hi ha
      obtain rfl : i = n := by omega
      rw [show 0 + 1 + M = M + 1 from by omega, he]
      simp
    | succ k ih =>
      intro i acc hi ha
      rw [show k + 1 + 1 + M = (k + 1 + M) + 1 from by omega, List.range'_succ, List.filter_cons, hs i _ acc (by omega) ha]
      cases hp : p i with
      | true =>
        rw [cond_true, ih (i + 1) _ (by omega) (by simp; omega)]
        simp
      | false =>
        rw [cond_false, ih (i + 1) _ (by omega) (by omega)]
        simp
  rw [hM, List.range_eq_range']
  exact h1 n 0 [] (by omega) (by simp)
theorem range_nth {α : Type} (a : List α) (d : α) : ((List.range a.length).filter fun _ => true).map (fun i : Nat => nthI a (i : Int) d) = a := by
  rw [List.filter_eq_self.2 (fun _ _ => rfl)]
  apply List.ext_getElem?
  intro i
  rw [List.getElem?_map]
  by_cases h : i < a.length
  · rw [List.getElem?_range h, List.getElem?_eq_getElem h, Option.map_some, nthI_nat, List.getD_eq_getElem?_getD, List.getElem?_eq_getElem h]
    rfl
  · rw [List.getElem?_eq_none (by simp; omega), List.getElem?_eq_none (by omega)]
    rfl
theorem copyLoop {α γ : Type} (F : Nat → Int → List α → Option γ) (a : List α) (d : α) (E : List α → Option γ) (hn : a.length ≤ 1000000000000)
    (hs : ∀ (i m : Nat) (acc : List α), i < a.length → acc.length ≤ i → F (m + 1) (i : Int) acc = F m ((i + 1 : Nat) : Int) (acc ++ [nthI a (i : Int) d]))
    (he : ∀ (m : Nat) (acc : List α), F (m + 1) (a.length : Int) acc = E acc) : F fu 0 [] = E a := by
  have := filterLoop F a.length (fun _ => true) (fun i => nthI a (i : Int) d) E hn (fun i m acc h1 h2 => hs i m acc h1 h2) he
  rw [this, range_nth]
abbrev markD : TMark := ((0 : Int), false)
def stepL (x : Int) (k : TMark) : Int := bif !k.2 then (bif decide (x < 0) then k.1 else (bif decide (k.1 < x) then k.1 else x)) else x
def leastF (l : List TMark) : Int := (List.range l.length).foldl (fun (x : Int) (i : Nat) => stepL x (nthI l (i : Int) markD)) (-1)
def mostF (l : List TMark) (x : Int) : Int := (List.range l.length).foldl (fun (x : Int) (i : Nat) => max x (nthI l (i : Int) markD).1) x
def timesP (l : List TMark) (i : Nat) : Prop := 0 ≤ (nthI l (i : Int) markD).1 ∧ (nthI l (i : Int) markD).1 ≤ 1000
instance (l : List TMark) : DecidablePred (timesP l) := fun i => by unfold timesP; exact inferInstance
def marksOk (g : Int) (l : List TMark) : Prop := (1 ≤ l.length ∧ l.length ≤ 4) ∧ (0 ≤ g ∧ g ≤ 1000) ∧ (∀ i, i < l.length → timesP l i) ∧ leastF l ≤ g ∧ g ≤ mostF l (-1)
instance (g : Int) (l : List TMark) : Decidable (marksOk g l) := by unfold marksOk; exact inferInstance
def paneOk (p : TPane) : Prop := (0 ≤ p.1 ∧ p.1 ≤ 3) ∧ (0 ≤ p.2.1 ∧ p.2.1 ≤ 15) ∧ (0 ≤ p.2.2.1 ∧ p.2.2.1 < p.2.2.2.1 ∧ p.2.2.2.1 ≤ 1100) ∧ (0 ≤ p.2.2.2.2.1 ∧ p.2.2.2.2.1 ≤ 15) ∧ (1 ≤ p.2.2.2.2.2.1 ∧ p.2.2.2.2.2.1 ≤ 1000000) ∧ p.2.2.2.2.2.2.1.length ≤ 4 ∧ (((p.2.2.2.2.2.2.1.length : Int) == 0) == p.2.2.2.2.2.2.2) = true
instance (p : TPane) : Decidable (paneOk p) := by unfold paneOk; exact inferInstance
def itemP (nx : Int) (a : List TItem) (i : Nat) : Prop := (nthI a (i : Int) ((0 : Int), ((0 : Int), ((0 : Int), ((0 : Int), ((0 : Int), ((0 : Int), ((0 : Int), ((0 : Int), ([], false)))))))))).1 = nx - (a.length : Int) + (i : Int) ∧ (-1 ≤ (nthI a (i : Int) ((0 : Int), ((0 : Int), ((0 : Int), ((0 : Int), ((0 : Int), ((0 : Int), ((0 : Int), ((0 : Int), ([], false)))))))))).2.1 ∧ (nthI a (i : Int) ((0 : Int), ((0 : Int), ((0 : Int), ((0 : Int), ((0 : Int), ((0 : Int), ((0 : Int), ((0 : Int), ([], false)))))))))).2.1 ≤ 15) ∧ paneOk (nthI a (i : Int) ((0 : Int), ((0 : Int), ((0 : Int), ((0 : Int), ((0 : Int), ((0 : Int), ((0 : Int), ((0 : Int), ([], false)))))))))).2.2
instance (nx : Int) (a : List TItem) : DecidablePred (itemP nx a) := fun i => by unfold itemP; exact inferInstance
def recP (nx : Int) (a : List TRec) (i : Nat) : Prop := (nthI a (i : Int) ((0 : Int), ((0 : Int), (0 : Int)))).1 = nx - (a.length : Int) + (i : Int) ∧ (-1 ≤ (nthI a (i : Int) ((0 : Int), ((0 : Int), (0 : Int)))).2.1 ∧ (nthI a (i : Int) ((0 : Int), ((0 : Int), (0 : Int)))).2.1 ≤ 15) ∧ (0 ≤ (nthI a (i : Int) ((0 : Int), ((0 : Int), (0 : Int)))).2.2 ∧ (nthI a (i : Int) ((0 : Int), ((0 : Int), (0 : Int)))).2.2 ≤ 15)
instance (nx : Int) (a : List TRec) : DecidablePred (recP nx a) := fun i => by unfold recP; exact inferInstance
def bothP (a : List TItem) (b : List TRec) (i : Nat) : Prop := (nthI a ((a.length - 1 - i : Nat) : Int) ((0 : Int), ((0 : Int), ((0 : Int), ((0 : Int), ((0 : Int), ((0 : Int), ((0 : Int), ((0 : Int), ([], false)))))))))).2.1 = (nthI b ((b.length - 1 - i : Nat) : Int) ((0 : Int), ((0 : Int), (0 : Int)))).2.1 ∧ (nthI a ((a.length - 1 - i : Nat) : Int) ((0 : Int), ((0 : Int), ((0 : Int), ((0 : Int), ((0 : Int), ((0 : Int), ((0 : Int), ((0 : Int), ([], false)))))))))).2.2.2.2.2.2.1 = (nthI b ((b.length - 1 - i : Nat) : Int) ((0 : Int), ((0 : Int), (0 : Int)))).2.2
instance (a : List TItem) (b : List TRec) : DecidablePred (bothP a b) := fun i => by unfold bothP; exact inferInstance
def boxOk (c u nx g : Int) (a : List TItem) (b : List TRec) : Prop :=
  (1 ≤ c ∧ c ≤ 50) ∧ (1 ≤ u ∧ u ≤ 50) ∧ (0 ≤ nx ∧ nx ≤ 1000000) ∧ (0 ≤ g ∧ g ≤ 1000000) ∧ (a.length : Int) ≤ c ∧ (b.length : Int) ≤ u ∧ (a.length : Int) ≤ nx ∧ (b.length : Int) ≤ nx ∧
  (∀ i, i < a.length → itemP nx a i) ∧ (∀ i, i < b.length → recP nx b i) ∧ (∀ i, i < min a.length b.length → bothP a b i)
instance (c u nx g : Int) (a : List TItem) (b : List TRec) : Decidable (boxOk c u nx g a b) := by unfold boxOk; exact inferInstance
section
variable (c u nx g : Int) (a : List TItem) (b : List TRec) (ha : a.length ≤ 50) (hb : b.length ≤ 50) (hx : 0 ≤ nx ∧ nx ≤ 1000000)
include ha hb hx
def meetP (a : List TItem) (r : TRec) (k : Nat) : Prop := (nthI a (k : Int) ((0 : Int), ((0 : Int), ((0 : Int), ((0 : Int), ((0 : Int), ((0 : Int), ((0 : Int), ((0 : Int), ([], false)))))))))).1 = r.1 → (nthI a (k : Int) ((0 : Int), ((0 : Int), ((0 : Int), ((0 : Int), ((0 : Int), ((0 : Int), ((0 : Int), ((0 : Int), ([], false)))))))))).2.1 = r.2.1 ∧ (nthI a (k : Int) ((0 : Int), ((0 : Int), ((0 : Int), ((0 : Int), ((0 : Int), ((0 : Int), ((0 : Int), ((0 : Int), ([], false)))))))))).2.2.2.2.2.2.1 = r.2.2
instance (a : List TItem) (r : TRec) : DecidablePred (meetP a r) := fun i => by unfold meetP; exact inferInstance
end
theorem cloneTok_eq (a : List TTok) (h : a.length ≤ 1048576) : G.slices.Clone_Tok a = some a := by
  unfold G.slices.Clone_Tok
  by_cases h0 : a.length = 0
  · obtain rfl := List.eq_nil_of_length_eq_zero h0
    rw [cdp h0, cdp (by simp only [List.length_nil]; omega)]
    exact same_self _
  · rw [cdn h0, List.nil_append, cdp (by simp only [List.length_nil]; omega)]
theorem cloneU64_eq (a : List Int) (h : a.length ≤ 1048576) : G.slices.Clone_uint64 a = some a := by
  unfold G.slices.Clone_uint64
  by_cases h0 : a.length = 0
  · obtain rfl := List.eq_nil_of_length_eq_zero h0
    rw [cdp h0, cdp (by simp only [List.length_nil]; omega)]
    exact same_self _
  · rw [cdn h0, List.nil_append, cdp (by simp only [List.length_nil]; omega)]
theorem cloneSub_eq (a : List TSub) (h : a.length ≤ 1048576) : G.slices.Clone_Sub a = some a := by
  unfold G.slices.Clone_Sub
  by_cases h0 : a.length = 0
  · obtain rfl := List.eq_nil_of_length_eq_zero h0
    rw [cdp h0, cdp (by simp only [List.length_nil]; omega)]
    exact same_self _
  · rw [cdn h0, List.nil_append, cdp (by simp only [List.length_nil]; omega)]
theorem cloneRule_eq (a : List TRule) (h : a.length ≤ 1048576) : G.slices.Clone_Rule a = some a := by
  unfold G.slices.Clone_Rule
  by_cases h0 : a.length = 0
  · obtain rfl := List.eq_nil_of_length_eq_zero h0
    rw [cdp h0, cdp (by simp only [List.length_nil]; omega)]
    exact same_self _
  · rw [cdn h0, List.nil_append, cdp (by simp only [List.length_nil]; omega)]
theorem toks_eq (a : List TTok) (h : a.length ≤ 1048576) : S.l11Toks a = some a := by
  unfold S.l11Toks
  rw [List.nil_append, cdp (by simp only [List.length_nil]; omega)]
abbrev queryD : TQuery := ([], ([], (((0 : Int), ((0 : Int), (0 : Int))), ((0 : Int), (0 : Int)))))
abbrev subD : TSub := ((0 : Int), ((0 : Int), (0 : Int)))
section
variable (n src quo : Int) (up : List Int) (q : List TQuery) (s : List TSub) (r : List TRule) (h1 : up.length ≤ 1048576) (h2 : cQueryS q ≤ 1048576) (h3 : s.length ≤ 1048576) (h4 : r.length ≤ 1048576)
include h1 h2 h3 h4
theorem sConf_copy : S.l11Conf n src quo up q s r = some (n, src, quo, up, q, s, r) := by
  have hq : q.length ≤ 1048576 := by unfold cQueryS at h2; omega
  unfold S.l11Conf
  rw [cdp (by simp only [List.length_nil]; omega), List.nil_append]
  refine (copyLoop (fun m i acc => S.l11Conf_l0 m _ i n src quo 0 0 0 n src quo up q s r up acc) q queryD (fun acc => some (n, src, quo, up, acc, s, r)) (by omega) (fun i m acc hi hacc => ?_) (fun m acc => ?_))
  · show S.l11Conf_l0 (m + 1) _ _ _ _ _ _ _ _ _ _ _ _ _ _ _ _ _ = S.l11Conf_l0 m _ _ _ _ _ _ _ _ _ _ _ _ _ _ _ _ _
    have hdec : decide ((0 : Int) ≤ (i : Int) ∧ (i : Int) < (q.length : Int)) = true := decide_eq_true (by omega)
    have hx := cQueryS_mem (nthI_mem q i queryD hi)
    have hx2 : cQuery (nthI q (i : Int) queryD) = (nthI q (i : Int) queryD).1.length + (nthI q (i : Int) queryD).2.1.length := rfl
    rw [S.l11Conf_l0, cdp (by omega)]
    simp only [hdec, cond_true, df1, df2, df3, df4, df5, df6, df7, df8]
    have hx3 : (nthI q (i : Int) queryD).1.length ≤ 1048576 := by omega
    have hx4 : (nthI q (i : Int) queryD).2.1.length ≤ 1048576 := by omega
    rw [toks_eq _ hx3, Option.bind_some, toks_eq _ hx4, Option.bind_some, w64 (by omega) (by omega)]
    rw [cdp (by simp only [List.length_cons, List.length_nil]; omega)]
    rfl
  · show S.l11Conf_l0 (m + 1) _ _ _ _ _ _ _ _ _ _ _ _ _ _ _ _ _ = _
    rw [S.l11Conf_l0, cdn (by omega)]
    rw [cdp (by simp only [List.length_nil]; omega), cdp (by simp only [List.length_nil]; omega), List.nil_append, List.nil_append]
theorem iConf_copy : I.Conf_copied n src quo up q s r = some (n, src, quo, up, q, s, r) := by
  have hq : q.length ≤ 1048576 := by unfold cQueryS at h2; omega
  unfold I.Conf_copied
  rw [cloneU64_eq up h1, Option.bind_some]
  refine (copyLoop (fun m i acc => I.Conf_copied_l0 m _ (q.length : Int) i n src quo 0 0 0 acc q up s r) q queryD (fun acc => some (n, src, quo, up, acc, s, r)) (by omega) (fun i m acc hi hacc => ?_) (fun m acc => ?_))
  · show I.Conf_copied_l0 (m + 1) _ _ _ _ _ _ _ _ _ _ _ _ _ _ = I.Conf_copied_l0 m _ _ _ _ _ _ _ _ _ _ _ _ _ _
    have hdec : decide ((0 : Int) ≤ (i : Int) ∧ (i : Int) < (q.length : Int)) = true := decide_eq_true (by omega)
    have hx := cQueryS_mem (nthI_mem q i queryD hi)
    have hx2 : cQuery (nthI q (i : Int) queryD) = (nthI q (i : Int) queryD).1.length + (nthI q (i : Int) queryD).2.1.length := rfl
    rw [I.Conf_copied_l0, cdp (by omega)]
    simp only [hdec, cond_true, df1, df2, df3, df4, df5, df6, df7, df8]
    have hx3 : (nthI q (i : Int) queryD).1.length ≤ 1048576 := by omega
    have hx4 : (nthI q (i : Int) queryD).2.1.length ≤ 1048576 := by omega
    rw [cloneTok_eq _ hx3, Option.bind_some, cloneTok_eq _ hx4, Option.bind_some, w64 (by omega) (by omega)]
    rw [cdp (by simp only [List.length_cons, List.length_nil]; omega)]
    rfl
  · show I.Conf_copied_l0 (m + 1) _ _ _ _ _ _ _ _ _ _ _ _ _ _ = _
    rw [I.Conf_copied_l0, cdn (by omega)]
    rw [cloneSub_eq s h3, Option.bind_some, cloneRule_eq r h4, Option.bind_some]
end
def boxesF (s : List TSub) : List TBox := ((List.range s.length).filter fun _ => true).map fun i : Nat => ((nthI s (i : Int) subD).2.1, (nthI s (i : Int) subD).2.2, 0, 0, [], [])
theorem boxesF_len (s : List TSub) : (boxesF s).length ≤ s.length := by
  unfold boxesF
  rw [List.length_map]
  have := List.length_filter_le (fun _ => true) (List.range s.length)
  rwa [List.length_range] at this
theorem boxesF_nil {s : List TSub} {x : TBox} (h : x ∈ boxesF s) : x.2.2.2.2.1 = [] ∧ x.2.2.2.2.2 = [] := by
  unfold boxesF at h
  obtain ⟨i, _, rfl⟩ := List.mem_map.1 h
  exact ⟨rfl, rfl⟩
theorem boxes_small {a : List TBox} (h : ∀ x ∈ a, x.2.2.2.2.1 = [] ∧ x.2.2.2.2.2 = []) : cBoxS a ≤ a.length ∧ wBoxS a ≤ 4 * a.length := by
  unfold cBoxS wBoxS
  induction a with
  | nil => simp
  | cons x a ih =>
    obtain ⟨h1, h2⟩ := h x (by simp)
    have h3 := ih (fun y hy => h y (by simp [hy]))
    have h4 : cBox x = 0 := by unfold cBox; rw [h1, h2]; simp [cItemS]
    have h5 : w1Box x = 4 := by unfold w1Box; rw [h1, h2]; simp [wItemS]
    simp only [List.map_cons, List.sum_cons, List.length_cons]
    omega
abbrev EngR : Type := Int × Int × Int × Int × Bool × List Int × List TQuery × List TSub × List TRule × List TPunct × List TMark × List TCell × List Int × List Int × List TBox
def newF (n src quo : Int) (up : List Int) (q : List TQuery) (s : List TSub) (r : List TRule) : EngR := (n, src, quo, 0, true, up, q, s, r, [], List.replicate (Int.toNat src) (0, false), [], List.replicate (Int.toNat n) 0, List.replicate (Int.toNat (r.length : Int)) 0, boxesF s)
theorem sMarksNew_eq (a : Int) (h : 1 ≤ a ∧ a ≤ 4) : S.MarksNew a = some (0, List.replicate (Int.toNat a) (0, false)) := by
  unfold S.MarksNew
  rw [cdn (by omega), cdn (by omega), cdp (by omega)]
theorem iMarksNew_eq (a : Int) (h : 1 ≤ a ∧ a ≤ 4) : I.MarksNew a = some (0, List.replicate (Int.toNat a) (0, false)) := by
  unfold I.MarksNew
  rw [in_eq, Option.bind_some, decide_eq_true h, Bool.not_true, cond_false, cdp (by omega)]
theorem sBoxNew_eq (c u : Int) (h1 : 1 ≤ c ∧ c ≤ 50) (h2 : 1 ≤ u ∧ u ≤ 50) : S.BoxNew c u = some (c, u, 0, 0, true, [], []) := by
  unfold S.BoxNew
  rw [capS_eq, Option.bind_some, decide_eq_true h1, Bool.not_true, cond_false, capS_eq, Option.bind_some, decide_eq_true h2, Bool.not_true, cond_false]
section
variable (n src quo : Int) (up : List Int) (q : List TQuery) (s : List TSub) (r : List TRule) (h1 : up.length ≤ 1048576) (h2 : cQueryS q ≤ 1048576) (h3 : s.length ≤ 1048576) (h4 : r.length ≤ 1048576)
include h1 h2 h3 h4
theorem sNew_eq (hw : queryW q) : S.EngNew n src quo up q s r = some (if confOk n src quo up q s r then newF n src quo up q s r else (0, 0, 0, 0, false, [], [], [], [], [], [], [], [], [], [])) := by
  unfold S.EngNew
  rw [sConfOk_eq n src quo up q s r hw, Option.bind_some]
  by_cases c : confOk n src quo up q s r
  · rw [decide_eq_true c, Bool.not_true, cond_false, if_pos c]
    have hn := c.1.1
    have hsrc := c.2.1
    have hm := sMarksNew_eq src hsrc
    have hcp := sConf_copy n src quo up q s r h1 h2 h3 h4
    have d1 : decide ((0 : Int) ≤ n ∧ n ≤ n ∧ (8 : Int) * n ≤ 281474976710656 ∧ n ≤ 9223372036854775807) = true := decide_eq_true (by omega)
    have d2 : decide ((0 : Int) ≤ (r.length : Int) ∧ (r.length : Int) ≤ (r.length : Int) ∧ (8 : Int) * (r.length : Int) ≤ 281474976710656 ∧ (r.length : Int) ≤ 9223372036854775807) = true := decide_eq_true (by omega)
    simp only [hcp, hm, d1, d2, cond_true, Option.bind_some, same_self, dup_eq]
    refine filterLoop (fun m i acc => S.EngNew_l0 m _ i n src quo 0 0 0 0 n src quo 0 up q s r up q s r (List.replicate (Int.toNat src) (0, false)) (List.replicate (Int.toNat n) 0) (List.replicate (Int.toNat (r.length : Int)) 0) acc) s.length (fun _ => true) (fun i : Nat => ((nthI s (i : Int) subD).2.1, (nthI s (i : Int) subD).2.2, 0, 0, [], [])) (fun acc => some (n, src, quo, 0, true, up, q, s, r, [], List.replicate (Int.toNat src) (0, false), [], List.replicate (Int.toNat n) 0, List.replicate (Int.toNat (r.length : Int)) 0, acc)) (by omega) (fun i m acc hi hacc => ?_) (fun m acc => ?_)
    · show S.EngNew_l0 (m + 1) _ _ _ _ _ _ _ _ _ _ _ _ _ _ _ _ _ _ _ _ _ _ _ _ _ = S.EngNew_l0 m _ _ _ _ _ _ _ _ _ _ _ _ _ _ _ _ _ _ _ _ _ _ _ _ _
      have hdec : decide ((0 : Int) ≤ (i : Int) ∧ (i : Int) < (s.length : Int)) = true := decide_eq_true (by omega)
      have hs := c.2.2.2.2.2.2.2.1 i hi
      have hb := sBoxNew_eq (nthI s (i : Int) subD).2.1 (nthI s (i : Int) subD).2.2 hs.2.1 hs.2.2
      rw [S.EngNew_l0, cdp (by omega)]
      simp only [hdec, cond_true, dup_eq, hb, Option.bind_some]
      rw [cdp (by simp only [List.length_cons, List.length_nil]; omega), w64 (by omega) (by omega)]
      rfl
    · show S.EngNew_l0 (m + 1) _ _ _ _ _ _ _ _ _ _ _ _ _ _ _ _ _ _ _ _ _ _ _ _ _ = _
      rw [S.EngNew_l0, cdn (by omega)]
  · rw [decide_eq_false c, Bool.not_false, cond_true, if_neg c]
theorem iNew_eq (hw : queryW q) (hu : ∀ y ∈ up, (Lit.int .u64 y).wf = true) : I.EngNew n src quo up q s r = some (if confOk n src quo up q s r then newF n src quo up q s r else (0, 0, 0, 0, false, [], [], [], [], [], [], [], [], [], [])) := by
  unfold I.EngNew
  rw [iConfOk_eq n src quo up q s r hw hu, Option.bind_some]
  by_cases c : confOk n src quo up q s r
  · rw [decide_eq_true c, Bool.not_true, cond_false, if_pos c]
    have hn := c.1.1
    have hsrc := c.2.1
    have hm := iMarksNew_eq src hsrc
    have hcp := iConf_copy n src quo up q s r h1 h2 h3 h4
    have d1 : decide ((0 : Int) ≤ n ∧ n ≤ n ∧ (8 : Int) * n ≤ 281474976710656 ∧ n ≤ 9223372036854775807) = true := decide_eq_true (by omega)
    have d2 : decide ((0 : Int) ≤ (r.length : Int) ∧ (r.length : Int) ≤ (r.length : Int) ∧ (8 : Int) * (r.length : Int) ≤ 281474976710656 ∧ (r.length : Int) ≤ 9223372036854775807) = true := decide_eq_true (by omega)
    have main : I.engNew n src quo up q s r = some (n, src, quo, 0, up, q, s, r, [], List.replicate (Int.toNat src) (0, false), [], List.replicate (Int.toNat n) 0, List.replicate (Int.toNat (r.length : Int)) 0, boxesF s) := by
      unfold I.engNew
      simp only [hcp, hm, d1, d2, cond_true, Option.bind_some, same_self, dup_eq]
      refine filterLoop (fun m i acc => I.engNew_l0 m _ (s.length : Int) i 0 0 0 0 n src quo 0 s up q s r (List.replicate (Int.toNat src) (0, false)) (List.replicate (Int.toNat n) 0) (List.replicate (Int.toNat (r.length : Int)) 0) acc) s.length (fun _ => true) (fun i : Nat => ((nthI s (i : Int) subD).2.1, (nthI s (i : Int) subD).2.2, 0, 0, [], [])) (fun acc => some (n, src, quo, 0, up, q, s, r, [], List.replicate (Int.toNat src) (0, false), [], List.replicate (Int.toNat n) 0, List.replicate (Int.toNat (r.length : Int)) 0, acc)) (by omega) (fun i m acc hi hacc => ?_) (fun m acc => ?_)
      · show I.engNew_l0 (m + 1) _ _ _ _ _ _ _ _ _ _ _ _ _ _ _ _ _ _ _ _ = I.engNew_l0 m _ _ _ _ _ _ _ _ _ _ _ _ _ _ _ _ _ _ _ _
        have hdec : decide ((0 : Int) ≤ (i : Int) ∧ (i : Int) < (s.length : Int)) = true := decide_eq_true (by omega)
        rw [I.engNew_l0, cdp (by omega)]
        simp only [hdec, cond_true]
        rw [cdp (by simp only [List.length_cons, List.length_nil]; omega), w64 (by omega) (by omega)]
        rfl
      · show I.engNew_l0 (m + 1) _ _ _ _ _ _ _ _ _ _ _ _ _ _ _ _ _ _ _ _ = _
        rw [I.engNew_l0, cdn (by omega)]
    rw [main, Option.bind_some]
    rfl
  · rw [decide_eq_false c, Bool.not_false, cond_true, if_neg c]
end

theorem wQueryS_le' (q : List TQuery) : wQueryS q ≤ 5 * cQueryS q := by
  unfold wQueryS cQueryS
  induction q with
  | nil => simp
  | cons x q ih =>
    have : w1Query x = 5 + 2 * cQuery x := by unfold w1Query cQuery; omega
    simp only [List.map_cons, List.sum_cons, List.length_cons]
    omega
theorem FnExactEngNew : StmtFnExactEngNew.Stmt := by
  intro n up src quo q s r hn hu hsrc hquo hq hs hr
  let X : TConf := ((n, up), src, quo, q, s, r)
  have hsz : L.szConf n src quo 1048576 up q s r = some (if (cConf X : Int) ≤ 1048576 then 1048576 - (cConf X : Int) else -1) := szConf_eq X 1048576 (by omega) (by omega) ⟨⟨hn, hu⟩, hsrc, hquo, hq, hs, hr⟩
  unfold L.FnExactEngNew
  rw [hsz, Option.bind_some]
  by_cases hl : (cConf X : Int) ≤ 1048576
  · have hto : L.toConf n src quo up q s r = some (n, src, quo, up, q, s, r) := toConf_eq X (by omega)
    have heq : L.eqConf n src quo n src quo up q s r up q s r = some (decide (X = X)) := eqConf_eq X X (by omega)
    have h3 : cConf X = up.length + cQueryS q + s.length + r.length := rfl
    have h5 : q.length ≤ cQueryS q := by unfold cQueryS; omega
    have hwq := wQueryS_le' q
    have hw : queryW q := by
      intro x hx
      have h1 := hq.2 x hx
      have h2 : cQuery x ≤ cQueryS q := cQueryS_mem hx
      have h4 : cQuery x = x.1.length + x.2.1.length := rfl
      exact ⟨i64_wf h1.2.2.1.2.2, by omega, by omega⟩
    obtain ⟨k, hk⟩ : ∃ k : Int, k = 1 + (1 * (up.length : Int) + (((wQueryS q : Nat) : Int) + (3 * (s.length : Int) + 5 * (r.length : Int)))) := ⟨_, rfl⟩
    obtain ⟨b, hmark⟩ : ∃ b, L.markConf n src quo 1 up q s r = some (k, b) := ⟨_, by rw [hk]; exact markConf_eq X 1 (by omega) (show q.length ≤ _ by omega) (show 1 + (1 * (up.length : Int) + (((wQueryS q : Nat) : Int) + (3 * (s.length : Int) + 5 * (r.length : Int)))) ≤ _ by omega)⟩
    have hS := sNew_eq n src quo up q s r (by omega) (by omega) (by omega) (by omega) hw
    have hI := iNew_eq n src quo up q s r (by omega) (by omega) (by omega) (by omega) hw hu.2
    obtain ⟨w, hwe⟩ : ∃ w : EngR, w = if confOk n src quo up q s r then newF n src quo up q s r else (0, 0, 0, 0, false, [], [], [], [], [], [], [], [], [], []) := ⟨_, rfl⟩
    rw [← hwe] at hS hI
    have hb : w.2.2.2.2.2.1.length ≤ 1048576 ∧ cQueryS w.2.2.2.2.2.2.1 ≤ 1048576 ∧ w.2.2.2.2.2.2.2.1.length ≤ 1048576 ∧ w.2.2.2.2.2.2.2.2.1.length ≤ 1048576 ∧ w.2.2.2.2.2.2.2.2.2.1.length ≤ 1048576 ∧ w.2.2.2.2.2.2.2.2.2.2.1.length ≤ 1048576 ∧ w.2.2.2.2.2.2.2.2.2.2.2.1 = [] ∧ w.2.2.2.2.2.2.2.2.2.2.2.2.1.length ≤ 1048576 ∧ w.2.2.2.2.2.2.2.2.2.2.2.2.2.1.length ≤ 1048576 ∧ cBoxS w.2.2.2.2.2.2.2.2.2.2.2.2.2.2 ≤ 1048576 ∧ wBoxS w.2.2.2.2.2.2.2.2.2.2.2.2.2.2 ≤ 10485760 := by
      rw [hwe]
      split
      · rename_i c
        have hn1 := c.1.1
        have hs1 := c.2.1
        have hbl := boxesF_len s
        have hbs := boxes_small (a := boxesF s) (fun x hx => boxesF_nil hx)
        refine ⟨?_, ?_, ?_, ?_, ?_, ?_, rfl, ?_, ?_, ?_, ?_⟩
        · show up.length ≤ _; omega
        · show cQueryS q ≤ _; omega
        · show s.length ≤ _; omega
        · show r.length ≤ _; omega
        · show ([] : List TPunct).length ≤ _; simp
        · show (List.replicate _ _).length ≤ _; rw [List.length_replicate]; omega
        · show (List.replicate _ _).length ≤ _; rw [List.length_replicate]; omega
        · show (List.replicate _ _).length ≤ _; rw [List.length_replicate]; omega
        · show cBoxS (boxesF s) ≤ _; omega
        · show wBoxS (boxesF s) ≤ _; omega
      · exact ⟨by simp, by simp [cQueryS], by simp, by simp, by simp, by simp, rfl, by simp, by simp, by simp [cBoxS], by simp [wBoxS]⟩
    obtain ⟨w1, w2, w3, w4, w5, w6, w7, w8, w9, w10, w11, w12, w13, w14, w15⟩ := w
    obtain ⟨b6, b7, b8, b9, b10, b11, b12, b13, b14, b15, b16⟩ : w6.length ≤ 1048576 ∧ cQueryS w7 ≤ 1048576 ∧ w8.length ≤ 1048576 ∧ w9.length ≤ 1048576 ∧ w10.length ≤ 1048576 ∧ w11.length ≤ 1048576 ∧ w12 = [] ∧ w13.length ≤ 1048576 ∧ w14.length ≤ 1048576 ∧ cBoxS w15 ≤ 1048576 ∧ wBoxS w15 ≤ 10485760 := hb
    subst b12
    let W : TEng := (((w1, w6), w2, w3, w7, w8, w9), w10, (w4, w11), [], w13, w14, w15)
    have hcw : cEng W ≤ 10000000 := by
      show w6.length + cQueryS w7 + w8.length + w9.length + w10.length + w11.length + cCellS [] + w13.length + w14.length + cBoxS w15 ≤ _
      have : cCellS [] = 0 := rfl
      omega
    have h7 : w7.length ≤ cQueryS w7 := by unfold cQueryS; omega
    have h15 : w15.length ≤ cBoxS w15 := by unfold cBoxS; omega
    have hwq7 := wQueryS_le' w7
    have hwc : wCellS [] = 0 := rfl
    have he : L.eqEng w1 w2 w3 w4 w1 w2 w3 w4 w6 w7 w8 w9 w10 w11 [] w13 w14 w15 w6 w7 w8 w9 w10 w11 [] w13 w14 w15 = some (decide (W = W)) := eqEng_eq W W (by omega)
    have hc : 1 + (1 * (w6.length : Int) + (((wQueryS w7 : Nat) : Int) + (3 * (w8.length : Int) + (5 * (w9.length : Int) + (4 * (w10.length : Int) + (2 * (w11.length : Int) + (((wCellS [] : Nat) : Int) + (1 * (w13.length : Int) + (1 * (w14.length : Int) + ((wBoxS w15 : Nat) : Int)))))))))) ≤ 1000000000000 := by omega
    obtain ⟨K, M, hK, hm, hh⟩ : ∃ (K : Int) (M : List Int × List TQuery × List TSub × List TRule × List TPunct × List TMark × List TCell × List Int × List Int × List TBox), 0 ≤ K ∧ L.markEng w1 w2 w3 w4 1 w6 w7 w8 w9 w10 w11 [] w13 w14 w15 = some (K, M) ∧ L.heldEng w1 w2 w3 w4 1 M.1 M.2.1 M.2.2.1 M.2.2.2.1 M.2.2.2.2.1 M.2.2.2.2.2.1 M.2.2.2.2.2.2.1 M.2.2.2.2.2.2.2.1 M.2.2.2.2.2.2.2.2.1 M.2.2.2.2.2.2.2.2.2 = some K := by
      refine ⟨_, _, ?_, markEng_eq W 1 (by omega) (show w7.length ≤ _ by omega) (show ([] : List TCell).length ≤ _ by simp) (show w15.length ≤ _ by omega) hc, heldEng_eq W 1 (by omega) (show w7.length ≤ _ by omega) (show ([] : List TCell).length ≤ _ by simp) (show w15.length ≤ _ by omega) hc⟩
      show (0 : Int) ≤ 1 + (1 * (w6.length : Int) + (((wQueryS w7 : Nat) : Int) + (3 * (w8.length : Int) + (5 * (w9.length : Int) + (4 * (w10.length : Int) + (2 * (w11.length : Int) + (((wCellS [] : Nat) : Int) + (1 * (w13.length : Int) + (1 * (w14.length : Int) + ((wBoxS w15 : Nat) : Int))))))))))
      omega
    have d1 : decide (k < 0) = false := decide_eq_false (by omega)
    have d2 : decide (K < 0) = false := decide_eq_false (by omega)
    rw [if_pos hl, cdn (by omega)]
    simp only [hto, hS, hI, heq, hmark, he, hm, hh, d1, d2, Option.bind_some, decide_true, beq_self_eq_true, Bool.not_true, cond_false, bne_self_eq_false]
  · rw [if_neg hl, cdp (by omega)]
end Go.Proofs.YtidojhgkpgomcaaGreat.Pure
