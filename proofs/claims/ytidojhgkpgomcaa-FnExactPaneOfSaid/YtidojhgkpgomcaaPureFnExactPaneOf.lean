/- PaneOf of the program returns what the reference's returns. For every argument. -/
import Derived.Test.YtidojhgkpgomcaaStmtFnExactPaneOf
import Derived.Laws.BitsLemmas
import Derived.Laws.BitsAllLaws
import Derived.Laws.Bits64b
namespace Go.Proofs.Ytidojhgkpgomcaa.Pure
open Go Go.RowKit Go.Proofs.Ytidojhgkpgomcaa.Run Go.Proofs.Ytidojhgkpgomcaa.StmtFnExactPaneOf Go.Proofs.YtidojhgkpgomcaaW.PrintWords Go.Proofs.Ytidojhgkpgomcaa.Vm
set_option linter.unusedVariables false
set_option linter.unusedSimpArgs false
set_option linter.unusedSectionVars false
theorem cdp {α : Type} {p : Prop} [Decidable p] {a b : α} (h : p) : (bif decide p then a else b) = a := by simp [h]
theorem cdn {α : Type} {p : Prop} [Decidable p] {a b : α} (h : ¬ p) : (bif decide p then a else b) = b := by simp [h]
theorem cnp {α : Type} {x y : Int} {a b : α} (h : x ≠ y) : (bif (x != y) then a else b) = a := by rw [show (x != y) = true from by simpa using h]; rfl
theorem cnn {α : Type} {x y : Int} {a b : α} (h : x = y) : (bif (x != y) then a else b) = b := by simp [bne, h]
theorem cep {α : Type} {x y : Int} {a b : α} (h : x = y) : (bif (x == y) then a else b) = a := by simp [h]
theorem cen {α : Type} {x y : Int} {a b : α} (h : x ≠ y) : (bif (x == y) then a else b) = b := by rw [show (x == y) = false from by simpa using h]; rfl
theorem cond_some {α : Type} (c : Bool) (x y : α) : (bif c then some x else some y) = some (bif c then x else y) := by cases c <;> rfl
theorem cond_and (c x : Bool) : (bif c then x else false) = (c && x) := by cases c <;> rfl
theorem dand (p q : Prop) [Decidable p] [Decidable q] : (decide p && decide q) = decide (p ∧ q) := by by_cases p <;> by_cases q <;> simp_all
theorem w64 {n : Int} (h0 : -9223372036854775808 ≤ n) (h1 : n < 9223372036854775808) : IntKind.i64.wrap n = n := by rw [IntKind.wrap_i64]; omega
theorem u64_mod (n : Int) : IntKind.u64.wrap n = n % 18446744073709551616 := by simp [IntKind.wrap, IntKind.bits, IntKind.signed]
theorem u64w {n : Int} (h0 : 0 ≤ n) (h1 : n < 18446744073709551616) : IntKind.u64.wrap n = n := by rw [u64_mod]; omega
theorem u8_mod (n : Int) : IntKind.u8.wrap n = n % 256 := by simp [IntKind.wrap, IntKind.bits, IntKind.signed]
theorem i64_wf {n : Int} (h : (Lit.int .i64 n).wf = true) : -9223372036854775808 ≤ n ∧ n < 9223372036854775808 := by
  simp only [Lit.wf, IntKind.min, IntKind.max, IntKind.signed, IntKind.bits, Bool.and_eq_true, decide_eq_true_eq, if_true] at h
  omega
theorem tmod_nat (n : Int) (m : Int) (h : 0 ≤ n) : Int.tmod n m = n % m := Int.tmod_eq_emod_of_nonneg h
theorem tdiv_nat (n : Int) (m : Int) (h : 0 ≤ n) : Int.tdiv n m = n / m := Int.tdiv_eq_ediv_of_nonneg h
theorem fu_ge (d : Nat) (h : d ≤ 1000000000000) : ∃ m, fu = d + 1 + m := ⟨fu - d - 1, by rw [fu_eq]; omega⟩
theorem nthI_nat {α : Type} (xs : List α) (i : Nat) (d : α) : nthI xs (i : Int) d = xs.getD i d := rfl
theorem nthI_mem {α : Type} (a : List α) (i : Nat) (d : α) (h : i < a.length) : nthI a (i : Int) d ∈ a := by
  rw [nthI_nat, List.getD_eq_getElem?_getD, List.getElem?_eq_getElem h]; simp
theorem nthI_set {α : Type} (xs : List α) (i : Nat) (y d : α) (h : i < xs.length) : nthI (xs.set i y) (i : Int) d = y := by
  rw [nthI_nat, List.getD_eq_getElem?_getD, List.getElem?_set_self h]; rfl
theorem drop_at {α : Type} (xs : List α) (i : Nat) (d : α) (h : i < xs.length) : xs.drop i = nthI xs (i : Int) d :: xs.drop (i + 1) := by
  rw [nthI_nat, List.getD_eq_getElem?_getD, List.getElem?_eq_getElem h]; exact List.drop_eq_getElem_cons h
theorem cneI {x y : Int} {k : Option Bool} : (bif (x != y) then some false else k) = bif decide (x = y) then k else some false := by
  by_cases h : x = y
  · rw [cnn h, cdp h]
  · rw [cnp h, cdn h]
theorem cneB {x y : Bool} {k : Option Bool} : (bif (!(x == y)) then some false else k) = bif decide (x = y) then k else some false := by
  cases x <;> cases y <;> rfl
theorem cbeB {x y : Bool} {k : Option Bool} : (bif (x == y) then k else some false) = bif decide (x = y) then k else some false := by cases x <;> cases y <;> rfl
theorem cnotb {r : Bool} {k : Option Bool} : (bif (!r) then some false else k) = bif r then k else some false := by cases r <;> rfl
theorem cds {p q : Prop} [Decidable p] [Decidable q] : (bif decide p then some (decide q) else some false) = some (decide (p ∧ q)) := by
  by_cases p <;> by_cases q <;> simp_all
theorem cdt {p : Prop} [Decidable p] : (bif decide p then some true else some false) = some (decide p) := by by_cases p <;> simp_all
theorem sdec {p q : Prop} [Decidable p] [Decidable q] (h : q ↔ p) : some (decide q) = some (decide p) := congrArg some (decide_eq_decide.mpr h)
theorem sfal {p : Prop} [Decidable p] (h : ¬ p) : some false = some (decide p) := by rw [decide_eq_false h]
theorem sbool {b : Bool} {p : Prop} [Decidable p] (h : b = true ↔ p) : some b = some (decide p) := by
  by_cases c : p
  · rw [h.2 c, decide_eq_true c]
  · rw [decide_eq_false c, Bool.eq_false_iff.2 fun e => c (h.1 e)]
theorem toLoop {α : Type} (F : Nat → Int → List α → Option (List α)) (a : List α) (d : α) (hn : a.length ≤ 1000000000000)
    (hs : ∀ (i m : Nat) (xs : List α), i < a.length → xs.length = a.length → F (m + 1) (i : Int) xs = F m ((i + 1 : Nat) : Int) (xs.set i (nthI a (i : Int) d)))
    (he : ∀ (m : Nat) (xs : List α), F (m + 1) (a.length : Int) xs = some xs) (xs : List α) (hx : xs.length = a.length) : F fu 0 xs = some a := by
  obtain ⟨M, hM⟩ := fu_ge a.length hn
  have h1 : ∀ k i : Nat, ∀ xs : List α, xs.length = a.length → i ≤ a.length → a.length - i = k → xs.take i = a.take i → F (k + 1 + M) (i : Int) xs = some a := by
    intro k
    induction k with
    | zero =>
      intro i xs hx hi hd ht
      obtain rfl : i = a.length := by omega
      rw [List.take_of_length_le (by omega), List.take_of_length_le (by omega)] at ht
      subst ht
      rw [show 0 + 1 + M = M + 1 from by omega]
      exact he M xs
    | succ k ih =>
      intro i xs hx hi hd ht
      have hi2 : i < a.length := by omega
      rw [show k + 1 + 1 + M = (k + 1 + M) + 1 from by omega, hs i _ xs hi2 hx]
      refine ih (i + 1) _ (by simpa using hx) (by omega) (by omega) ?_
      rw [nthI_nat, List.getD_eq_getElem?_getD, List.getElem?_eq_getElem hi2, Option.getD_some, List.take_add_one, List.take_add_one, List.take_set_of_le (Nat.le_refl i), ht]
      simp [show i < xs.length from by omega, hi2]
  rw [hM]
  exact h1 a.length 0 xs hx (by omega) (by omega) (by simp)
theorem eqLoop {α : Type} [DecidableEq α] (F : Nat → Int → Option Bool) (a b : List α) (d : α) (hl : a.length = b.length) (hn : a.length ≤ 1000000000000)
    (hs : ∀ (i m : Nat), i < a.length → F (m + 1) (i : Int) = bif decide (nthI a (i : Int) d = nthI b (i : Int) d) then F m ((i + 1 : Nat) : Int) else some false)
    (he : ∀ m : Nat, F (m + 1) (a.length : Int) = some true) : F fu 0 = some (decide (a = b)) := by
  obtain ⟨M, hM⟩ := fu_ge a.length hn
  have h1 : ∀ k i : Nat, i ≤ a.length → a.length - i = k → F (k + 1 + M) (i : Int) = some (decide (a.drop i = b.drop i)) := by
    intro k
    induction k with
    | zero =>
      intro i hi hd
      obtain rfl : i = a.length := by omega
      rw [show 0 + 1 + M = M + 1 from by omega, he, List.drop_of_length_le (by omega), List.drop_of_length_le (by omega)]
      simp
    | succ k ih =>
      intro i hi hd
      rw [show k + 1 + 1 + M = (k + 1 + M) + 1 from by omega, hs i _ (by omega), drop_at a i d (by omega), drop_at b i d (by omega), ih (i + 1) (by omega) (by omega)]
      by_cases e : nthI a (i : Int) d = nthI b (i : Int) d
      · rw [cdp e, e]
        generalize nthI b (i : Int) d = x
        simp
      · rw [cdn e]
        generalize nthI b (i : Int) d = x at *
        generalize nthI a (i : Int) d = y at *
        simp [e]
  rw [hM]
  simpa using h1 a.length 0 (by omega) (by omega)
theorem eqTop {α : Type} [DecidableEq α] (a b : List α) {k : Option Bool} (h : a.length = b.length → k = some (decide (a = b))) : (bif ((a.length : Int) != (b.length : Int)) then some false else k) = some (decide (a = b)) := by
  by_cases e : a.length = b.length
  · rw [cnn (by omega), h e]
  · rw [cnp (by omega), decide_eq_false (fun h => e (by rw [h]))]
def markAll {α : Type} (m1 : Int → α → α) (w1 : α → Nat) : Int → List α → List α
  | _, [] => []
  | k, x :: xs => m1 k x :: markAll m1 w1 (k + (w1 x : Int)) xs
theorem markAll_length {α : Type} (m1 : Int → α → α) (w1 : α → Nat) : ∀ (a : List α) (k : Int), (markAll m1 w1 k a).length = a.length
  | [], _ => rfl
  | x :: xs, k => by simp [markAll, markAll_length m1 w1 xs]
theorem cmod3 : decide ((3 : Int) = 0) = false := rfl
theorem markLoop {α : Type} (F : Nat → Int → Int → List α → Option (Int × List α)) (m1 : Int → α → α) (w1 : α → Nat) (a : List α) (d : α) (nl : Nat) (hw : ∀ x, w1 x = nl) {k : Int} (h0 : 0 ≤ k) (hn : a.length ≤ 1000000000000) (hc : k + (nl : Int) * (a.length : Int) ≤ 1000000000000)
    (hs : ∀ (i m : Nat) (k : Int) (xs : List α), i < a.length → xs.length = a.length → 0 ≤ k → k + (nl : Int) ≤ 1000000000000 → F (m + 1) k (i : Int) xs = F m (k + (nl : Int)) ((i + 1 : Nat) : Int) (xs.set i (m1 k (nthI xs (i : Int) d))))
    (he : ∀ (m : Nat) (k : Int) (xs : List α), xs.length = a.length → F (m + 1) k (a.length : Int) xs = some (k, xs)) : F fu k 0 a = some (k + (nl : Int) * (a.length : Int), markAll m1 w1 k a) := by
  obtain ⟨M, hM⟩ := fu_ge a.length hn
  have h1 : ∀ q i : Nat, ∀ (k : Int) (xs : List α), xs.length = a.length → i ≤ a.length → a.length - i = q → 0 ≤ k → k + (nl : Int) * (q : Int) ≤ 1000000000000 → F (q + 1 + M) k (i : Int) xs = some (k + (nl : Int) * (q : Int), xs.take i ++ markAll m1 w1 k (xs.drop i)) := by
    intro q
    induction q with
    | zero =>
      intro i k xs hx hi hd h0 hc
      obtain rfl : i = a.length := by omega
      rw [show 0 + 1 + M = M + 1 from by omega, he _ _ _ hx, List.take_of_length_le (by omega), List.drop_of_length_le (by omega)]
      simp [markAll]
    | succ q ih =>
      intro i k xs hx hi hd h0 hc
      have e : (nl : Int) * ((q + 1 : Nat) : Int) = (nl : Int) * (q : Int) + nl := by rw [Int.natCast_add, Int.mul_add]; simp
      have hq : 0 ≤ (nl : Int) * (q : Int) := Int.mul_nonneg (by omega) (by omega)
      rw [e] at hc ⊢
      rw [show q + 1 + 1 + M = (q + 1 + M) + 1 from by omega, hs i _ k xs (by omega) hx h0 (by omega), ih (i + 1) _ _ (by simpa using hx) (by omega) (by omega) (by omega) (by omega), drop_at xs i d (by omega), markAll, hw]
      have hi2 : i < xs.length := by omega
      rw [List.take_add_one, List.getElem?_set_self hi2, List.take_set_of_le (Nat.le_refl i), List.drop_set_of_lt (by omega)]
      simp
      omega
  rw [hM]
  have := h1 a.length 0 k a rfl (by omega) (by omega) h0 hc
  simpa using this
theorem markAll_nth {α : Type} (m1 : Int → α → α) (w1 : α → Nat) (nl : Nat) (hw : ∀ x, w1 x = nl) (d : α) : ∀ (a : List α) (k : Int) (i : Nat), i < a.length → nthI (markAll m1 w1 k a) (i : Int) d = m1 (k + (nl : Int) * (i : Int)) (nthI a (i : Int) d)
  | [], _, i, h => by simp at h
  | x :: xs, k, 0, _ => by simp [markAll, nthI]
  | x :: xs, k, i + 1, h => by
    have := markAll_nth m1 w1 nl hw d xs (k + (w1 x : Int)) i (by simpa using h)
    rw [nthI_nat, nthI_nat] at this ⊢
    rw [markAll, List.getD_cons_succ, List.getD_cons_succ, this, hw, Int.natCast_add, Int.mul_add]
    congr 1
    omega
theorem heldLoop {α : Type} (F : Nat → Int → Int → Option Int) (m1 : Int → α → α) (w1 : α → Nat) (a : List α) (d : α) (nl : Nat) (hw : ∀ x, w1 x = nl) (k : Int) (h0 : 0 ≤ k) (hn : a.length ≤ 1000000000000) (hc : k + (nl : Int) * (a.length : Int) ≤ 1000000000000)
    (hs : ∀ (i m : Nat) (j : Int), i < a.length → 0 ≤ j → j + (nl : Int) ≤ 1000000000000 → nthI (markAll m1 w1 k a) (i : Int) d = m1 j (nthI a (i : Int) d) → F (m + 1) j (i : Int) = F m (j + (nl : Int)) ((i + 1 : Nat) : Int))
    (he : ∀ (m : Nat) (j : Int), F (m + 1) j (a.length : Int) = some j) : F fu k 0 = some (k + (nl : Int) * (a.length : Int)) := by
  obtain ⟨M, hM⟩ := fu_ge a.length hn
  have h1 : ∀ q i : Nat, i ≤ a.length → a.length - i = q → F (q + 1 + M) (k + (nl : Int) * (i : Int)) (i : Int) = some (k + (nl : Int) * (a.length : Int)) := by
    intro q
    induction q with
    | zero =>
      intro i hi hd
      obtain rfl : i = a.length := by omega
      rw [show 0 + 1 + M = M + 1 from by omega, he]
    | succ q ih =>
      intro i hi hd
      have e : (nl : Int) * ((i + 1 : Nat) : Int) = (nl : Int) * (i : Int) + nl := by rw [Int.natCast_add, Int.mul_add]; simp
      have hq : 0 ≤ (nl : Int) * (i : Int) := Int.mul_nonneg (by omega) (by omega)
      have hle : (nl : Int) * ((i + 1 : Nat) : Int) ≤ (nl : Int) * (a.length : Int) := Int.mul_le_mul_of_nonneg_left (by omega) (by omega)
      rw [show q + 1 + 1 + M = (q + 1 + M) + 1 from by omega, hs i _ _ (by omega) (by omega) (by omega) (markAll_nth m1 w1 nl hw d a k i (by omega))]
      have := ih (i + 1) (by omega) (by omega)
      rw [e] at this
      rw [show k + (nl : Int) * (i : Int) + (nl : Int) = k + ((nl : Int) * (i : Int) + (nl : Int)) from by omega]
      exact this
  rw [hM]
  have := h1 a.length 0 (by omega) (by omega)
  simpa using this
def cmpF (a b : Int) : Int := if a < b then -1 else if b < a then 1 else 0
theorem dlt0 {x : Int} (h : 0 ≤ x) : decide (x < 0) = false := decide_eq_false (by omega)
theorem u64_wf {n : Int} (h : (Lit.int .u64 n).wf = true) : 0 ≤ n ∧ n < 18446744073709551616 := by
  simp [Lit.wf, IntKind.min, IntKind.max, IntKind.signed, IntKind.bits, Bool.and_eq_true] at h
  omega
def bInt (x : Int) : Prop := (Lit.int .i64 x).wf = true
abbrev TTok : Type := Int × Int
instance : DecidableEq TTok := (@instDecidableEqProd _ _ (inferInstance : DecidableEq Int) (inferInstance : DecidableEq Int))
def bTok (x : TTok) : Prop := ((Lit.int .i64 x.1).wf = true ∧ (Lit.int .i64 x.2).wf = true)
theorem szTokS_eq (left : Int) (a : List TTok) (h0 : 0 ≤ left) (h1 : left ≤ 1000000000000) (hm : a.length ≤ maxLen ∧ ∀ x ∈ a, bTok x) : L.szTokS left a = some (if ((a.length : Nat) : Int) ≤ left then left - ((a.length : Nat) : Int) else -1) := by
  have hl : a.length ≤ 9223372036854775807 := hm.1
  unfold L.szTokS
  simp only []
  rw [w64 (by omega) (by omega)]
  by_cases h : ((a.length : Nat) : Int) ≤ left
  · rw [cdn (by omega), if_pos h]
  · rw [cdp (by omega), if_neg h]
abbrev TWinDef : Type := Int × Int × Int
instance : DecidableEq TWinDef := (@instDecidableEqProd _ _ (inferInstance : DecidableEq Int) (@instDecidableEqProd _ _ (inferInstance : DecidableEq Int) (inferInstance : DecidableEq Int)))
abbrev TQuery : Type := List TTok × List TTok × (TWinDef) × Int × Int
instance : DecidableEq TQuery := (@instDecidableEqProd _ _ (inferInstance : DecidableEq (List TTok)) (@instDecidableEqProd _ _ (inferInstance : DecidableEq (List TTok)) (@instDecidableEqProd _ _ (inferInstance : DecidableEq TWinDef) (@instDecidableEqProd _ _ (inferInstance : DecidableEq Int) (inferInstance : DecidableEq Int)))))
def cQuery (x : TQuery) : Nat := (x.1).length + (x.2.1).length
def bQuery (x : TQuery) : Prop := ((x.1.length ≤ maxLen ∧ ∀ y ∈ x.1, bTok y) ∧ (x.2.1.length ≤ maxLen ∧ ∀ y ∈ x.2.1, bTok y) ∧ ((Lit.int .i64 x.2.2.1.1).wf = true ∧ (Lit.int .i64 x.2.2.1.2.1).wf = true ∧ (Lit.int .i64 x.2.2.1.2.2).wf = true) ∧ (Lit.int .i64 x.2.2.2.1).wf = true ∧ (Lit.int .i64 x.2.2.2.2).wf = true)
theorem szQuery_eq (x : TQuery) (left : Int) (h0 : 0 ≤ left) (h1 : left ≤ 1000000000000) (hb : bQuery x) : L.szQuery x.2.2.1.1 x.2.2.1.2.1 x.2.2.1.2.2 x.2.2.2.1 x.2.2.2.2 left x.1 x.2.1 = some (if (cQuery x : Int) ≤ left then left - (cQuery x : Int) else -1) := by
  unfold bQuery at hb
  unfold L.szQuery cQuery
  rw [szTokS_eq _ x.1 (by omega) (by omega) hb.1, Option.bind_some]
  by_cases h0 : (((x.1).length : Nat) : Int) ≤ left
  · rw [if_pos h0, cdn (by omega)]
    rw [szTokS_eq _ x.2.1 (by omega) (by omega) hb.2.1, Option.bind_some]
    by_cases h1 : (((x.2.1).length : Nat) : Int) ≤ left - (((x.1).length : Nat) : Int)
    · first
        | (rw [if_pos h1, cdn (by omega)]; done)
        | (rw [if_pos h1, cdn (by omega), if_pos (by omega)]; congr 1; omega)
    · first | (rw [if_neg h1, cdp (by omega)]; done) | rw [if_neg h1, cdp (by omega), if_neg (by omega)]
  · first | (rw [if_neg h0, cdp (by omega)]; done) | rw [if_neg h0, cdp (by omega), if_neg (by omega)]
theorem szIntS_eq (left : Int) (a : List Int) (h0 : 0 ≤ left) (h1 : left ≤ 1000000000000) (hm : a.length ≤ maxLen ∧ ∀ x ∈ a, bInt x) : L.szIntS left a = some (if ((a.length : Nat) : Int) ≤ left then left - ((a.length : Nat) : Int) else -1) := by
  have hl : a.length ≤ 9223372036854775807 := hm.1
  unfold L.szIntS
  simp only []
  rw [w64 (by omega) (by omega)]
  by_cases h : ((a.length : Nat) : Int) ≤ left
  · rw [cdn (by omega), if_pos h]
  · rw [cdp (by omega), if_neg h]
abbrev TWide : Type := Int × Int
instance : DecidableEq TWide := (@instDecidableEqProd _ _ (inferInstance : DecidableEq Int) (inferInstance : DecidableEq Int))
abbrev TAgg : Type := Int × (TWide) × Int × Int × List Int
instance : DecidableEq TAgg := (@instDecidableEqProd _ _ (inferInstance : DecidableEq Int) (@instDecidableEqProd _ _ (inferInstance : DecidableEq TWide) (@instDecidableEqProd _ _ (inferInstance : DecidableEq Int) (@instDecidableEqProd _ _ (inferInstance : DecidableEq Int) (inferInstance : DecidableEq (List Int))))))
def cAgg (x : TAgg) : Nat := (x.2.2.2.2).length
def bAgg (x : TAgg) : Prop := ((Lit.int .i64 x.1).wf = true ∧ ((Lit.int .i64 x.2.1.1).wf = true ∧ (Lit.int .u64 x.2.1.2).wf = true) ∧ (Lit.int .i64 x.2.2.1).wf = true ∧ (Lit.int .i64 x.2.2.2.1).wf = true ∧ (x.2.2.2.2.length ≤ maxLen ∧ ∀ y ∈ x.2.2.2.2, bInt y))
theorem szAgg_eq (x : TAgg) (left : Int) (h0 : 0 ≤ left) (h1 : left ≤ 1000000000000) (hb : bAgg x) : L.szAgg x.1 x.2.1.1 x.2.1.2 x.2.2.1 x.2.2.2.1 left x.2.2.2.2 = some (if (cAgg x : Int) ≤ left then left - (cAgg x : Int) else -1) := by
  unfold bAgg at hb
  unfold L.szAgg cAgg
  rw [szIntS_eq _ x.2.2.2.2 (by omega) (by omega) hb.2.2.2.2, Option.bind_some]
  by_cases h0 : (((x.2.2.2.2).length : Nat) : Int) ≤ left
  · first
      | (rw [if_pos h0, cdn (by omega)]; done)
      | (rw [if_pos h0, cdn (by omega), if_pos (by omega)]; congr 1; omega)
  · first | (rw [if_neg h0, cdp (by omega)]; done) | rw [if_neg h0, cdp (by omega), if_neg (by omega)]
theorem toTok_eq (x : TTok) : L.toTok x.1 x.2 = some (x.1, x.2) := by
  rfl
theorem toTokS_eq (a : List TTok) (hc : a.length ≤ 1000000000000) : L.toTokS a = some a := by
  have hn := hc
  unfold L.toTokS
  simp only []
  rw [cdp (by omega)]
  refine toLoop (fun m i xs => L.toTokS_l0 m (fun y => some y) i a xs) a ((0 : Int), (0 : Int)) hn (fun i m xs hi hx => ?_) (fun m xs => ?_) _ (by simp)
  · show L.toTokS_l0 (m + 1) _ _ _ _ = L.toTokS_l0 m _ _ _ _
    rw [L.toTokS_l0, cdp (by omega), cdp (by omega), toTok_eq (nthI a (i : Int) ((0 : Int), (0 : Int))), Option.bind_some, cdp (by omega), w64 (by omega) (by omega)]
    rfl
  · show L.toTokS_l0 (m + 1) _ _ _ _ = _
    rw [L.toTokS_l0, cdn (by omega)]
theorem toWinDef_eq (x : TWinDef) : L.toWinDef x.1 x.2.1 x.2.2 = some (x.1, x.2.1, x.2.2) := by
  rfl
theorem toQuery_eq (x : TQuery) (hc : cQuery x ≤ 1000000000000) : L.toQuery x.2.2.1.1 x.2.2.1.2.1 x.2.2.1.2.2 x.2.2.2.1 x.2.2.2.2 x.1 x.2.1 = some (x.2.2.1.1, x.2.2.1.2.1, x.2.2.1.2.2, x.2.2.2.1, x.2.2.2.2, x.1, x.2.1) := by
  unfold L.toQuery
  unfold cQuery at hc
  simp only [toTokS_eq x.1 (by omega), toTokS_eq x.2.1 (by omega), toWinDef_eq x.2.2.1, Option.bind_some]
abbrev TWin : Type := Int × Int
instance : DecidableEq TWin := (@instDecidableEqProd _ _ (inferInstance : DecidableEq Int) (inferInstance : DecidableEq Int))
theorem toWin_eq (x : TWin) : L.toWin x.1 x.2 = some (x.1, x.2) := by
  rfl
theorem toWide_eq (x : TWide) : L.toWide x.1 x.2 = some (x.1, x.2) := by
  rfl
theorem toIntS_eq (a : List Int) (hc : a.length ≤ 1000000000000) : L.toIntS a = some a := by
  have hn := hc
  unfold L.toIntS
  simp only []
  rw [cdp (by omega)]
  refine toLoop (fun m i xs => L.toIntS_l0 m (fun y => some y) i a xs) a (0 : Int) hn (fun i m xs hi hx => ?_) (fun m xs => ?_) _ (by simp)
  · show L.toIntS_l0 (m + 1) _ _ _ _ = L.toIntS_l0 m _ _ _ _
    rw [L.toIntS_l0, cdp (by omega), cdp (by omega), cdp (by omega), w64 (by omega) (by omega)]
    rfl
  · show L.toIntS_l0 (m + 1) _ _ _ _ = _
    rw [L.toIntS_l0, cdn (by omega)]
theorem toAgg_eq (x : TAgg) (hc : cAgg x ≤ 1000000000000) : L.toAgg x.1 x.2.1.1 x.2.1.2 x.2.2.1 x.2.2.2.1 x.2.2.2.2 = some (x.1, x.2.1.1, x.2.1.2, x.2.2.1, x.2.2.2.1, x.2.2.2.2) := by
  unfold L.toAgg
  unfold cAgg at hc
  simp only [toWide_eq x.2.1, toIntS_eq x.2.2.2.2 (by omega), Option.bind_some]
theorem eqIntS_eq (a b : List Int) (hc : a.length ≤ 1000000000000) : L.eqIntS a b = some (decide (a = b)) := by
  have hn := hc
  unfold L.eqIntS
  refine eqTop a b ?_
  intro hl
  refine eqLoop (fun m i => L.eqIntS_l0 m (fun y => some y) (some true) i a b) a b (0 : Int) hl hn (fun i m hi => ?_) (fun m => ?_)
  · show L.eqIntS_l0 (m + 1) _ _ _ _ _ = bif _ then L.eqIntS_l0 m _ _ _ _ _ else _
    rw [L.eqIntS_l0, cdp (by omega), cdp (by omega), cdp (by omega), cneI, w64 (by omega) (by omega)]
    rfl
  · show L.eqIntS_l0 (m + 1) _ _ _ _ _ = _
    rw [L.eqIntS_l0, cdn (by omega)]
abbrev TPane : Type := Int × Int × Int × Int × Int × Int × List Int × Bool
instance : DecidableEq TPane := (@instDecidableEqProd _ _ (inferInstance : DecidableEq Int) (@instDecidableEqProd _ _ (inferInstance : DecidableEq Int) (@instDecidableEqProd _ _ (inferInstance : DecidableEq Int) (@instDecidableEqProd _ _ (inferInstance : DecidableEq Int) (@instDecidableEqProd _ _ (inferInstance : DecidableEq Int) (@instDecidableEqProd _ _ (inferInstance : DecidableEq Int) (@instDecidableEqProd _ _ (inferInstance : DecidableEq (List Int)) (inferInstance : DecidableEq Bool))))))))
def cPane (x : TPane) : Nat := (x.2.2.2.2.2.2.1).length
theorem eqPane_eq (x y : TPane) (hc : cPane x ≤ 1000000000000) : L.eqPane x.1 x.2.1 x.2.2.1 x.2.2.2.1 x.2.2.2.2.1 x.2.2.2.2.2.1 x.2.2.2.2.2.2.2 y.1 y.2.1 y.2.2.1 y.2.2.2.1 y.2.2.2.2.1 y.2.2.2.2.2.1 y.2.2.2.2.2.2.2 x.2.2.2.2.2.2.1 y.2.2.2.2.2.2.1 = some (decide (x = y)) := by
  unfold cPane at hc
  unfold L.eqPane
  simp only [eqIntS_eq x.2.2.2.2.2.2.1 y.2.2.2.2.2.2.1 (by omega), cneI, cneB, cnotb, cbeB, cds, cdt, Option.bind_some]
  exact sdec ⟨fun h => (Prod.ext h.1 (Prod.ext h.2.1 (Prod.ext h.2.2.1 (Prod.ext h.2.2.2.1 (Prod.ext h.2.2.2.2.1 (Prod.ext h.2.2.2.2.2.1 (Prod.ext h.2.2.2.2.2.2.1 h.2.2.2.2.2.2.2))))))), by rintro rfl; exact ⟨rfl, rfl, rfl, rfl, rfl, rfl, rfl, rfl⟩⟩
theorem eqTok_eq (x y : TTok) : L.eqTok x.1 x.2 y.1 y.2 = some (decide (x = y)) := by
  unfold L.eqTok
  simp only [cneI, cneB, cnotb, cbeB, cds, cdt, Option.bind_some]
  exact sdec ⟨fun h => (Prod.ext h.1 h.2), by rintro rfl; exact ⟨rfl, rfl⟩⟩
theorem eqTokS_eq (a b : List TTok) (hc : a.length ≤ 1000000000000) : L.eqTokS a b = some (decide (a = b)) := by
  have hn := hc
  unfold L.eqTokS
  refine eqTop a b ?_
  intro hl
  refine eqLoop (fun m i => L.eqTokS_l0 m (fun y => some y) (some true) i a b) a b ((0 : Int), (0 : Int)) hl hn (fun i m hi => ?_) (fun m => ?_)
  · show L.eqTokS_l0 (m + 1) _ _ _ _ _ = bif _ then L.eqTokS_l0 m _ _ _ _ _ else _
    rw [L.eqTokS_l0, cdp (by omega), cdp (by omega), cdp (by omega), eqTok_eq (nthI a (i : Int) ((0 : Int), (0 : Int))) (nthI b (i : Int) ((0 : Int), (0 : Int))), Option.bind_some, cnotb, w64 (by omega) (by omega)]
    rfl
  · show L.eqTokS_l0 (m + 1) _ _ _ _ _ = _
    rw [L.eqTokS_l0, cdn (by omega)]
theorem eqWinDef_eq (x y : TWinDef) : L.eqWinDef x.1 x.2.1 x.2.2 y.1 y.2.1 y.2.2 = some (decide (x = y)) := by
  unfold L.eqWinDef
  simp only [cneI, cneB, cnotb, cbeB, cds, cdt, Option.bind_some]
  exact sdec ⟨fun h => (Prod.ext h.1 (Prod.ext h.2.1 h.2.2)), by rintro rfl; exact ⟨rfl, rfl, rfl⟩⟩
theorem eqQuery_eq (x y : TQuery) (hc : cQuery x ≤ 1000000000000) : L.eqQuery x.2.2.1.1 x.2.2.1.2.1 x.2.2.1.2.2 x.2.2.2.1 x.2.2.2.2 y.2.2.1.1 y.2.2.1.2.1 y.2.2.1.2.2 y.2.2.2.1 y.2.2.2.2 x.1 x.2.1 y.1 y.2.1 = some (decide (x = y)) := by
  unfold cQuery at hc
  unfold L.eqQuery
  simp only [eqTokS_eq x.1 y.1 (by omega), eqTokS_eq x.2.1 y.2.1 (by omega), eqWinDef_eq x.2.2.1 y.2.2.1, cneI, cneB, cnotb, cbeB, cds, cdt, Option.bind_some]
  exact sdec ⟨fun h => (Prod.ext h.1 (Prod.ext h.2.1 (Prod.ext h.2.2.1 (Prod.ext h.2.2.2.1 h.2.2.2.2)))), by rintro rfl; exact ⟨rfl, rfl, rfl, rfl, rfl⟩⟩
theorem eqWide_eq (x y : TWide) : L.eqWide x.1 x.2 y.1 y.2 = some (decide (x = y)) := by
  unfold L.eqWide
  simp only [cneI, cneB, cnotb, cbeB, cds, cdt, Option.bind_some]
  exact sdec ⟨fun h => (Prod.ext h.1 h.2), by rintro rfl; exact ⟨rfl, rfl⟩⟩
theorem eqAgg_eq (x y : TAgg) (hc : cAgg x ≤ 1000000000000) : L.eqAgg x.1 x.2.1.1 x.2.1.2 x.2.2.1 x.2.2.2.1 y.1 y.2.1.1 y.2.1.2 y.2.2.1 y.2.2.2.1 x.2.2.2.2 y.2.2.2.2 = some (decide (x = y)) := by
  unfold cAgg at hc
  unfold L.eqAgg
  simp only [eqWide_eq x.2.1 y.2.1, eqIntS_eq x.2.2.2.2 y.2.2.2.2 (by omega), cneI, cneB, cnotb, cbeB, cds, cdt, Option.bind_some]
  exact sdec ⟨fun h => (Prod.ext h.1 (Prod.ext h.2.1 (Prod.ext h.2.2.1 (Prod.ext h.2.2.2.1 h.2.2.2.2)))), by rintro rfl; exact ⟨rfl, rfl, rfl, rfl, rfl⟩⟩
def m1Tok (k : Int) (x : TTok) : TTok := (k, k + 1)
def w1Tok (x : TTok) : Nat := 2
def mTokS (k : Int) (a : List TTok) : List TTok := markAll m1Tok w1Tok k a
theorem markTokS_eq (k : Int) (a : List TTok) (h0 : 0 ≤ k) (hc : k + 2 * (a.length : Int) ≤ 1000000000000) : L.markTokS k a = some (k + 2 * (a.length : Int), mTokS k a) := by
  unfold L.markTokS mTokS
  refine (markLoop (fun m k i xs => L.markTokS_l0 m (fun y12 y13 => some (y12, y13)) k i xs) m1Tok w1Tok a ((0 : Int), (0 : Int)) 2 (fun _ => rfl) h0 (by omega) hc (fun i m k xs hi hx h0 h1 => ?_) (fun m k xs hx => ?_)).trans rfl
  · show L.markTokS_l0 (m + 1) _ _ _ _ = L.markTokS_l0 m _ _ _ _
    have hdec : decide ((0 : Int) ≤ (i : Int) ∧ (i : Int) < (xs.length : Int)) = true := by simp; omega
    rw [L.markTokS_l0, cdp (by omega)]
    simp (disch := omega) only [df1, hdec, cond_true, w64, u8_mod, u64w, List.length_set, nthI_set, List.set_set, Int.toNat_natCast, cmod3, Int.add_assoc, Int.reduceAdd, if_false, reduceIte]
    rfl
  · show L.markTokS_l0 (m + 1) _ _ _ _ = _
    rw [L.markTokS_l0, cdn (by omega)]
theorem markQuery_eq (x : TQuery) (k : Int) (h0 : 0 ≤ k) (hc : k + (2 * ((x.1).length : Int) + 2 * ((x.2.1).length : Int)) ≤ 1000000000000) : L.markQuery x.2.2.1.1 x.2.2.1.2.1 x.2.2.1.2.2 x.2.2.2.1 x.2.2.2.2 k x.1 x.2.1 = some (k + (2 * ((x.1).length : Int) + 2 * ((x.2.1).length : Int)), (mTokS (k) x.1), (mTokS (k + 2 * ((x.1).length : Int)) x.2.1)) := by
  unfold L.markQuery
  simp (disch := omega) only [df1, Int.add_assoc, Option.bind_some, dlt0, cond_false, markTokS_eq]
def m1Int (k : Int) (_ : Int) : Int := k
def w1Int (_ : Int) : Nat := 1
def mIntS (k : Int) (a : List Int) : List Int := markAll m1Int w1Int k a
theorem markIntS_eq (k : Int) (a : List Int) (h0 : 0 ≤ k) (hc : k + 1 * (a.length : Int) ≤ 1000000000000) : L.markIntS k a = some (k + 1 * (a.length : Int), mIntS k a) := by
  unfold L.markIntS mIntS
  refine (markLoop (fun m k i xs => L.markIntS_l0 m (fun y12 y13 => some (y12, y13)) k i xs) m1Int w1Int a (0 : Int) 1 (fun _ => rfl) h0 (by omega) hc (fun i m k xs hi hx h0 h1 => ?_) (fun m k xs hx => ?_)).trans rfl
  · show L.markIntS_l0 (m + 1) _ _ _ _ = L.markIntS_l0 m _ _ _ _
    have hdec : decide ((0 : Int) ≤ (i : Int) ∧ (i : Int) < (xs.length : Int)) = true := by simp; omega
    rw [L.markIntS_l0, cdp (by omega)]
    simp (disch := omega) only [df1, hdec, cond_true, w64, u8_mod, u64w, List.length_set, nthI_set, List.set_set, Int.toNat_natCast, cmod3, Int.add_assoc, Int.reduceAdd, if_false, reduceIte]
    rfl
  · show L.markIntS_l0 (m + 1) _ _ _ _ = _
    rw [L.markIntS_l0, cdn (by omega)]
theorem markAgg_eq (x : TAgg) (k : Int) (h0 : 0 ≤ k) (hc : k + 1 * ((x.2.2.2.2).length : Int) ≤ 1000000000000) : L.markAgg x.1 x.2.1.1 x.2.1.2 x.2.2.1 x.2.2.2.1 k x.2.2.2.2 = some (k + 1 * ((x.2.2.2.2).length : Int), (mIntS (k) x.2.2.2.2)) := by
  unfold L.markAgg
  simp (disch := omega) only [df1, Int.add_assoc, Option.bind_some, dlt0, cond_false, markIntS_eq]
theorem markPane_eq (x : TPane) (k : Int) (h0 : 0 ≤ k) (hc : k + 1 * ((x.2.2.2.2.2.2.1).length : Int) ≤ 1000000000000) : L.markPane x.1 x.2.1 x.2.2.1 x.2.2.2.1 x.2.2.2.2.1 x.2.2.2.2.2.1 x.2.2.2.2.2.2.2 k x.2.2.2.2.2.2.1 = some (k + 1 * ((x.2.2.2.2.2.2.1).length : Int), (mIntS (k) x.2.2.2.2.2.2.1)) := by
  unfold L.markPane
  simp (disch := omega) only [df1, Int.add_assoc, Option.bind_some, dlt0, cond_false, markIntS_eq]
theorem heldIntS_eq (k : Int) (a : List Int) (h0 : 0 ≤ k) (hc : k + 1 * (a.length : Int) ≤ 1000000000000) : L.heldIntS k (mIntS k a) = some (k + 1 * (a.length : Int)) := by
  unfold L.heldIntS
  refine heldLoop (fun m q i => L.heldIntS_l0 m (fun y12 y13 => some y13) (fun y14 => some y14) q i (mIntS k a)) m1Int w1Int a (0 : Int) 1 (fun _ => rfl) k h0 (by omega) hc (fun i m j hi h0 h1 hx => ?_) (fun m j => ?_)
  all_goals (have hl : (mIntS k a).length = a.length := markAll_length _ _ _ _)
  · show L.heldIntS_l0 (m + 1) _ _ _ _ _ = L.heldIntS_l0 m _ _ _ _ _
    have hx : nthI (mIntS k a) (i : Int) (0 : Int) = _ := hx
    have hdec : decide ((0 : Int) ≤ (i : Int) ∧ (i : Int) < ((mIntS k a).length : Int)) = true := by rw [hl]; simp; omega
    rw [L.heldIntS_l0, cdp (by omega)]
    simp (disch := omega) only [df1, hdec, hx, m1Int, cond_true, cond_false, w64, u8_mod, u64w, bne_self_eq_false, cmod3, Int.add_assoc, Int.reduceAdd, if_false, reduceIte, beq_self_eq_true, Bool.not_true]
    rfl
  · show L.heldIntS_l0 (m + 1) _ _ _ _ _ = _
    rw [L.heldIntS_l0, cdn (by rw [hl]; omega)]
theorem heldPane_eq (x : TPane) (k : Int) (h0 : 0 ≤ k) (hc : k + 1 * ((x.2.2.2.2.2.2.1).length : Int) ≤ 1000000000000) : L.heldPane x.1 x.2.1 x.2.2.1 x.2.2.2.1 x.2.2.2.2.1 x.2.2.2.2.2.1 x.2.2.2.2.2.2.2 k (mIntS (k) x.2.2.2.2.2.2.1) = some (k + 1 * ((x.2.2.2.2.2.2.1).length : Int)) := by
  unfold L.heldPane
  simp (disch := omega) only [df1, Int.add_assoc, Option.bind_some, dlt0, cond_false, heldIntS_eq]
theorem in_eq (a b c : Int) : I.in a b c = some (decide (b ≤ a ∧ a ≤ c)) := by unfold I.in; rw [cond_some, cond_and, dand]
def takesF (op : Int) : Int := if op ≤ 3 then 0 else if op = 11 then 1 else 2
theorem takesF_le (op : Int) : 0 ≤ takesF op ∧ takesF op ≤ 2 := by unfold takesF; split <;> (try split) <;> omega
theorem sTakes_eq (a : Int) : S.l03Takes a = some (takesF a) := by
  unfold S.l03Takes takesF
  by_cases h : a ≤ 3
  · rw [cdp h, if_pos h]
  · rw [cdn h, if_neg h]
    by_cases h2 : a = 11
    · rw [cep h2, if_pos h2]
    · rw [cen h2, if_neg h2]
theorem iTakes_eq (a b : Int) : I.Tok_takes a b = some (takesF a) := by
  unfold I.Tok_takes takesF
  by_cases h : a ≤ 3
  · rw [cdp h, if_pos h]
  · rw [cdn h, if_neg h]
    by_cases h2 : a = 11
    · rw [cep h2, if_pos h2]
    · rw [cen h2, if_neg h2]
/-- An operation that fits onto so many numbers. -/
def tokFits (t : Int × Int) (n : Int) : Prop := (0 ≤ t.1 ∧ t.1 ≤ 11) ∧ (t.1 = 0 ∨ t.2 = 0) ∧ takesF t.1 ≤ n
instance (t : Int × Int) (n : Int) : Decidable (tokFits t n) := by unfold tokFits; exact inferInstance
def depthGo : List (Int × Int) → Int → Int → Option (Int × Int)
  | [], n, mo => some (n, mo)
  | t :: ts, n, mo => if tokFits t n then depthGo ts (n - takesF t.1 + 1) (max mo (n - takesF t.1 + 1)) else none
def depthF (x : List (Int × Int)) : Int :=
  if 1 ≤ x.length ∧ x.length ≤ 20 then
    match depthGo x 0 0 with
    | some r => if r.1 = 1 then r.2 else -1
    | none => -1
  else -1
theorem depthGo_le : ∀ (x : List (Int × Int)) (n mo : Int) (r : Int × Int), n ≤ mo → depthGo x n mo = some r → r.1 ≤ r.2
  | [], n, mo, r, h, e => by simp only [depthGo, Option.some.injEq] at e; subst e; exact h
  | t :: ts, n, mo, r, h, e => by
    simp only [depthGo] at e
    split at e
    · exact depthGo_le ts _ _ r (by omega) e
    · cases e
theorem depthF_cases (x : List (Int × Int)) : depthF x = -1 ∨ 1 ≤ depthF x := by
  unfold depthF
  split
  · split
    · rename_i r hr
      split
      · have := depthGo_le x 0 0 r (by omega) hr; omega
      · omega
    · omega
  · omega
theorem max_if (a b : Int) : (if a > b then a else b) = max b a := by split <;> omega
theorem sDepth_l (e0 : Int → Int → Int → Option Int) (e1 : Int → Int → Option Int) (he : ∀ a b, e0 (-1) a b = some (-1)) (x : List (Int × Int)) (hx : x.length ≤ 20) (m : Nat) : ∀ (d i : Nat) (n mo : Int), i + d = x.length → 0 ≤ n → n ≤ i →
    S.l03Depth_l0 (d + 1 + m) e0 e1 n mo (i : Int) x = match depthGo (x.drop i) n mo with | some r => e1 r.1 r.2 | none => some (-1) := by
  intro d
  induction d with
  | zero =>
    intro i n mo hi h0 h1
    rw [show 0 + 1 + m = m + 1 from by omega, S.l03Depth_l0, cdn (by omega), List.drop_of_length_le (by omega)]
    rfl
  | succ d ih =>
    intro i n mo hi h0 h1
    rw [show d + 1 + 1 + m = (d + 1 + m) + 1 from by omega, S.l03Depth_l0, cdp (by omega), drop_at x i ((0 : Int), (0 : Int)) (by omega), depthGo]
    generalize nthI x (i : Int) ((0 : Int), (0 : Int)) = t
    have hdec : decide ((0 : Int) ≤ (i : Int) ∧ (i : Int) < (x.length : Int)) = true := by simp; omega
    have ht := takesF_le t.1
    simp only [hdec, cond_true, sTakes_eq, Option.bind_some]
    by_cases c1 : t.1 < 0
    · rw [cdp c1, if_neg (by unfold tokFits; omega), he]
    rw [cdn c1]
    by_cases c2 : 11 < t.1
    · rw [cdp c2, if_neg (by unfold tokFits; omega), he]
    rw [cdn c2]
    have fin : (bif decide (n < takesF t.1) then e0 (-1) n mo else
        S.l03Depth_l0 (d + 1 + m) e0 e1 (IntKind.i64.wrap (IntKind.i64.wrap (n - takesF t.1) + 1)) (if IntKind.i64.wrap (IntKind.i64.wrap (n - takesF t.1) + 1) > mo then IntKind.i64.wrap (IntKind.i64.wrap (n - takesF t.1) + 1) else mo) (IntKind.i64.wrap ((i : Int) + 1)) x) =
        if takesF t.1 ≤ n then (match depthGo (x.drop (i + 1)) (n - takesF t.1 + 1) (max mo (n - takesF t.1 + 1)) with | some r => e1 r.1 r.2 | none => some (-1)) else some (-1) := by
      by_cases c5 : n < takesF t.1
      · rw [cdp c5, if_neg (by omega), he]
      · rw [cdn c5, w64 (n := n - takesF t.1) (by omega) (by omega), w64 (n := n - takesF t.1 + 1) (by omega) (by omega), w64 (n := (i : Int) + 1) (by omega) (by omega), max_if, if_pos (by omega)]
        exact ih (i + 1) _ _ (by omega) (by omega) (by omega)
    by_cases c3 : t.1 = 0
    · rw [cnn c3, fin]
      by_cases c5 : takesF t.1 ≤ n
      · rw [if_pos c5, if_pos ⟨by omega, .inl c3, c5⟩]
      · rw [if_neg c5, if_neg (fun h => c5 h.2.2)]
    · rw [cnp c3]
      by_cases c4 : t.2 = 0
      · rw [cnn c4, fin]
        by_cases c5 : takesF t.1 ≤ n
        · rw [if_pos c5, if_pos ⟨by omega, .inr c4, c5⟩]
        · rw [if_neg c5, if_neg (fun h => c5 h.2.2)]
      · rw [cnp c4, he, if_neg (by unfold tokFits; omega)]
theorem iDepth_l (e0 : Int → Int → Int → Option Int) (e1 : Int → Int → Option Int) (he : ∀ a b, e0 (-1) a b = some (-1)) (x : List (Int × Int)) (hx : x.length ≤ 20) (m : Nat) : ∀ (d i : Nat) (n mo : Int), i + d = x.length → 0 ≤ n → n ≤ i →
    I.depth_l0 (d + 1 + m) e0 e1 n mo (x.length : Int) (i : Int) x = match depthGo (x.drop i) n mo with | some r => e1 r.1 r.2 | none => some (-1) := by
  intro d
  induction d with
  | zero =>
    intro i n mo hi h0 h1
    rw [show 0 + 1 + m = m + 1 from by omega, I.depth_l0, cdn (by omega), List.drop_of_length_le (by omega)]
    rfl
  | succ d ih =>
    intro i n mo hi h0 h1
    rw [show d + 1 + 1 + m = (d + 1 + m) + 1 from by omega, I.depth_l0, cdp (by omega), drop_at x i ((0 : Int), (0 : Int)) (by omega), depthGo]
    generalize nthI x (i : Int) ((0 : Int), (0 : Int)) = t
    have hdec : decide ((0 : Int) ≤ (i : Int) ∧ (i : Int) < (x.length : Int)) = true := by simp; omega
    have ht := takesF_le t.1
    simp only [hdec, cond_true, iTakes_eq, in_eq, Option.bind_some]
    by_cases c1 : ¬ (0 ≤ t.1 ∧ t.1 ≤ 11)
    · rw [decide_eq_false c1, Bool.not_false, cond_true, if_neg (fun h => c1 h.1), he]
    have c1 := Decidable.not_not.1 c1
    rw [decide_eq_true c1, Bool.not_true, cond_false]
    have fin : (bif decide (n < takesF t.1) then e0 (-1) n mo else
        I.depth_l0 (d + 1 + m) e0 e1 (IntKind.i64.wrap (n + IntKind.i64.wrap (1 - takesF t.1))) (if IntKind.i64.wrap (n + IntKind.i64.wrap (1 - takesF t.1)) > mo then IntKind.i64.wrap (n + IntKind.i64.wrap (1 - takesF t.1)) else mo) (x.length : Int) (IntKind.i64.wrap ((i : Int) + 1)) x) =
        if takesF t.1 ≤ n then (match depthGo (x.drop (i + 1)) (n - takesF t.1 + 1) (max mo (n - takesF t.1 + 1)) with | some r => e1 r.1 r.2 | none => some (-1)) else some (-1) := by
      by_cases c5 : n < takesF t.1
      · rw [cdp c5, if_neg (by omega), he]
      · rw [cdn c5, w64 (n := 1 - takesF t.1) (by omega) (by omega), w64 (n := n + (1 - takesF t.1)) (by omega) (by omega), w64 (n := (i : Int) + 1) (by omega) (by omega), max_if, if_pos (by omega), show n + (1 - takesF t.1) = n - takesF t.1 + 1 from by omega]
        exact ih (i + 1) _ _ (by omega) (by omega) (by omega)
    by_cases c3 : t.1 = 0
    · rw [cnn c3, fin]
      by_cases c5 : takesF t.1 ≤ n
      · rw [if_pos c5, if_pos ⟨by omega, .inl c3, c5⟩]
      · rw [if_neg c5, if_neg (fun h => c5 h.2.2)]
    · rw [cnp c3]
      by_cases c4 : t.2 = 0
      · rw [cnn c4, fin]
        by_cases c5 : takesF t.1 ≤ n
        · rw [if_pos c5, if_pos ⟨by omega, .inr c4, c5⟩]
        · rw [if_neg c5, if_neg (fun h => c5 h.2.2)]
      · rw [cnp c4, he, if_neg (by unfold tokFits; omega)]
theorem sDepth_eq (x : List (Int × Int)) : S.l03Depth x = some (depthF x) := by
  unfold S.l03Depth depthF
  by_cases h1 : x.length < 1
  · rw [cdp (by omega), if_neg (by omega)]
  rw [cdn (by omega)]
  by_cases h2 : 20 < x.length
  · rw [cdp (by omega), if_neg (by omega)]
  rw [cdn (by omega), if_pos (by omega)]
  obtain ⟨m, hm⟩ := fu_ge x.length (by omega)
  have := sDepth_l (fun y30 y31 y32 => some y30) (fun y33 y34 => bif (y33 != 1) then some (-1) else some y34) (fun _ _ => rfl) x (by omega) m x.length 0 0 0 (by omega) (by omega) (by omega)
  rw [hm]
  refine this.trans ?_
  rw [List.drop_zero]
  cases depthGo x 0 0 with
  | none => rfl
  | some r =>
    simp only
    by_cases e : r.1 = 1
    · rw [cnn e, if_pos e]
    · rw [cnp e, if_neg e]
theorem iDepth_eq (x : List (Int × Int)) (hx : x.length ≤ 1000000000000) : I.depth x = some (depthF x) := by
  unfold I.depth depthF
  rw [in_eq, Option.bind_some]
  by_cases h1 : ¬ (1 ≤ x.length ∧ x.length ≤ 20)
  · rw [decide_eq_false (by omega), Bool.not_false, cond_true, if_neg h1]
  have h1 := Decidable.not_not.1 h1
  rw [decide_eq_true (by omega), Bool.not_true, cond_false, if_pos h1]
  obtain ⟨m, hm⟩ := fu_ge x.length (by omega)
  have := iDepth_l (fun y30 y31 y32 => some y30) (fun y33 y34 => bif (y33 != 1) then some (-1) else some y34) (fun _ _ => rfl) x (by omega) m x.length 0 0 0 (by omega) (by omega) (by omega)
  rw [hm]
  refine this.trans ?_
  rw [List.drop_zero]
  cases depthGo x 0 0 with
  | none => rfl
  | some r =>
    simp only
    by_cases e : r.1 = 1
    · rw [cnn e, if_pos e]
    · rw [cnp e, if_neg e]
def exprOk (x : List (Int × Int)) : Prop := 0 < depthF x
instance (x : List (Int × Int)) : Decidable (exprOk x) := by unfold exprOk; exact inferInstance
theorem sExprOk_eq (x : List (Int × Int)) : S.ExprOk x = some (decide (exprOk x)) := by
  unfold S.ExprOk
  rw [sDepth_eq, Option.bind_some]
  have := depthF_cases x
  exact congrArg some (decide_eq_decide.mpr (by unfold exprOk; omega))
theorem iExprOk_eq (x : List (Int × Int)) (hx : x.length ≤ 1000000000000) : I.isExpr x = some (decide (exprOk x)) := by
  unfold I.isExpr
  rw [iDepth_eq x hx, Option.bind_some]
  rfl
def winOk (k s p : Int) : Prop := (1 ≤ s ∧ s ≤ 100) ∧ ((k = 1 ∨ k = 3) ∧ p = 0 ∨ k = 2 ∧ 1 ≤ p ∧ p ≤ s ∧ s ≤ 8 * p)
instance (k s p : Int) : Decidable (winOk k s p) := by unfold winOk; exact inferInstance
theorem sWinOk_eq (k s p : Int) (h0 : -9223372036854775808 ≤ p) (h1 : p < 9223372036854775808) : S.WinOk k s p = some (decide (winOk k s p)) := by
  unfold S.WinOk
  simp only [Bool.cond_eq_ite, decide_eq_true_eq, bne_iff_ne]
  repeat' split
  all_goals first
    | exact sfal (by unfold winOk; omega)
    | exact sbool (by unfold winOk; rw [beq_iff_eq]; omega)
    | (rw [w64 (by omega) (by omega)]; exact sdec (by unfold winOk; omega))
theorem iWinOk_eq (k s p : Int) (h0 : -9223372036854775808 ≤ p) (h1 : p < 9223372036854775808) : I.isWinDef k s p = some (decide (winOk k s p)) := by
  unfold I.isWinDef
  simp only [in_eq, Option.bind_some, Bool.cond_eq_ite, decide_eq_true_eq, bne_iff_ne, beq_iff_eq, Bool.not_eq_true', decide_eq_false_iff_not]
  repeat' split
  all_goals first
    | exact sfal (by unfold winOk; omega)
    | exact sbool (by unfold winOk; rw [beq_iff_eq]; omega)
    | (rw [w64 (by omega) (by omega)]; exact sdec (by unfold winOk; omega))
def aggKind (a b : Int) : Prop := a = 6 ∧ 1 ≤ b ∧ b ≤ 4 ∨ 1 ≤ a ∧ a ≤ 5 ∧ b = 0
instance (a b : Int) : Decidable (aggKind a b) := by unfold aggKind; exact inferInstance
theorem sAggKind_eq (a b : Int) : S.AggKind a b = some (decide (aggKind a b)) := by
  unfold S.AggKind
  simp only [Bool.cond_eq_ite, decide_eq_true_eq, beq_iff_eq]
  repeat' split
  all_goals first
    | exact sfal (by unfold aggKind; omega)
    | exact sbool (by unfold aggKind; rw [beq_iff_eq]; omega)
    | exact sdec (by unfold aggKind; omega)
theorem iAggKind_eq (a b : Int) : I.isAggKind a b = some (decide (aggKind a b)) := by
  unfold I.isAggKind
  simp only [in_eq, Option.bind_some, Bool.cond_eq_ite, decide_eq_true_eq, beq_iff_eq]
  repeat' split
  all_goals first
    | exact sfal (by unfold aggKind; omega)
    | exact sbool (by unfold aggKind; rw [beq_iff_eq]; omega)
    | exact sdec (by unfold aggKind; omega)
def queryOk (k s p a b : Int) (x y : List (Int × Int)) : Prop := exprOk x ∧ exprOk y ∧ winOk k s p ∧ aggKind a b
instance (k s p a b : Int) (x y : List (Int × Int)) : Decidable (queryOk k s p a b x y) := by unfold queryOk; exact inferInstance
theorem sQueryOk_eq (k s p a b : Int) (x y : List (Int × Int)) (h0 : -9223372036854775808 ≤ p) (h1 : p < 9223372036854775808) : S.QueryOk k s p a b x y = some (decide (queryOk k s p a b x y)) := by
  unfold S.QueryOk
  simp only [sExprOk_eq, sWinOk_eq k s p h0 h1, sAggKind_eq, Option.bind_some, cds]
  exact sdec Iff.rfl
theorem iQueryOk_eq (k s p a b : Int) (x y : List (Int × Int)) (h0 : -9223372036854775808 ≤ p) (h1 : p < 9223372036854775808) (hx : x.length ≤ 1000000000000) (hy : y.length ≤ 1000000000000) : I.isQuery k s p a b x y = some (decide (queryOk k s p a b x y)) := by
  unfold I.isQuery
  simp only [iExprOk_eq x hx, iExprOk_eq y hy, iWinOk_eq k s p h0 h1, iAggKind_eq, Option.bind_some, cds]
  exact sdec Iff.rfl
theorem isKey_eq (a : Int) : I.isKey a = some (decide (0 ≤ a ∧ a ≤ 15)) := by unfold I.isKey; rw [in_eq]; rfl
theorem l04Key_eq (a : Int) : S.l04Key a = some (decide (0 ≤ a ∧ a ≤ 15)) := by unfold S.l04Key; rw [cond_some, cond_and, dand]
def inI (n : Int) : Prop := -9223372036854775808 ≤ n ∧ n < 9223372036854775808
instance (n : Int) : Decidable (inI n) := by unfold inI; exact inferInstance
def inW (n : Int) : Prop := -170141183460469231731687303715884105728 ≤ n ∧ n < 170141183460469231731687303715884105728
def wd (n : Int) : Int × Int := (IntKind.i64.wrap (n / 18446744073709551616), n % 18446744073709551616)
theorem i64_u64 (n : Int) : IntKind.i64.wrap (IntKind.u64.wrap n) = IntKind.i64.wrap n := by rw [u64_mod, IntKind.wrap_i64, IntKind.wrap_i64]; omega
theorem u64_i64 (n : Int) : IntKind.u64.wrap (IntKind.i64.wrap n) = IntKind.u64.wrap n := by rw [u64_mod, u64_mod, IntKind.wrap_i64]; omega
theorem u64_add (a b : Int) : IntKind.u64.wrap (IntKind.u64.wrap a + IntKind.u64.wrap b) = IntKind.u64.wrap (a + b) := by simp only [u64_mod]; omega
theorem i64_add (a b : Int) : IntKind.i64.wrap (IntKind.i64.wrap a + b) = IntKind.i64.wrap (a + b) := by simp only [IntKind.wrap_i64]; omega
theorem i64_add2 (a b : Int) : IntKind.i64.wrap (a + IntKind.i64.wrap b) = IntKind.i64.wrap (a + b) := by simp only [IntKind.wrap_i64]; omega
theorem i64_range (n : Int) : inI (IntKind.i64.wrap n) := by unfold inI; rw [IntKind.wrap_i64]; omega
theorem wd_range (n : Int) : inI (wd n).1 ∧ 0 ≤ (wd n).2 ∧ (wd n).2 < 18446744073709551616 := ⟨i64_range _, by unfold wd; omega, by unfold wd; omega⟩
theorem wd_of {h l n : Int} (h0 : inI h) (h1 : 0 ≤ l) (h2 : l < 18446744073709551616) (hn : n = h * 18446744073709551616 + l) : (h, l) = wd n := by
  unfold inI at h0
  unfold wd
  have e1 : n / 18446744073709551616 = h := by omega
  have e2 : n % 18446744073709551616 = l := by omega
  rw [e1, e2, w64 h0.1 h0.2]
theorem wd_inj {m n : Int} (hm : inW m) (hn : inW n) (h : wd m = wd n) : m = n := by
  unfold inW at hm hn
  unfold wd at h
  simp only [Prod.mk.injEq, IntKind.wrap_i64] at h
  omega
theorem sWideOf_eq (n : Int) (h : inI n) : S.WideOf n = some (wd n) := by
  unfold inI at h
  unfold S.WideOf wd
  have e2 : IntKind.u64.wrap n = n % 18446744073709551616 := u64_mod n
  by_cases c : n < 0
  · rw [cdp c, e2, show n / 18446744073709551616 = -1 from by omega, w64 (by omega) (by omega)]
  · rw [cdn c, e2, show n / 18446744073709551616 = 0 from by omega, w64 (by omega) (by omega)]
theorem sWideAdd_eq (a b : Int) : S.WideAdd (wd a).1 (wd a).2 (wd b).1 (wd b).2 = some (wd (a + b)) := by
  unfold S.WideAdd wd
  simp only [u64_i64, u64_add, i64_u64]
  have ha := Int.mul_ediv_add_emod a 18446744073709551616
  have hb := Int.mul_ediv_add_emod b 18446744073709551616
  have ha2 := Int.emod_lt_of_pos a (show (0 : Int) < 18446744073709551616 by decide)
  have hb2 := Int.emod_lt_of_pos b (show (0 : Int) < 18446744073709551616 by decide)
  have ha0 := Int.emod_nonneg a (show (18446744073709551616 : Int) ≠ 0 by decide)
  have hb0 := Int.emod_nonneg b (show (18446744073709551616 : Int) ≠ 0 by decide)
  generalize a / 18446744073709551616 = A at *
  generalize a % 18446744073709551616 = p at *
  generalize b / 18446744073709551616 = B at *
  generalize b % 18446744073709551616 = q at *
  have e2 : IntKind.u64.wrap (p + q) = (a + b) % 18446744073709551616 := by rw [u64_mod]; omega
  by_cases c : IntKind.u64.wrap (p + q) < p
  · rw [cdp c, e2]
    rw [u64_mod] at c
    have e1 : (a + b) / 18446744073709551616 = A + B + 1 := by omega
    rw [e1]
    congr 2
    rw [u64_mod, IntKind.wrap_i64, IntKind.wrap_i64]
    omega
  · rw [cdn c, e2]
    rw [u64_mod] at c
    have e1 : (a + b) / 18446744073709551616 = A + B := by omega
    rw [e1]
theorem sWideNeg_eq (a : Int) : S.WideNeg (wd a).1 (wd a).2 = some (wd (-a)) := by
  unfold S.WideNeg
  have e1 : (IntKind.i64.wrap (-1 - (wd a).1), IntKind.u64.wrap (18446744073709551615 - (wd a).2)) = wd (-1 - a) := by
    unfold wd
    simp only [Prod.mk.injEq, u64_mod, IntKind.wrap_i64]
    omega
  have h1 := congrArg Prod.fst e1
  have h2 := congrArg Prod.snd e1
  simp only at h1 h2
  have e3 : wd 1 = (0, 1) := by decide
  have := sWideAdd_eq (-1 - a) 1
  rw [e3] at this
  rw [h1, h2, this, show -1 - a + 1 = -a from by omega]
  rfl
theorem sWideInt_eq (n : Int) (h : inW n) : S.WideInt (wd n).1 (wd n).2 = some (if inI n then (n, true) else (0, false)) := by
  unfold S.WideInt
  have hr := i64_range (wd n).2
  simp only [sWideOf_eq _ hr, Option.bind_some]
  have hw : inW (IntKind.i64.wrap (wd n).2) := by unfold inW inI at *; omega
  by_cases c : inI n
  · have e : IntKind.i64.wrap (wd n).2 = n := by unfold inI at c; unfold wd; rw [IntKind.wrap_i64]; omega
    rw [e, if_pos c]; simp
  · have e : wd (IntKind.i64.wrap (wd n).2) ≠ wd n := fun e => by rw [← wd_inj hw h e] at c; exact c hr
    rw [if_neg c]
    have : (((wd (IntKind.i64.wrap (wd n).2)).1 == (wd n).1) && (((wd (IntKind.i64.wrap (wd n).2)).2 == (wd n).2) && true)) = false := by
      rw [Bool.eq_false_iff]
      intro h
      simp only [Bool.and_true, Bool.and_eq_true, beq_iff_eq] at h
      exact e (Prod.ext h.1 h.2)
    rw [this]; rfl
theorem sTimes_l (e : Int → Int → Int → Int → Option (Int × Int)) (c1 c2 : Int) (m : Nat) : ∀ (d x : Nat) (W A : Int), x < 2 ^ d → x < 18446744073709551616 →
    S.l03Times_l0 (d + 1 + m) e (x : Int) c1 c2 (wd W).1 (wd W).2 (wd A).1 (wd A).2 = e c1 c2 (wd (W + (x : Int) * A)).1 (wd (W + (x : Int) * A)).2 := by
  intro d
  induction d with
  | zero =>
    intro x W A hx hx2
    obtain rfl : x = 0 := by simpa using hx
    rw [show 0 + 1 + m = m + 1 from by omega, S.l03Times_l0, cdn (by omega)]
    simp
  | succ d ih =>
    intro x W A hx hx2
    rw [show d + 1 + 1 + m = (d + 1 + m) + 1 from by omega, S.l03Times_l0]
    by_cases c : ¬ 0 < x
    · obtain rfl : x = 0 := by omega
      rw [cdn (by omega)]; simp
    rw [cdp (by omega), cdn (by decide)]
    simp only [sWideAdd_eq, Option.bind_some]
    rw [tmod_nat _ _ (by omega), tdiv_nat _ _ (by omega), u64w (by omega) (by omega)]
    have hq : x / 2 < 2 ^ d := by rw [Nat.pow_succ] at hx; omega
    have hi := fun W' => ih (x / 2) W' (A + A) hq (by omega)
    rw [show (x : Int) / 2 = ((x / 2 : Nat) : Int) from by omega]
    by_cases c2 : (x : Int) % 2 = 1
    · rw [cep c2, cdn (by decide), hi]
      rw [show (x : Int) = 2 * ((x / 2 : Nat) : Int) + 1 from by omega, Int.add_mul, Int.mul_add, Int.mul_assoc, Int.one_mul]
      generalize ((x / 2 : Nat) : Int) * A = Y
      rw [show W + A + (Y + Y) = W + (2 * Y + A) from by omega]
    · rw [cen c2, cdn (by decide), hi]
      rw [show (x : Int) = 2 * ((x / 2 : Nat) : Int) from by omega, Int.mul_add, Int.mul_assoc]
      generalize ((x / 2 : Nat) : Int) * A = Y
      rw [show W + (Y + Y) = W + 2 * Y from by omega]
theorem sTimes_eq (a b : Int) (ha : inI a) (hb : inI b) : S.l03Times a b = some (wd (a * b)) := by
  unfold S.l03Times
  rw [sWideOf_eq a ha, Option.bind_some]
  obtain ⟨m, hm⟩ := fu_ge 64 (by omega)
  have e0 : wd 0 = (0, 0) := by decide
  have key := fun (x : Nat) (A : Int) (hx : x < 18446744073709551616) => sTimes_l (fun y22 y23 y24 y25 => some (y24, y25)) 0 0 m 64 x 0 A (by omega) hx
  simp only [e0] at key
  unfold inI at hb
  by_cases c : b < 0
  · obtain ⟨x, hx⟩ := Int.eq_ofNat_of_zero_le (show 0 ≤ -b from by omega)
    simp only []
    rw [cdp c, sWideNeg_eq, Option.bind_some, hm, show IntKind.u64.wrap (0 - IntKind.u64.wrap b) = (x : Int) from by simp only [u64_mod]; omega]
    refine (key x (-a) (by omega)).trans ?_
    rw [← hx, Int.neg_mul_neg, Int.mul_comm b a, Int.zero_add]
  · obtain ⟨x, hx⟩ := Int.eq_ofNat_of_zero_le (show 0 ≤ b from by omega)
    simp only []
    rw [cdn c, hm, show IntKind.u64.wrap b = (x : Int) from by simp only [u64_mod]; omega]
    refine (key x a (by omega)).trans ?_
    rw [← hx, Int.mul_comm b a, Int.zero_add]
theorem compareInt_eq (a b : Int) : G.cmp.Compare_int a b = some (cmpF a b) := by
  unfold G.cmp.Compare_int G.cmp.isNaN_int cmpF
  simp only [Option.bind_some, bne_self_eq_false, cond_false]
  by_cases h : a < b
  · rw [cdp h, if_pos h]
  · rw [cdn h, if_neg h]
    by_cases h2 : b < a
    · rw [cdp h2, if_pos h2]
    · rw [cdn h2, if_neg h2]
def orF : List Int → Int
  | [] => 0
  | x :: xs => if x ≠ 0 then x else orF xs
theorem orInt_eq (a : List Int) (hn : a.length ≤ 1000000000000) : G.cmp.Or_int a = some (orF a) := by
  unfold G.cmp.Or_int
  obtain ⟨M, hM⟩ := fu_ge a.length hn
  have h1 : ∀ k i : Nat, i + k = a.length → G.cmp.Or_int_l0 (k + 1 + M) (fun y10 y11 => some y10) (fun y12 => some y12) 0 (a.length : Int) (i : Int) a = some (orF (a.drop i)) := by
    intro k
    induction k with
    | zero =>
      intro i hi
      rw [show 0 + 1 + M = M + 1 from by omega, G.cmp.Or_int_l0, cdn (by omega), List.drop_of_length_le (by omega)]; rfl
    | succ k ih =>
      intro i hi
      rw [show k + 1 + 1 + M = (k + 1 + M) + 1 from by omega, G.cmp.Or_int_l0, cdp (by omega), cdp (by omega), drop_at a i 0 (by omega), orF]
      simp only []
      by_cases c : nthI a (i : Int) 0 = 0
      · rw [cnn c, if_neg (by simpa using c), w64 (by omega) (by omega)]
        exact ih (i + 1) (by omega)
      · rw [cnp c, if_pos c]
  rw [hM]
  exact h1 a.length 0 (by omega)
theorem xor_ones_i64 (x : Int) (h : inI x) : Go.bits .xor .i64 (-1) x = -1 - x := by
  unfold inI at h
  show IntKind.i64.wrap (((BitVec.ofInt 64 (-1)) ^^^ (BitVec.ofInt 64 x)).toNat : Int) = -1 - x
  have e : (BitVec.ofInt 64 (-1)) = BitVec.allOnes 64 := by decide
  have e2 : ((BitVec.ofInt 64 x).toNat : Int) = x % 18446744073709551616 := by rw [BitVec.toNat_ofInt]; omega
  rw [e, BitVec.xor_comm, BitVec.xor_allOnes, BitVec.toNat_not, IntKind.wrap_i64]
  omega
theorem xor_ones_u64 (x : Int) (h0 : 0 ≤ x) (h1 : x < 18446744073709551616) : Go.bits .xor .u64 18446744073709551615 x = 18446744073709551615 - x := by
  show IntKind.u64.wrap (((BitVec.ofInt 64 18446744073709551615) ^^^ (BitVec.ofInt 64 x)).toNat : Int) = _
  have e : (BitVec.ofInt 64 18446744073709551615) = BitVec.allOnes 64 := by decide
  have e2 : ((BitVec.ofInt 64 x).toNat : Int) = x % 18446744073709551616 := by rw [BitVec.toNat_ofInt]; omega
  rw [e, BitVec.xor_comm, BitVec.xor_allOnes, BitVec.toNat_not, u64_mod]
  omega
theorem iWideOf_eq (n : Int) (h : inI n) : I.WideOf n = some (wd n) := by
  unfold inI at h
  unfold I.WideOf wd
  rw [cdp (by decide), show (2 : Int) ^ min (Int.toNat 63) (IntKind.bits .i64) = 9223372036854775808 from by decide, Int.fdiv_eq_ediv_of_nonneg _ (by decide), u64_mod, IntKind.wrap_i64]
  congr 2
  omega
theorem iWideAdd_eq (a b : Int) : I.WideAdd (wd a).1 (wd a).2 (wd b).1 (wd b).2 = some (wd (a + b)) := by
  unfold I.WideAdd
  have ha := (wd_range a).2
  have hb := (wd_range b).2
  rw [cdp (by omega)]
  unfold wd
  simp only [i64_add, i64_add2, Int.add_zero]
  have e : a / 18446744073709551616 + b / 18446744073709551616 + (a % 18446744073709551616 + b % 18446744073709551616) / 18446744073709551616 = (a + b) / 18446744073709551616 := by omega
  have e2 : (a % 18446744073709551616 + b % 18446744073709551616) % 18446744073709551616 = (a + b) % 18446744073709551616 := by omega
  rw [e, e2]
theorem iWideNeg_eq (a : Int) : I.WideNeg (wd a).1 (wd a).2 = some (wd (-a)) := by
  unfold I.WideNeg
  have hr := wd_range a
  rw [show (if IntKind.signed .i64 then (-1 : Int) else IntKind.max .i64) = -1 from by decide, show (if IntKind.signed .u64 then (-1 : Int) else IntKind.max .u64) = 18446744073709551615 from by decide]
  simp only []
  rw [xor_ones_i64 _ hr.1, xor_ones_u64 _ hr.2.1 hr.2.2]
  have e1 : (-1 - (wd a).1, 18446744073709551615 - (wd a).2) = wd (-1 - a) := by
    unfold wd
    simp only [Prod.mk.injEq, IntKind.wrap_i64]
    omega
  have h1 := congrArg Prod.fst e1
  have h2 := congrArg Prod.snd e1
  simp only at h1 h2
  have e3 : wd 1 = (0, 1) := by decide
  have := iWideAdd_eq (-1 - a) 1
  rw [e3] at this
  rw [h1, h2, this, show -1 - a + 1 = -a from by omega]
  rfl
theorem and_low (x : Int) (h0 : 0 ≤ x) (h1 : x < 18446744073709551616) : Go.bits .and .u64 x 4294967295 = x % 4294967296 := by
  obtain ⟨n, rfl⟩ := Int.eq_ofNat_of_zero_le h0
  have := bits_and_u64_nat n 4294967295 (by omega) (by omega)
  rw [show (4294967295 : Nat) = 2 ^ 32 - 1 from by decide, Nat.and_two_pow_sub_one_eq_mod] at this
  exact this
theorem mul64_digits (a b : Int) (ha : 0 ≤ a) (ha2 : a < 18446744073709551616) (hb : 0 ≤ b) (hb2 : b < 18446744073709551616) :
    ∃ p q r s : Int, (a / 4294967296) * (b / 4294967296) = p ∧ (a / 4294967296) * (b % 4294967296) = q ∧ (a % 4294967296) * (b / 4294967296) = r ∧ (a % 4294967296) * (b % 4294967296) = s ∧
      a * b = p * 18446744073709551616 + (q + r) * 4294967296 + s ∧ 0 ≤ p ∧ p ≤ 18446744065119617025 ∧ 0 ≤ q ∧ q ≤ 18446744065119617025 ∧ 0 ≤ r ∧ r ≤ 18446744065119617025 ∧ 0 ≤ s ∧ s ≤ 18446744065119617025 := by
  have bd : ∀ x y : Int, 0 ≤ x → x ≤ 4294967295 → 0 ≤ y → y ≤ 4294967295 → 0 ≤ x * y ∧ x * y ≤ 18446744065119617025 := fun x y h1 h2 h3 h4 => ⟨Int.mul_nonneg h1 h3, Int.le_trans (Int.mul_le_mul h2 h4 h3 (by decide)) (by decide)⟩
  have e : a * b = (a / 4294967296 * 4294967296 + a % 4294967296) * (b / 4294967296 * 4294967296 + b % 4294967296) := by rw [Int.ediv_mul_add_emod, Int.ediv_mul_add_emod]
  have h1 := bd (a / 4294967296) (b / 4294967296) (by omega) (by omega) (by omega) (by omega)
  have h2 := bd (a / 4294967296) (b % 4294967296) (by omega) (by omega) (by omega) (by omega)
  have h3 := bd (a % 4294967296) (b / 4294967296) (by omega) (by omega) (by omega) (by omega)
  have h4 := bd (a % 4294967296) (b % 4294967296) (by omega) (by omega) (by omega) (by omega)
  refine ⟨_, _, _, _, rfl, rfl, rfl, rfl, ?_, h1.1, h1.2, h2.1, h2.2, h3.1, h3.2, h4.1, h4.2⟩
  rw [e]
  generalize a / 4294967296 = A
  generalize a % 4294967296 = C
  generalize b / 4294967296 = B
  generalize b % 4294967296 = D
  rw [Int.add_mul, Int.mul_add, Int.mul_add]
  rw [show A * 4294967296 * (B * 4294967296) = A * B * 18446744073709551616 from by rw [Int.mul_assoc, Int.mul_left_comm 4294967296 B, ← Int.mul_assoc, show (4294967296 : Int) * 4294967296 = 18446744073709551616 from by decide]]
  rw [show A * 4294967296 * D = A * D * 4294967296 from by rw [Int.mul_assoc, Int.mul_comm 4294967296 D, ← Int.mul_assoc], show C * (B * 4294967296) = C * B * 4294967296 from by rw [Int.mul_assoc]]
  omega
theorem mul64_eq (a b : Int) (ha : 0 ≤ a) (ha2 : a < 18446744073709551616) (hb : 0 ≤ b) (hb2 : b < 18446744073709551616) : G.bits.Mul64 a b = some (a * b / 18446744073709551616, a * b % 18446744073709551616) := by
  unfold G.bits.Mul64
  have h32 : (2 : Int) ^ min (Int.toNat 32) (IntKind.bits .u64) = 4294967296 := by decide
  have hd : decide ((0 : Int) ≤ 32) = true := by decide
  obtain ⟨p, q, r, s, e1, e2, e3, e4, e5, p0, p1, q0, q1, r0, r1, s0, s1⟩ := mul64_digits a b ha ha2 hb hb2
  have fd : ∀ x : Int, Int.fdiv x 4294967296 = x / 4294967296 := fun x => Int.fdiv_eq_ediv_of_nonneg _ (by decide)
  simp only [hd, cond_true, h32, fd, and_low a ha ha2, and_low b hb hb2, e1, e2, e3, e4]
  rw [u64w q0 (by omega), u64w s0 (by omega), u64w p0 (by omega), u64w r0 (by omega), u64w (n := q + s / 4294967296) (by omega) (by omega), and_low _ (by omega) (by omega), u64w (n := p + (q + s / 4294967296) / 4294967296) (by omega) (by omega), u64w (n := (q + s / 4294967296) % 4294967296 + r) (by omega) (by omega), u64w (by omega) (by omega), u64_mod, e5]
  congr 2
  omega
theorem iTimesW_eq (n m : Int) (hn : inI n) (hm : 0 ≤ m) (hm2 : m < 18446744073709551616) (hm3 : m ≤ 9223372036854775807) : I.wideTimes n m = some (wd (n * m)) := by
  unfold I.wideTimes
  unfold inI at hn
  have em : IntKind.u64.wrap m = m := u64w hm hm2
  have key : ∀ z : Int, 0 ≤ z → z ≤ 9223372036854775808 → (IntKind.i64.wrap (z * m / 18446744073709551616), z * m % 18446744073709551616) = wd (z * m) := fun z h0 h1 => rfl
  simp only [em]
  by_cases c : n < 0
  · rw [cdp c, show IntKind.u64.wrap (0 - IntKind.u64.wrap n) = -n from by simp only [u64_mod]; omega, mul64_eq (-n) m (by omega) (by omega) hm hm2, Option.bind_some, cdp c]
    have h1 : IntKind.i64.wrap (-n * m / 18446744073709551616) = (wd (-n * m)).1 := rfl
    have h2 : -n * m % 18446744073709551616 = (wd (-n * m)).2 := rfl
    simp only []
    rw [h1, h2, iWideNeg_eq, Int.neg_mul, Int.neg_neg]
    rfl
  · rw [cdn c, show IntKind.u64.wrap n = n from u64w (by omega) (by omega), mul64_eq n m (by omega) (by omega) hm hm2, Option.bind_some, cdn c]
    rfl
theorem compareU64_eq (a b : Int) : G.cmp.Compare_uint64 a b = some (cmpF a b) := by
  unfold G.cmp.Compare_uint64 G.cmp.isNaN_uint64 cmpF
  simp only [Option.bind_some, bne_self_eq_false, cond_false]
  by_cases h : a < b
  · rw [cdp h, if_pos h]
  · rw [cdn h, if_neg h]
    by_cases h2 : b < a
    · rw [cdp h2, if_pos h2]
    · rw [cdn h2, if_neg h2]
theorem wd_cmp {a b : Int} (ha : inW a) (hb : inW b) : (if (wd a).1 ≠ (wd b).1 then cmpF (wd a).1 (wd b).1 else cmpF (wd a).2 (wd b).2) = cmpF a b := by
  unfold inW at ha hb
  unfold wd cmpF
  simp only [IntKind.wrap_i64]
  split <;> (repeat' split) <;> first | rfl | omega
theorem cmpF_zero (a b : Int) : cmpF a b = 0 ↔ a = b := by unfold cmpF; split <;> (try split) <;> omega
theorem orF_two (x y : Int) : orF [x, y] = if x ≠ 0 then x else y := by
  by_cases h : x = 0 <;> by_cases h2 : y = 0 <;> simp [orF, h, h2]
theorem iWideCmp_eq {a b : Int} (ha : inW a) (hb : inW b) : I.WideCmp (wd a).1 (wd a).2 (wd b).1 (wd b).2 = some (cmpF a b) := by
  unfold I.WideCmp
  rw [compareInt_eq, compareU64_eq, Option.bind_some, Option.bind_some, orInt_eq _ (by simp), Option.bind_some, ← wd_cmp ha hb, orF_two]
  by_cases h : (wd a).1 = (wd b).1
  · rw [(cmpF_zero _ _).2 h, if_neg (by decide), if_neg (fun q => q h)]
  · rw [if_pos (fun q => h ((cmpF_zero _ _).1 q)), if_pos h]
theorem sWideCmp_eq {a b : Int} (ha : inW a) (hb : inW b) : S.WideCmp (wd a).1 (wd a).2 (wd b).1 (wd b).2 = some (cmpF a b) := by
  rw [← wd_cmp ha hb]
  unfold S.WideCmp cmpF
  by_cases h : (wd a).1 = (wd b).1
  · rw [cnn h, if_neg (by simpa using h)]
    by_cases h2 : (wd a).2 = (wd b).2
    · rw [cnn h2, if_neg (by omega), if_neg (by omega)]
    · rw [cnp h2]
      by_cases h3 : (wd a).2 < (wd b).2
      · rw [cdp h3, if_pos h3]
      · rw [cdn h3, if_neg h3, if_pos (by omega)]
  · rw [cnp h, if_pos h]
    by_cases h3 : (wd a).1 < (wd b).1
    · rw [cdp h3, if_pos h3]
    · rw [cdn h3, if_neg h3, if_pos (by omega)]
def lsum : List Int → Int
  | [] => 0
  | x :: xs => x + lsum xs
theorem lsum_bd {a : List Int} (h : ∀ x ∈ a, inI x) : -9223372036854775808 * (a.length : Int) ≤ lsum a ∧ lsum a ≤ 9223372036854775807 * (a.length : Int) := by
  induction a with
  | nil => simp [lsum]
  | cons x xs ih =>
    have h1 := ih fun y hy => h y (List.mem_cons_of_mem _ hy)
    have h2 := h x List.mem_cons_self
    unfold inI at h2
    simp only [lsum, List.length_cons]
    omega
def maxAt (xs : List Int) : Nat → Nat → Nat → Nat
  | 0, _, a => a
  | k + 1, i, a => maxAt xs k (i + 1) (if nthI xs (a : Int) 0 < nthI xs (i : Int) 0 then i else a)
theorem maxAt_ok (xs : List Int) : ∀ k i a : Nat, i + k = xs.length → a < xs.length → (∀ j : Nat, j < i → nthI xs (j : Int) 0 ≤ nthI xs (a : Int) 0 ∧ (j < a → nthI xs (j : Int) 0 < nthI xs (a : Int) 0)) → (a ≤ i) →
    maxAt xs k i a < xs.length ∧ ∀ j : Nat, j < xs.length → nthI xs (j : Int) 0 ≤ nthI xs ((maxAt xs k i a : Nat) : Int) 0 ∧ (j < maxAt xs k i a → nthI xs (j : Int) 0 < nthI xs ((maxAt xs k i a : Nat) : Int) 0) := by
  intro k
  induction k with
  | zero => intro i a hi ha h _; obtain rfl : i = xs.length := by omega
            exact ⟨ha, h⟩
  | succ k ih =>
    intro i a hi ha h hle
    rw [maxAt]
    by_cases c : nthI xs (a : Int) 0 < nthI xs (i : Int) 0
    · rw [if_pos c]
      refine ih (i + 1) i (by omega) (by omega) (fun j hj => ?_) (by omega)
      rcases Nat.lt_or_ge j i with h' | h'
      · have := (h j h').1; exact ⟨by omega, fun _ => by omega⟩
      · obtain rfl : j = i := by omega
        exact ⟨Int.le_refl _, fun h => by omega⟩
    · rw [if_neg c]
      refine ih (i + 1) a (by omega) ha (fun j hj => ?_) (by omega)
      rcases Nat.lt_or_ge j i with h' | h'
      · exact h j h'
      · obtain rfl : j = i := by omega
        exact ⟨by omega, fun h => by omega⟩
def sel : Nat → List Int → List Int
  | 0, _ => []
  | n + 1, all => if all = [] then [] else nthI all ((maxAt all all.length 0 0 : Nat) : Int) 0 :: sel n (all.take (maxAt all all.length 0 0) ++ all.drop (maxAt all all.length 0 0 + 1))
theorem sel_length : ∀ n all, (sel n all).length ≤ n
  | 0, _ => by simp [sel]
  | n + 1, all => by
    rw [sel]
    split
    · simp
    · have := sel_length n (all.take (maxAt all all.length 0 0) ++ all.drop (maxAt all all.length 0 0 + 1))
      simp only [List.length_cons]; omega
def descB : List Int → Bool
  | [] => true
  | x :: xs => (xs.all fun y => decide (y ≤ x)) && descB xs
theorem sel_eq : ∀ n all, all.length ≤ n → (sel n all = all ↔ descB all = true)
  | 0, [], _ => by simp [sel, descB]
  | 0, x :: xs, h => by simp at h
  | n + 1, [], _ => by simp [sel, descB]
  | n + 1, x :: xs, h => by
    have hm := maxAt_ok (x :: xs) (x :: xs).length 0 0 (by omega) (by simp) (fun j hj => by omega) (by omega)
    have ih := sel_eq n xs (by simp at h; omega)
    rw [sel, if_neg (by simp)]
    generalize maxAt (x :: xs) (x :: xs).length 0 0 = a at *
    have h0 : nthI (x :: xs) ((0 : Nat) : Int) 0 = x := rfl
    have hj : ∀ y ∈ xs, ∃ j : Nat, j + 1 < (x :: xs).length ∧ nthI (x :: xs) ((j + 1 : Nat) : Int) 0 = y := fun y hy => by
      obtain ⟨j, hj, e⟩ := List.getElem_of_mem hy
      refine ⟨j, by simp; omega, ?_⟩
      rw [nthI_nat, List.getD_cons_succ, List.getD_eq_getElem?_getD, List.getElem?_eq_getElem hj, e]; rfl
    rw [descB, Bool.and_eq_true, List.all_eq_true]
    constructor
    · intro e
      injection e with e1 e2
      have ha : a = 0 := by
        rcases Nat.eq_zero_or_pos a with h' | h'
        · exact h'
        · have := (hm.2 0 (by simp)).2 h'
          rw [h0] at this; omega
      subst ha
      refine ⟨fun y hy => ?_, ih.1 (by simpa using e2)⟩
      obtain ⟨j, hj1, hj2⟩ := hj y hy
      have := (hm.2 (j + 1) hj1).1
      rw [hj2, h0] at this
      exact decide_eq_true this
    · rintro ⟨h1, h2⟩
      have ha : a = 0 := by
        rcases Nat.eq_zero_or_pos a with h' | h'
        · exact h'
        · have h3 := (hm.2 0 (by simp)).2 h'
          rw [h0] at h3
          obtain ⟨b, rfl⟩ : ∃ b, a = b + 1 := ⟨a - 1, by omega⟩
          have hb : b < xs.length := by have := hm.1; simp at this; omega
          have e : nthI (x :: xs) ((b + 1 : Nat) : Int) 0 = xs[b] := by
            rw [nthI_nat, List.getD_cons_succ, List.getD_eq_getElem?_getD, List.getElem?_eq_getElem hb]; rfl
          rw [e] at h3
          have := of_decide_eq_true (h1 _ (List.getElem_mem hb))
          omega
      subst ha
      rw [h0]
      simp only [List.take_zero, List.nil_append, List.drop_succ_cons, List.drop_zero, Nat.zero_add]
      rw [ih.2 h2]
theorem sTop_l1 (e : Int → List Int → List Int → Option (List Int)) (m : Nat) (xs acc : List Int) (hx : xs.length ≤ 1000000000000) : ∀ k i a : Nat, i + k = xs.length → a < xs.length → S.TopOf_l1 (k + 1 + m) e (a : Int) (i : Int) xs acc = e ((maxAt xs k i a : Nat) : Int) xs acc := by
  intro k
  induction k with
  | zero =>
    intro i a hi ha
    rw [show 0 + 1 + m = m + 1 from by omega, S.TopOf_l1, cdn (by omega)]; rfl
  | succ k ih =>
    intro i a hi ha
    rw [show k + 1 + 1 + m = (k + 1 + m) + 1 from by omega, S.TopOf_l1, cdp (by omega), cdp (by omega), cdp (by omega), w64 (by omega) (by omega), maxAt]
    simp only []
    by_cases c : nthI xs (a : Int) 0 < nthI xs (i : Int) 0
    · rw [cdp c, if_pos c]; exact ih (i + 1) i (by omega) (by omega)
    · rw [cdn c, if_neg c]; exact ih (i + 1) a (by omega) ha
theorem sTop_l0 (m : Nat) : ∀ (d : Nat) (all out : List Int), out.length + d = 4 → all.length ≤ 1000000000 → S.TopOf_l0 (d + 1 + m) (fun y => some y) all out = some (out ++ sel d all) := by
  intro d
  induction d with
  | zero =>
    intro all out ho ha
    rw [show 0 + 1 + m = m + 1 from by omega, S.TopOf_l0, cdn (by omega)]; simp [sel]
  | succ d ih =>
    intro all out ho ha
    rw [show d + 1 + 1 + m = (d + 1 + m) + 1 from by omega, S.TopOf_l0, cdp (by omega), sel]
    by_cases c : all = []
    · subst c
      rw [cdn (by simp), if_pos rfl]; simp
    · have hp : 0 < all.length := List.length_pos_iff.2 c
      obtain ⟨M, hM⟩ := fu_ge all.length (by omega)
      rw [cdp (by omega), if_neg c, hM]
      refine (sTop_l1 _ M all out (by omega) all.length 0 0 (by omega) hp).trans ?_
      have hm := (maxAt_ok all all.length 0 0 (by omega) hp (fun j hj => by omega) (by omega)).1
      generalize maxAt all all.length 0 0 = a at *
      have e1 : IntKind.i64.wrap ((a : Int) + 1) = ((a + 1 : Nat) : Int) := by rw [w64 (by omega) (by omega)]; omega
      simp only [e1, Int.toNat_natCast, List.nil_append]
      rw [cdp (by omega), cdp (by simp; omega), cdp (by omega), cdp (by omega), cdp (by simp; omega), cdp (by simp; omega)]
      rw [show Int.toNat 0 = 0 from rfl, List.drop_zero, List.take_of_length_le (Nat.le_refl all.length)]
      refine (ih _ _ (by simp; omega) (by simp; omega)).trans ?_
      simp
theorem sTopOf_eq (a b : List Int) (h : a.length + b.length ≤ 1000000000) : S.TopOf a b = some (sel 4 (a ++ b)) := by
  unfold S.TopOf
  obtain ⟨m, hm⟩ := fu_ge 4 (by omega)
  simp only [List.nil_append]
  rw [cdp (by simp; omega), cdp (by omega), hm]
  exact sTop_l0 m 4 (a ++ b) [] rfl (by rw [List.length_append]; omega)
theorem sSame_eq (a b : List Int) (hc : a.length ≤ 1000000000000) : S.l07Same a b = some (decide (a = b)) := by
  unfold S.l07Same
  refine eqTop a b ?_
  intro hl
  refine eqLoop (fun m i => S.l07Same_l0 m (fun y => some y) (some true) i a b) a b (0 : Int) hl hc (fun i m hi => ?_) (fun m => ?_)
  · show S.l07Same_l0 (m + 1) _ _ _ _ _ = bif _ then S.l07Same_l0 m _ _ _ _ _ else _
    rw [S.l07Same_l0, cdp (by omega), cdp (by omega), cdp (by omega), cneI, w64 (by omega) (by omega)]
    rfl
  · show S.l07Same_l0 (m + 1) _ _ _ _ _ = _
    rw [S.l07Same_l0, cdn (by omega)]
/-- What an aggregate must be. -/
def aggOk (N h l mn mx : Int) (top : List Int) : Prop :=
  (N = 0 ∧ h = 0 ∧ l = 0 ∧ mn = 0 ∧ mx = 0 ∧ top.length = 0) ∨
  ((1 ≤ N ∧ N ≤ 1000000) ∧ (top.length : Int) = (if 4 < N then 4 else N) ∧ descB top = true ∧ nthI top 0 0 = mx ∧ mn ≤ nthI top ((top.length - 1 : Nat) : Int) 0 ∧
    if N ≤ 4 then mn = nthI top ((top.length - 1 : Nat) : Int) 0 ∧ h * 18446744073709551616 + l = lsum top
    else lsum top + mn + mn * (N - 5) ≤ h * 18446744073709551616 + l ∧ h * 18446744073709551616 + l ≤ lsum top + mn + nthI top ((top.length - 1 : Nat) : Int) 0 * (N - 5))
instance (N h l mn mx : Int) (top : List Int) : Decidable (aggOk N h l mn mx top) := by unfold aggOk; exact inferInstance
/-- Consecutive ones. -/
def descI (a : List Int) (i : Nat) : Prop := ∀ j : Nat, i ≤ j → j < a.length → 0 < j → nthI a (j : Int) 0 ≤ nthI a ((j - 1 : Nat) : Int) 0
theorem descB_cons : ∀ (x : Int) (xs : List Int), descB (x :: xs) = true ↔ (∀ y ∈ xs, y ≤ x) ∧ descB xs = true := fun x xs => by
  rw [descB, Bool.and_eq_true, List.all_eq_true]
  simp only [decide_eq_true_eq]
theorem descI_cons (x y : Int) (xs : List Int) : descI (x :: y :: xs) 0 ↔ y ≤ x ∧ descI (y :: xs) 0 := by
  constructor
  · intro h
    refine ⟨h 1 (by omega) (by simp) (by omega), fun j _ hj h0 => ?_⟩
    obtain ⟨i, rfl⟩ : ∃ i, j = i + 1 := ⟨j - 1, by omega⟩
    exact h (i + 2) (by omega) (by simp at hj ⊢; omega) (by omega)
  · rintro ⟨h1, h2⟩ j _ hj h0
    obtain ⟨i, rfl⟩ : ∃ i, j = i + 1 := ⟨j - 1, by omega⟩
    rcases Nat.eq_zero_or_pos i with rfl | hi
    · exact h1
    · have := h2 i (by omega) (by simp at hj ⊢; omega) hi
      obtain ⟨k, rfl⟩ : ∃ k, i = k + 1 := ⟨i - 1, by omega⟩
      exact this
theorem descI_iff : ∀ a : List Int, descI a 0 ↔ descB a = true
  | [] => by simp [descI, descB]
  | [x] => by
    simp only [descB, List.all_nil, Bool.and_self, iff_true]
    intro j _ hj h0; simp at hj; omega
  | x :: y :: xs => by
    rw [descI_cons, descB_cons, descI_iff (y :: xs)]
    constructor
    · rintro ⟨h1, h2⟩
      refine ⟨fun z hz => ?_, h2⟩
      rcases List.mem_cons.1 hz with rfl | hz
      · exact h1
      · have := ((descB_cons y xs).1 h2).1 z hz; omega
    · rintro ⟨h1, h2⟩; exact ⟨h1 y List.mem_cons_self, h2⟩
section
variable (top : List Int) (ht : ∀ x ∈ top, inI x) (hl : top.length ≤ 4)
include ht hl
theorem sAgg_l (e : Int → Int → Int → Int → Int → Int → Int → List Int → Option Bool) (c1 c2 c3 c4 c5 : Int) (m : Nat) : ∀ (d i : Nat) (V : Int), i + d = top.length → S.AggOk_l0 (d + 1 + m) e (i : Int) c1 c2 c3 c4 c5 (wd V).1 (wd V).2 top = e c1 c2 c3 c4 c5 (wd (V + lsum (top.drop i))).1 (wd (V + lsum (top.drop i))).2 top := by
  intro d
  induction d with
  | zero =>
    intro i V hi
    rw [show 0 + 1 + m = m + 1 from by omega, S.AggOk_l0, cdn (by omega), List.drop_of_length_le (by omega)]
    simp [lsum]
  | succ d ih =>
    intro i V hi
    rw [show d + 1 + 1 + m = (d + 1 + m) + 1 from by omega, S.AggOk_l0, cdp (by omega), cdp (by omega), sWideOf_eq _ (ht _ (nthI_mem top i 0 (by omega))), Option.bind_some, sWideAdd_eq, Option.bind_some, w64 (by omega) (by omega)]
    refine (ih (i + 1) _ (by omega)).trans ?_
    rw [drop_at top i 0 (by omega), lsum, Int.add_assoc]
theorem iAgg_l (e0 : Bool → Int → Int → Int → Int → Int → Int → Int → List Int → Option Bool) (e1 : Int → Int → Int → Int → Int → Int → Int → List Int → Option Bool) (c1 c2 c3 c4 c5 : Int) (he : ∀ a b c d e f g h, e0 false a b c d e f g h = some false) (m : Nat) : ∀ (d i : Nat) (V : Int), i + d = top.length →
    (descI top i → I.isAgg_l0 (d + 1 + m) e0 e1 (top.length : Int) (i : Int) c1 c2 c3 c4 c5 (wd V).1 (wd V).2 top = e1 c1 c2 c3 c4 c5 (wd (V - lsum (top.drop i))).1 (wd (V - lsum (top.drop i))).2 top) ∧
    (¬ descI top i → I.isAgg_l0 (d + 1 + m) e0 e1 (top.length : Int) (i : Int) c1 c2 c3 c4 c5 (wd V).1 (wd V).2 top = some false) := by
  intro d
  induction d with
  | zero =>
    intro i V hi
    rw [show 0 + 1 + m = m + 1 from by omega, I.isAgg_l0, cdn (by omega), List.drop_of_length_le (by omega)]
    exact ⟨fun _ => by simp [lsum], fun h => absurd (fun j h1 h2 => by omega) h⟩
  | succ d ih =>
    intro i V hi
    have hx := ht _ (nthI_mem top i 0 (by omega))
    have next : V + -nthI top (i : Int) 0 - lsum (top.drop (i + 1)) = V - lsum (top.drop i) := by
      rw [drop_at top i 0 (by omega), lsum]; omega
    have hgo := ih (i + 1) (V + -nthI top (i : Int) 0) (by omega)
    rw [next] at hgo
    rw [show d + 1 + 1 + m = (d + 1 + m) + 1 from by omega, I.isAgg_l0, cdp (by omega), cdp (by omega)]
    simp only [iWideOf_eq _ hx, Option.bind_some, iWideNeg_eq, iWideAdd_eq]
    rw [w64 (n := (i : Int) + 1) (by omega) (by omega)]
    by_cases c : 0 < i
    · rw [cdp (by omega), w64 (by omega) (by omega), cdp (by omega), show (i : Int) - 1 = ((i - 1 : Nat) : Int) from by omega]
      by_cases c2 : nthI top ((i - 1 : Nat) : Int) 0 < nthI top (i : Int) 0
      · rw [cdp c2, he]
        exact ⟨fun h => by have := h i (Nat.le_refl _) (by omega) c; omega, fun _ => rfl⟩
      · rw [cdn c2]
        refine ⟨fun h => hgo.1 fun j h1 => h j (by omega), fun h => hgo.2 fun h' => h fun j h1 h2 h3 => ?_⟩
        rcases Nat.lt_or_ge i j with h4 | h4
        · exact h' j (by omega) h2 h3
        · obtain rfl : j = i := by omega
          omega
    · rw [cdn (by omega)]
      refine ⟨fun h => hgo.1 fun j h1 => h j (by omega), fun h => hgo.2 fun h' => h fun j h1 h2 h3 => h' j (by omega) h2 h3⟩
end
theorem wd_red (V : Int) (h0 : -340282366920938463463374607431768211456 ≤ V) (h1 : V < 340282366920938463463374607431768211456) : ∃ V3, inW V3 ∧ wd V = wd V3 ∧ (V3 = V ∨ V3 = V - 340282366920938463463374607431768211456 ∨ V3 = V + 340282366920938463463374607431768211456) := by
  have per : ∀ X : Int, wd (X + 340282366920938463463374607431768211456) = wd X := fun X => by
    unfold wd
    simp only [Prod.mk.injEq, IntKind.wrap_i64]
    omega
  unfold inW
  by_cases c : V < -170141183460469231731687303715884105728
  · exact ⟨V + 340282366920938463463374607431768211456, by omega, (per V).symm, .inr (.inr rfl)⟩
  · by_cases c2 : 170141183460469231731687303715884105728 ≤ V
    · refine ⟨V - 340282366920938463463374607431768211456, by omega, ?_, .inr (.inl rfl)⟩
      have := per (V - 340282366920938463463374607431768211456)
      rw [show V - 340282366920938463463374607431768211456 + 340282366920938463463374607431768211456 = V from by omega] at this
      exact this
    · exact ⟨V, by omega, rfl, .inl rfl⟩
theorem cmpF_le (a b : Int) : cmpF a b ≤ 0 ↔ a ≤ b := by unfold cmpF; split <;> (try split) <;> omega
theorem cmpF_ge (a b : Int) : 0 ≤ cmpF a b ↔ b ≤ a := by unfold cmpF; split <;> (try split) <;> omega
theorem many_bd {x n : Int} (hx : inI x) (h0 : 0 ≤ n) (h1 : n ≤ 1000000) : -9223372036854775808000000 ≤ x * n ∧ x * n ≤ 9223372036854775808000000 := by
  have h2 : x.natAbs ≤ 9223372036854775808 := by unfold inI at hx; omega
  have h3 : (x * n).natAbs ≤ 9223372036854775808 * 1000000 := by rw [Int.natAbs_mul]; exact Nat.mul_le_mul h2 (by omega)
  omega
section
variable (N h l mn mx : Int) (top : List Int) (hN : inI N) (hh : inI h) (hl0 : 0 ≤ l) (hl1 : l < 18446744073709551616) (hmn : inI mn) (ht : ∀ x ∈ top, inI x) (hl : top.length ≤ 1000000000)
include hN hh hl0 hl1 hmn ht hl
theorem iAggOk_eq : I.isAgg N h l mn mx top = some (decide (aggOk N h l mn mx top)) := by
  unfold I.isAgg
  by_cases c0 : N = 0
  · rw [cep c0]
    have hz : ∀ x : Int, (x == 0) = decide (x = 0) := fun x => by rw [Bool.eq_iff_iff]; simp
    simp only [hz, Bool.and_true, dand, cds]
    refine sdec ?_
    unfold aggOk
    constructor
    · rintro ⟨⟨h1, h2⟩, h3, h4, h5⟩; exact .inl ⟨c0, h1, h2, h3, h4, by omega⟩
    · rintro (⟨_, h1, h2, h3, h4, h5⟩ | ⟨h1, _⟩)
      · exact ⟨⟨h1, h2⟩, h3, h4, by omega⟩
      · omega
  rw [cen c0, in_eq, Option.bind_some]
  by_cases c1 : ¬ (1 ≤ N ∧ N ≤ 1000000)
  · rw [decide_eq_false c1, Bool.not_false, cond_true]
    exact sfal fun h => by unfold aggOk at h; rcases h with h | h <;> omega
  have c1 := Decidable.not_not.1 c1
  rw [decide_eq_true c1, Bool.not_true, cond_false]
  by_cases c2 : ¬ (top.length : Int) = (if 4 < N then 4 else N)
  · rw [cnp c2]
    exact sfal fun h => by
      unfold aggOk at h
      rcases h with h | h
      · omega
      · exact c2 h.2.1
  have c2 := Decidable.not_not.1 c2
  have hlen : 1 ≤ top.length ∧ top.length ≤ 4 := by split at c2 <;> omega
  rw [cnn c2, cdp (by omega)]
  by_cases c3 : ¬ nthI top 0 0 = mx
  · rw [cnp c3]
    exact sfal fun h => by
      unfold aggOk at h
      rcases h with h | h
      · omega
      · exact c3 h.2.2.2.1
  have c3 := Decidable.not_not.1 c3
  rw [cnn c3]
  obtain ⟨W, hW⟩ : ∃ W, W = h * 18446744073709551616 + l := ⟨_, rfl⟩
  have hw := wd_of hh hl0 hl1 hW
  obtain ⟨m, hm⟩ := fu_ge top.length (by omega)
  rw [hm]
  have hloop := iAgg_l top ht hlen.2 (fun y37 y38 y39 y40 y41 y42 y43 y44 y45 => some y37) (fun y46 y47 y48 y49 y50 y51 y52 y53 =>
    (let v55 : Int := (IntKind.wrap .i64 ((y53.length : Int) - 1))
    (bif decide ((0 : Int) ≤ v55 ∧ v55 < (y53.length : Int)) then
    (let v56 : Int := (nthI y53 v55 (0 : Int))
    (bif (decide (y46 ≤ 4)) then
    (bif (y49 == v56) then
    (some ((y51 == 0) && ((y52 == 0) && true)))
    else
    (some false))
    else
    (let v60 : Int := (IntKind.wrap .i64 ((IntKind.wrap .i64 (y46 - 4)) - 1))
    (Option.bind (I.WideOf y49) fun r61 =>
    (Option.bind (I.WideNeg r61.1 r61.2) fun r62 =>
    (Option.bind (I.WideAdd y51 y52 r62.1 r62.2) fun r63 =>
    (bif (decide (y49 ≤ v56)) then
    (Option.bind (I.wideTimes y49 v60) fun r65 =>
    (Option.bind (I.WideCmp r65.1 r65.2 r63.1 r63.2) fun r66 =>
    (bif (decide (r66 ≤ 0)) then
    (Option.bind (I.wideTimes v56 v60) fun r68 =>
    (Option.bind (I.WideCmp r63.1 r63.2 r68.1 r68.2) fun r69 =>
    (some (decide (r69 ≤ 0)))))
    else
    (some false))))
    else
    (some false))))))))
    else
    none))) N h l mn mx (fun _ _ _ _ _ _ _ _ => rfl) m top.length 0 W (by omega)
  rw [← hw, List.drop_zero] at hloop
  by_cases c4 : ¬ descI top 0
  · refine (hloop.2 c4).trans (sfal fun h => ?_)
    unfold aggOk at h
    rcases h with h | h
    · omega
    · exact c4 ((descI_iff top).2 h.2.2.1)
  have c4 := Classical.not_not.1 c4
  refine (hloop.1 c4).trans ?_
  have hs := lsum_bd ht
  have e1 : IntKind.i64.wrap ((top.length : Int) - 1) = ((top.length - 1 : Nat) : Int) := by rw [w64 (by omega) (by omega)]; omega
  have hlast := ht _ (nthI_mem top (top.length - 1) 0 (by omega))
  have hWr : inW W := by unfold inI at hh; unfold inW; omega
  simp only [e1]
  rw [cdp (by omega)]
  have hA : ∀ (q : Prop), (aggOk N h l mn mx top ↔ mn ≤ nthI top ((top.length - 1 : Nat) : Int) 0 ∧ if N ≤ 4 then mn = nthI top ((top.length - 1 : Nat) : Int) 0 ∧ W = lsum top else lsum top + mn + mn * (N - 5) ≤ W ∧ W ≤ lsum top + mn + nthI top ((top.length - 1 : Nat) : Int) 0 * (N - 5)) := fun q => by
    unfold aggOk
    rw [← hW]
    constructor
    · rintro (h | ⟨_, _, _, _, h5, h6⟩)
      · omega
      · exact ⟨h5, h6⟩
    · rintro ⟨h5, h6⟩
      exact .inr ⟨c1, c2, (descI_iff top).1 c4, c3, h5, h6⟩
  have hA := hA True
  unfold inW at hWr
  by_cases c5 : N ≤ 4
  · rw [cdp c5]
    rw [if_pos c5] at hA
    by_cases c6 : mn = nthI top ((top.length - 1 : Nat) : Int) 0
    · rw [cep c6]
      refine sbool (Iff.trans ?_ hA.symm)
      simp only [Bool.and_true, Bool.and_eq_true, beq_iff_eq]
      obtain ⟨V3, h1, h2, h3⟩ := wd_red (W - lsum top) (by omega) (by omega)
      have e0 : wd 0 = (0, 0) := by decide
      constructor
      · rintro ⟨q1, q2⟩
        have : wd V3 = wd 0 := by rw [← h2, e0]; exact Prod.ext q1 q2
        have := wd_inj h1 (by unfold inW; omega) this
        exact ⟨by omega, c6, by omega⟩
      · rintro ⟨_, _, q⟩
        rw [show W - lsum top = 0 from by omega, e0]; exact ⟨rfl, rfl⟩
    · rw [cen c6]
      exact sfal fun h => c6 (hA.1 h).2.1
  · rw [cdn c5]
    rw [if_neg c5] at hA
    have e2 : IntKind.i64.wrap (IntKind.i64.wrap (N - 4) - 1) = N - 5 := by rw [w64 (n := N - 4) (by omega) (by omega), w64 (by omega) (by omega)]; omega
    simp only [e2]
    rw [iWideOf_eq _ hmn, Option.bind_some, iWideNeg_eq, Option.bind_some, iWideAdd_eq, Option.bind_some]
    by_cases c6 : mn ≤ nthI top ((top.length - 1 : Nat) : Int) 0
    · rw [cdp c6, iTimesW_eq _ _ hmn (by omega) (by omega) (by omega), iTimesW_eq _ _ hlast (by omega) (by omega) (by omega)]
      have b1 := many_bd hmn (show 0 ≤ N - 5 by omega) (by omega)
      have b2 := many_bd hlast (show 0 ≤ N - 5 by omega) (by omega)
      unfold inI at hmn
      obtain ⟨V3, h1, h2, h3⟩ := wd_red (W - lsum top + -mn) (by omega) (by omega)
      generalize mn * (N - 5) = p at *
      generalize nthI top ((top.length - 1 : Nat) : Int) 0 * (N - 5) = q at *
      rw [h2]
      simp only [Option.bind_some]
      rw [iWideCmp_eq (show inW p by unfold inW; omega) h1, Option.bind_some, iWideCmp_eq h1 (show inW q by unfold inW; omega), Option.bind_some, cds]
      refine sdec (Iff.trans ?_ hA.symm)
      rw [cmpF_le, cmpF_le]
      unfold inW at h1
      constructor
      · rintro ⟨q1, q2⟩; exact ⟨c6, by omega, by omega⟩
      · rintro ⟨_, q1, q2⟩; constructor <;> omega
    · rw [cdn c6]
      exact sfal fun h => c6 (hA.1 h).1
theorem sAggOk_eq : S.AggOk N h l mn mx top = some (decide (aggOk N h l mn mx top)) := by
  unfold S.AggOk
  by_cases c1 : N < 0
  · rw [cdp c1]; exact sfal fun h => by unfold aggOk at h; rcases h with h | h <;> omega
  rw [cdn c1]
  by_cases c1b : 1000000 < N
  · rw [cdp c1b]; exact sfal fun h => by unfold aggOk at h; rcases h with h | h <;> omega
  rw [cdn c1b]
  by_cases c2 : ¬ (top.length : Int) = (if 4 < N then 4 else N)
  · rw [cnp c2]
    exact sfal fun h => by
      unfold aggOk at h
      rcases h with h | h
      · rw [if_neg (by omega)] at c2; omega
      · exact c2 h.2.1
  have c2 := Decidable.not_not.1 c2
  rw [cnn c2]
  by_cases c0 : N = 0
  · rw [cep c0]
    have hz : ∀ x : Int, (x == 0) = decide (x = 0) := fun x => by rw [Bool.eq_iff_iff]; simp
    simp only [hz, Bool.and_true, dand, cds]
    refine sdec ?_
    rw [if_neg (by omega)] at c2
    unfold aggOk
    constructor
    · rintro ⟨⟨h1, h2⟩, h3, h4⟩; exact .inl ⟨c0, h1, h2, h3, h4, by omega⟩
    · rintro (⟨_, h1, h2, h3, h4, h5⟩ | ⟨h1, _⟩)
      · exact ⟨⟨h1, h2⟩, h3, h4⟩
      · omega
  rw [cen c0]
  have hlen : 1 ≤ top.length ∧ top.length ≤ 4 := by split at c2 <;> omega
  have hsl := sel_length 4 (top ++ [])
  rw [sTopOf_eq top [] (by simp; omega), Option.bind_some, sSame_eq _ _ (by omega), Option.bind_some, List.append_nil]
  by_cases c4 : ¬ sel 4 top = top
  · rw [decide_eq_false c4, Bool.not_false, cond_true]
    refine sfal fun h => ?_
    unfold aggOk at h
    rcases h with h | h
    · omega
    · exact c4 ((sel_eq 4 top hlen.2).2 h.2.2.1)
  have c4 := Decidable.not_not.1 c4
  rw [decide_eq_true c4, Bool.not_true, cond_false, cdp (by omega)]
  have c4 := (sel_eq 4 top hlen.2).1 c4
  by_cases c3 : ¬ nthI top 0 0 = mx
  · rw [cnp c3]
    exact sfal fun h => by
      unfold aggOk at h
      rcases h with h | h
      · omega
      · exact c3 h.2.2.2.1
  have c3 := Decidable.not_not.1 c3
  have e1 : IntKind.i64.wrap ((top.length : Int) - 1) = ((top.length - 1 : Nat) : Int) := by rw [w64 (by omega) (by omega)]; omega
  rw [cnn c3]
  simp only [e1]
  rw [cdp (by omega)]
  by_cases c6 : nthI top ((top.length - 1 : Nat) : Int) 0 < mn
  · rw [cdp c6]
    exact sfal fun h => by
      unfold aggOk at h
      rcases h with h | h
      · omega
      · have := h.2.2.2.2.1; omega
  rw [cdn c6]
  obtain ⟨W, hW⟩ : ∃ W, W = h * 18446744073709551616 + l := ⟨_, rfl⟩
  have hw := wd_of hh hl0 hl1 hW
  obtain ⟨m, hm⟩ := fu_ge top.length (by omega)
  have hloop := fun e => sAgg_l top ht hlen.2 e N h l mn mx m top.length 0 0 (by omega)
  rw [show wd 0 = (0, 0) from by decide, List.drop_zero, Int.zero_add] at hloop
  rw [hm]
  refine (hloop _).trans ?_
  have hs := lsum_bd ht
  have hlast := ht _ (nthI_mem top (top.length - 1) 0 (by omega))
  have hWr : inW W := by unfold inI at hh; unfold inW; omega
  have hA : aggOk N h l mn mx top ↔ if N ≤ 4 then mn = nthI top ((top.length - 1 : Nat) : Int) 0 ∧ W = lsum top else lsum top + mn + mn * (N - 5) ≤ W ∧ W ≤ lsum top + mn + nthI top ((top.length - 1 : Nat) : Int) 0 * (N - 5) := by
    unfold aggOk
    rw [← hW]
    constructor
    · rintro (h | ⟨_, _, _, _, h5, h6⟩)
      · omega
      · exact h6
    · intro h6
      exact .inr ⟨by omega, c2, c4, c3, by omega, h6⟩
  have e2 : IntKind.i64.wrap (N - (top.length : Int)) = N - (top.length : Int) := w64 (by omega) (by omega)
  have hwr : ∀ X : Int, (h == (wd X).1 && (l == (wd X).2 && true)) = decide (wd W = wd X) := fun X => by
    rw [← hw, Bool.eq_iff_iff]
    simp only [Bool.and_true, Bool.and_eq_true, beq_iff_eq, decide_eq_true_eq, Prod.ext_iff]
  have hcmp : ∀ X : Int, inW X → S.WideCmp h l (wd X).1 (wd X).2 = some (cmpF W X) := fun X hX => by
    have := sWideCmp_eq hWr hX
    rwa [← hw] at this
  simp only [e1, e2, hwr, dup_eq, same_self]
  by_cases c5 : N ≤ 4
  · rw [if_pos c5] at hA
    rw [if_neg (by omega)] at c2
    rw [cep (by omega), cdp (by omega)]
    by_cases c7 : mn = nthI top ((top.length - 1 : Nat) : Int) 0
    · rw [cep c7]
      refine sdec (Iff.trans ?_ hA.symm)
      constructor
      · intro q; exact ⟨c7, wd_inj hWr (by unfold inW; omega) q⟩
      · rintro ⟨_, q⟩; rw [q]
    · rw [cen c7]
      exact sfal fun h => c7 (hA.1 h).1
  · rw [if_neg c5] at hA
    rw [if_pos (by omega)] at c2
    have hl4 : top.length = 4 := by omega
    have e3 : IntKind.i64.wrap (N - (top.length : Int) - 1) = N - 5 := by rw [w64 (by omega) (by omega)]; omega
    have b1 := many_bd hmn (show 0 ≤ N - 5 by omega) (by omega)
    have b2 := many_bd hlast (show 0 ≤ N - 5 by omega) (by omega)
    have ht1 : S.l07Times (N - (top.length : Int)) mn = some (wd (mn * (N - 5) + mn)) := by
      unfold S.l07Times
      rw [sTimes_eq _ _ (by unfold inI; omega) hmn, show (N - (top.length : Int)) * mn = mn * (N - 5) + mn from by rw [show N - (top.length : Int) = (N - 5) + 1 from by omega, Int.add_mul, Int.one_mul, Int.mul_comm]]; rfl
    have hi3 : nthI top 3 0 = nthI top ((top.length - 1 : Nat) : Int) 0 := by rw [hl4]; rfl
    have ht2 : S.l07Times (N - 5) (nthI top 3 0) = some (wd (nthI top ((top.length - 1 : Nat) : Int) 0 * (N - 5))) := by
      unfold S.l07Times
      rw [hi3, sTimes_eq _ _ (by unfold inI; omega) hlast, Int.mul_comm]; rfl
    unfold inI at hmn
    rw [cen (by omega)]
    simp only [ht1, Option.bind_some, sWideAdd_eq, e3]
    rw [cdp (by omega), sWideOf_eq mn (by unfold inI; omega)]
    simp only [Option.bind_some, sWideAdd_eq, ht2]
    generalize mn * (N - 5) = p at *
    generalize nthI top ((top.length - 1 : Nat) : Int) 0 * (N - 5) = q at *
    rw [hcmp _ (by unfold inW; omega), Option.bind_some, hcmp _ (by unfold inW; omega), Option.bind_some, cds]
    refine sdec (Iff.trans ?_ hA.symm)
    rw [cmpF_le, cmpF_ge]
    constructor
    · rintro ⟨q1, q2⟩; constructor <;> omega
    · rintro ⟨q1, q2⟩; constructor <;> omega
end
theorem div_step {q r y X : Nat} (hX : X = q * y + r) (hr : r < y) : X / y = q ∧ X % y = r := by
  have hy : 0 < y := by omega
  constructor
  · rw [hX, Nat.mul_comm, Nat.mul_add_div hy, Nat.div_eq_of_lt hr, Nat.add_zero]
  · rw [hX, Nat.mul_comm, Nat.mul_add_mod, Nat.mod_eq_of_lt hr]
theorem div_core (n hi lo P Q : Nat) (hn : 0 < n) (hPQ : P * Q = 4294967296) (hP : 0 < P) (un32 un1 un21 : Nat)
    (e32 : un32 = hi * (4294967296 * P) + lo / Q) (e1 : un1 = (lo % Q) * P) (e21 : un21 = un32 % (n * P) * 4294967296 + un1) :
    un32 / (n * P) * 4294967296 + un21 / (n * P) = (hi * 18446744073709551616 + lo) / n ∧ un21 % (n * P) = (hi * 18446744073709551616 + lo) % n * P := by
  have hT : un32 * 4294967296 + un1 = (hi * 18446744073709551616 + lo) * P := by
    have e := Nat.div_add_mod lo Q
    have e2 : lo * P = 4294967296 * (lo / Q) + (lo % Q) * P := by
      have h3 : (Q * (lo / Q) + lo % Q) * P = 4294967296 * (lo / Q) + (lo % Q) * P := by
        rw [Nat.add_mul, ← hPQ, Nat.mul_comm P Q, Nat.mul_assoc Q P, Nat.mul_comm P (lo / Q), Nat.mul_assoc]
      rw [e] at h3; exact h3
    rw [Nat.add_mul (hi * _) lo P, e2, e32, e1]
    have z1 : hi * (4294967296 * P) = 4294967296 * (hi * P) := Nat.mul_left_comm _ _ _
    have z2 : hi * 18446744073709551616 * P = 18446744073709551616 * (hi * P) := by rw [Nat.mul_comm hi, Nat.mul_assoc]
    rw [z1, z2]
    generalize hi * P = Z
    generalize lo / Q = D
    generalize lo % Q * P = M
    omega
  have hy : 0 < n * P := Nat.mul_pos hn hP
  have hd := Nat.div_add_mod un32 (n * P)
  have hT2 : (hi * 18446744073709551616 + lo) * P = (n * P) * (un32 / (n * P) * 4294967296) + un21 := by
    rw [← hT, e21, ← Nat.mul_assoc (n * P)]
    generalize (n * P) * (un32 / (n * P)) = X at *
    generalize un32 % (n * P) = r at *
    omega
  constructor
  · have h1 := Nat.mul_div_mul_right (hi * 18446744073709551616 + lo) n hP
    rw [hT2, Nat.mul_add_div hy] at h1; exact h1
  · have h1 := Nat.mul_mod_mul_right P (hi * 18446744073709551616 + lo) n
    rw [hT2, Nat.mul_add_mod] at h1; exact h1
theorem len8 : ∀ k : Fin 256, 0 < k.val → 1 ≤ (byteAt lit0 ((k.val : Nat) : Int)).toNat ∧ (byteAt lit0 ((k.val : Nat) : Int)).toNat ≤ 8 ∧ byteAt lit0 ((k.val : Nat) : Int) = (((byteAt lit0 ((k.val : Nat) : Int)).toNat : Nat) : Int) ∧ 2 ^ ((byteAt lit0 ((k.val : Nat) : Int)).toNat - 1) ≤ k.val ∧ k.val < 2 ^ (byteAt lit0 ((k.val : Nat) : Int)).toNat := by decide +kernel
theorem len8n (k : Nat) (h0 : 0 < k) (h1 : k < 256) : ∃ t : Nat, byteAt lit0 (k : Int) = (t : Int) ∧ ((t = 1 ∧ 1 ≤ k ∧ k < 2) ∨ (t = 2 ∧ 2 ≤ k ∧ k < 4) ∨ (t = 3 ∧ 4 ≤ k ∧ k < 8) ∨ (t = 4 ∧ 8 ≤ k ∧ k < 16) ∨ (t = 5 ∧ 16 ≤ k ∧ k < 32) ∨ (t = 6 ∧ 32 ≤ k ∧ k < 64) ∨ (t = 7 ∧ 64 ≤ k ∧ k < 128) ∨ (t = 8 ∧ 128 ≤ k ∧ k < 256)) := by
  obtain ⟨a, b, c, d, e⟩ := len8 ⟨k, h1⟩ h0
  refine ⟨_, c, ?_⟩
  simp only at a b d e
  generalize (byteAt lit0 (k : Int)).toNat = t at *
  rcases (by omega : t = 1 ∨ t = 2 ∨ t = 3 ∨ t = 4 ∨ t = 5 ∨ t = 6 ∨ t = 7 ∨ t = 8) with h | h | h | h | h | h | h | h <;> subst h <;> simp at d e <;> omega
theorem lit0_size : (lit0.size : Int) = 256 := by decide +kernel
theorem u8_nat (k : Nat) (h : k < 256) : IntKind.u8.wrap (k : Int) = (k : Int) := by rw [u8_mod]; omega
theorem fd_nat (a b : Nat) : Int.fdiv (a : Int) (b : Int) = ((a / b : Nat) : Int) := by rw [Int.fdiv_eq_ediv_of_nonneg _ (by omega)]; rfl
theorem len64_eq (n : Nat) (h0 : 0 < n) (h1 : n ≤ 1000000) : ∃ L : Nat, 1 ≤ L ∧ L ≤ 20 ∧ G.bits.Len64 (n : Int) = some (L : Int) ∧ n < 2 ^ L := by
  unfold G.bits.Len64
  rw [cdn (by omega)]
  have p16 : (2 : Int) ^ min (Int.toNat 16) (IntKind.bits .u64) = ((65536 : Nat) : Int) := by decide
  have p8 : (2 : Int) ^ min (Int.toNat 8) (IntKind.bits .u64) = ((256 : Nat) : Int) := by decide
  have d16 : decide ((0 : Int) ≤ 16) = true := by decide
  have d8 : decide ((0 : Int) ≤ 8) = true := by decide
  by_cases c : 65536 ≤ n
  · rw [cdp (by omega)]
    simp only [d16, cond_true, p16, fd_nat]
    rw [cdn (by omega), u8_nat _ (by omega), lit0_size, cdp (by omega)]
    obtain ⟨t, ht, hk⟩ := len8n (n / 65536) (by omega) (by omega)
    refine ⟨16 + t, by omega, by omega, ?_, ?_⟩
    · rw [ht, w64 (n := (t : Int)) (by omega) (by omega), w64 (n := (0 : Int) + 16) (by omega) (by omega), w64 (by omega) (by omega)]
      exact congrArg some (by omega)
    · rw [Nat.pow_add]
      rcases hk with ⟨rfl, hk⟩ | ⟨rfl, hk⟩ | ⟨rfl, hk⟩ | ⟨rfl, hk⟩ | ⟨rfl, hk⟩ | ⟨rfl, hk⟩ | ⟨rfl, hk⟩ | ⟨rfl, hk⟩ <;> omega
  · rw [cdn (by omega)]
    by_cases c2 : 256 ≤ n
    · rw [cdp (by omega)]
      simp only [d8, cond_true, p8, fd_nat]
      rw [u8_nat _ (by omega), lit0_size, cdp (by omega)]
      obtain ⟨t, ht, hk⟩ := len8n (n / 256) (by omega) (by omega)
      refine ⟨8 + t, by omega, by omega, ?_, ?_⟩
      · rw [ht, w64 (n := (t : Int)) (by omega) (by omega), w64 (n := (0 : Int) + 8) (by omega) (by omega), w64 (by omega) (by omega)]
        exact congrArg some (by omega)
      · rw [Nat.pow_add]
        rcases hk with ⟨rfl, hk⟩ | ⟨rfl, hk⟩ | ⟨rfl, hk⟩ | ⟨rfl, hk⟩ | ⟨rfl, hk⟩ | ⟨rfl, hk⟩ | ⟨rfl, hk⟩ | ⟨rfl, hk⟩ <;> omega
    · rw [cdn (by omega)]
      rw [u8_nat _ (by omega), lit0_size, cdp (by omega)]
      obtain ⟨t, ht, hk⟩ := len8n n (by omega) (by omega)
      refine ⟨t, by omega, by omega, ?_, ?_⟩
      · rw [ht, w64 (n := (t : Int)) (by omega) (by omega), w64 (by omega) (by omega)]
        exact congrArg some (by omega)
      · rcases hk with ⟨rfl, hk⟩ | ⟨rfl, hk⟩ | ⟨rfl, hk⟩ | ⟨rfl, hk⟩ | ⟨rfl, hk⟩ | ⟨rfl, hk⟩ | ⟨rfl, hk⟩ | ⟨rfl, hk⟩ <;> omega
theorem or_add (x y S s : Nat) (hS : S = 2 ^ s) (hy : y < S) (hx : S * x + y < 18446744073709551616) : Go.bits .or .u64 ((S * x : Nat) : Int) (y : Int) = ((S * x + y : Nat) : Int) := by
  show IntKind.u64.wrap (((BitVec.ofInt 64 ((S * x : Nat) : Int)) ||| (BitVec.ofInt 64 (y : Int))).toNat : Int) = _
  have e : (S * x) ||| y = S * x + y := by subst hS; exact (Nat.two_pow_add_eq_or_of_lt hy x).symm
  rw [BitVec.ofInt_natCast, BitVec.ofInt_natCast, BitVec.toNat_or, BitVec.toNat_ofNat, BitVec.toNat_ofNat, Nat.mod_eq_of_lt (show S * x < 2 ^ 64 by rw [show (2 : Nat) ^ 64 = 18446744073709551616 from by decide]; omega), Nat.mod_eq_of_lt (show y < 2 ^ 64 by rw [show (2 : Nat) ^ 64 = 18446744073709551616 from by decide]; omega), e, u64w (by omega) (by omega)]
theorem div_l0 (e : Int → Int → Int → Int → Int → Int → Int → Int → Option (Int × Int)) (m : Nat) (a b c d f g q r : Int) (hq : q < 4294967296) : G.bits.Div64_l0 (m + 1) e a b c 0 d f g q r = e a b c 0 d f g q := by
  rw [G.bits.Div64_l0, cdn (by omega), Int.mul_zero, cdn]
  simp only [u64_mod]; omega
theorem div_l1 (e : Int → Int → Int → Int → Int → Int → Option (Int × Int)) (m : Nat) (a b c d f g r q : Int) (hq : q < 4294967296) : G.bits.Div64_l1 (m + 1) e a b c 0 d f r g q = e a b d f g q := by
  rw [G.bits.Div64_l1, cdn (by omega), Int.mul_zero, cdn]
  simp only [u64_mod]; omega
theorem u64_nat (k : Nat) (h : k < 18446744073709551616) : IntKind.u64.wrap (k : Int) = (k : Int) := u64w (by omega) (by omega)
theorem wrap3 (A B C : Int) : IntKind.u64.wrap (IntKind.u64.wrap (IntKind.u64.wrap A + B) - IntKind.u64.wrap C) = IntKind.u64.wrap (A + B - C) := by simp only [u64_mod]; omega
theorem wrap2 (A B : Int) : IntKind.u64.wrap (IntKind.u64.wrap A + B) = IntKind.u64.wrap (A + B) := by simp only [u64_mod]; omega
/-- The words of a division: a divisor whose lower half is empty once it is moved up. -/
theorem div_words (hi lo n L S Q y un32 un1 q1 r1 q0 r0 un21 : Nat) (l1 : 1 ≤ L) (l20 : L ≤ 20) (c : ¬ hi = 0) (h1 : hi < n)
    (hz : G.bits.LeadingZeros64 (n : Int) = some ((64 - L : Nat) : Int)) (pS : (2 : Int) ^ (64 - L) = ((S : Nat) : Int)) (pL : (2 : Int) ^ L = ((Q : Nat) : Int))
    (hnS : n * S = y * 4294967296) (hy : y < 4294967296) (hy0 : 0 < y) (hhS : hi * S < 18446744073709551616)
    (hor : Go.bits .or .u64 ((hi * S : Nat) : Int) ((lo / Q : Nat) : Int) = (un32 : Int)) (hlo : lo * S % 18446744073709551616 = un1 * 4294967296) (hu1 : un1 < 4294967296)
    (d1 : un32 = q1 * y + r1) (hr1 : r1 < y) (e21 : un21 = r1 * 4294967296 + un1) (d0 : un21 = q0 * y + r0) (hr0 : r0 < y) (hu32 : un32 < 18446744073709551616) (hq1 : q1 < 4294967296) (hq0 : q0 < 4294967296) :
    G.bits.Div64 (hi : Int) (lo : Int) (n : Int) = some (((q1 * 4294967296 + q0 : Nat) : Int), ((r0 * 4294967296 / S : Nat) : Int)) := by
  have w8 : IntKind.u64.wrap ((64 - L : Nat) : Int) = ((64 - L : Nat) : Int) := u64_nat _ (by omega)
  have w13 : IntKind.u64.wrap (64 - ((64 - L : Nat) : Int)) = ((L : Nat) : Int) := by rw [u64w (by omega) (by omega)]; omega
  have hmin : min (Int.toNat ((64 - L : Nat) : Int)) (IntKind.bits .u64) = 64 - L := by
    rw [Int.toNat_natCast]; show min (64 - L) 64 = _; omega
  have hminL : min (Int.toNat ((L : Nat) : Int)) (IntKind.bits .u64) = L := by
    rw [Int.toNat_natCast]; show min L 64 = _; omega
  have p32 : (2 : Int) ^ min (Int.toNat 32) (IntKind.bits .u64) = ((4294967296 : Nat) : Int) := by decide
  obtain ⟨Y, hY⟩ : ∃ Y, Y = y * 4294967296 := ⟨_, rfl⟩
  obtain ⟨U, hU⟩ : ∃ U, U = un1 * 4294967296 := ⟨_, rfl⟩
  have w9 : IntKind.u64.wrap ((n : Int) * (S : Int)) = (Y : Int) := by rw [← Int.natCast_mul, hnS, ← hY]; exact u64_nat _ (by omega)
  have f9 : Int.fdiv (Y : Int) ((4294967296 : Nat) : Int) = (y : Int) := by rw [fd_nat]; exact congrArg _ (by omega)
  have w12 : IntKind.u64.wrap ((hi : Int) * (S : Int)) = ((hi * S : Nat) : Int) := by rw [← Int.natCast_mul, u64_nat _ hhS]
  have w16 : IntKind.u64.wrap ((lo : Int) * (S : Int)) = (U : Int) := by rw [← Int.natCast_mul, u64_mod, hU, ← hlo]; omega
  have f16 : Int.fdiv (U : Int) ((4294967296 : Nat) : Int) = (un1 : Int) := by rw [fd_nat]; exact congrArg _ (by omega)
  have a9 : Go.bits .and .u64 (Y : Int) 4294967295 = 0 := by rw [and_low _ (by omega) (by omega)]; omega
  have a16 : Go.bits .and .u64 (U : Int) 4294967295 = 0 := by rw [and_low _ (by omega) (by omega)]; omega
  have w19 : IntKind.u64.wrap (Int.tdiv (un32 : Int) (y : Int)) = (q1 : Int) := by
    rw [tdiv_nat _ _ (by omega), show (un32 : Int) / (y : Int) = ((un32 / y : Nat) : Int) from rfl, (div_step d1 hr1).1, u64_nat _ (by omega)]
  have w54 : IntKind.u64.wrap (Int.tdiv (un21 : Int) (y : Int)) = (q0 : Int) := by
    rw [tdiv_nat _ _ (by omega), show (un21 : Int) / (y : Int) = ((un21 / y : Nat) : Int) from rfl, (div_step d0 hr0).1, u64_nat _ (by omega)]
  obtain ⟨z1, hz1⟩ : ∃ z, z = q1 * y := ⟨_, rfl⟩
  obtain ⟨z0, hz0⟩ : ∃ z, z = q0 * y := ⟨_, rfl⟩
  have m1 : (q1 : Int) * (Y : Int) = (z1 : Int) * 4294967296 := by rw [hY, hz1, show ((y * 4294967296 : Nat) : Int) = (y : Int) * 4294967296 from by omega, ← Int.mul_assoc, ← Int.natCast_mul]
  have m0 : (q0 : Int) * (Y : Int) = (z0 : Int) * 4294967296 := by rw [hY, hz0, show ((y * 4294967296 : Nat) : Int) = (y : Int) * 4294967296 from by omega, ← Int.mul_assoc, ← Int.natCast_mul]
  rw [← hz1] at d1
  rw [← hz0] at d0
  have w53 : IntKind.u64.wrap (IntKind.u64.wrap (IntKind.u64.wrap ((un32 : Int) * 4294967296) + (un1 : Int)) - IntKind.u64.wrap ((q1 : Int) * (Y : Int))) = (un21 : Int) := by
    rw [m1, wrap3, show (un32 : Int) * 4294967296 + (un1 : Int) - (z1 : Int) * 4294967296 = (un21 : Int) from by omega, u64_nat _ (by omega)]
  have wR : IntKind.u64.wrap (IntKind.u64.wrap (IntKind.u64.wrap ((un21 : Int) * 4294967296) + 0) - IntKind.u64.wrap ((q0 : Int) * (Y : Int))) = ((r0 * 4294967296 : Nat) : Int) := by
    rw [m0, wrap3, show (un21 : Int) * 4294967296 + 0 - (z0 : Int) * 4294967296 = ((r0 * 4294967296 : Nat) : Int) from by omega, u64_nat _ (by omega)]
  have wQ : IntKind.u64.wrap (IntKind.u64.wrap ((q1 : Int) * 4294967296) + (q0 : Int)) = ((q1 * 4294967296 + q0 : Nat) : Int) := by
    rw [wrap2, show (q1 : Int) * 4294967296 + (q0 : Int) = ((q1 * 4294967296 + q0 : Nat) : Int) from by omega, u64_nat _ (by omega)]
  have dc0 : decide ((0 : Int) ≤ ((64 - L : Nat) : Int)) = true := decide_eq_true (by omega)
  have dcL : decide ((0 : Int) ≤ ((L : Nat) : Int)) = true := decide_eq_true (by omega)
  have dc32 : decide ((0 : Int) ≤ 32) = true := by decide
  have dcy : decide ((y : Int) = 0) = false := decide_eq_false (by omega)
  obtain ⟨M, hM⟩ := fu_ge 0 (by omega)
  have hfu : fu = M + 1 := by omega
  unfold G.bits.Div64
  rw [cen (by omega), cdn (by omega), cen (by omega), hz, Option.bind_some]
  clear hnS d1 d0 hlo m1 m0 hz1 hz0 hY hU e21
  simp only [w8, dc0, cond_true, hmin, pS, w9, dc32, p32, f9, w12, w13, dcL, hminL, pL]
  rw [fd_nat lo Q]
  simp only [hor, w16, f16, a9, a16, dcy, cond_false, w19, hfu]
  rw [div_l0 _ _ _ _ _ _ _ _ _ _ (show (q1 : Int) < 4294967296 by omega)]
  simp only [w53, dcy, cond_false, w54]
  rw [div_l1 _ _ _ _ _ _ _ _ _ _ (show (q0 : Int) < 4294967296 by omega)]
  simp only [dc0, cond_true, hmin, pS, wQ]
  rw [wR, fd_nat]
theorem iDiv64_eq (hi lo n : Nat) (h1 : hi < n) (h2 : n ≤ 1000000) (h3 : lo < 18446744073709551616) :
    G.bits.Div64 (hi : Int) (lo : Int) (n : Int) = some ((((hi * 18446744073709551616 + lo) / n : Nat) : Int), (((hi * 18446744073709551616 + lo) % n : Nat) : Int)) := by
  by_cases c : hi = 0
  · unfold G.bits.Div64
    rw [cen (by omega), cdn (by omega), cep (by omega), cdn (by omega), cdn (by omega), tdiv_nat _ _ (by omega), tmod_nat _ _ (by omega), c, Nat.zero_mul, Nat.zero_add]
    have : lo / n ≤ lo := Nat.div_le_self _ _
    rw [show (lo : Int) / (n : Int) = ((lo / n : Nat) : Int) from rfl, u64_nat _ (by omega)]
    rfl
  obtain ⟨L, l1, l20, hL, hnL⟩ := len64_eq n (by omega) h2
  have hz : G.bits.LeadingZeros64 (n : Int) = some ((64 - L : Nat) : Int) := by
    unfold G.bits.LeadingZeros64
    rw [hL, Option.bind_some, w64 (by omega) (by omega)]
    exact congrArg some (by omega)
  obtain ⟨P, hP⟩ : ∃ P, P = 2 ^ (32 - L) := ⟨_, rfl⟩
  obtain ⟨Q, hQ⟩ : ∃ Q, Q = 2 ^ L := ⟨_, rfl⟩
  have hPQ : P * Q = 4294967296 := by rw [hP, hQ, ← Nat.pow_add, show 32 - L + L = 32 from by omega]
  have hP0 : 0 < P := by rw [hP]; exact Nat.two_pow_pos _
  have hQ0 : 0 < Q := by rw [hQ]; exact Nat.two_pow_pos _
  obtain ⟨S, hSe⟩ : ∃ S, S = 4294967296 * P := ⟨_, rfl⟩
  have hS : 2 ^ (64 - L) = S := by rw [hSe, hP, show (4294967296 : Nat) = 2 ^ 32 from by decide, ← Nat.pow_add, show 32 + (32 - L) = 64 - L from by omega]
  have hSQ : S * Q = 18446744073709551616 := by rw [hSe, Nat.mul_assoc, hPQ]
  have pS : (2 : Int) ^ (64 - L) = ((S : Nat) : Int) := by rw [← hS]; simp
  have pL : (2 : Int) ^ L = ((Q : Nat) : Int) := by rw [hQ]; simp
  have hn0 : 0 < n := by omega
  have hny : n * P < 4294967296 := by rw [← hPQ, Nat.mul_comm P Q]; exact Nat.mul_lt_mul_of_pos_right (by rw [hQ]; exact hnL) hP0
  have hy0 : 0 < n * P := Nat.mul_pos hn0 hP0
  have hloQ : lo / Q < S := Nat.div_lt_of_lt_mul (by rw [Nat.mul_comm, hSQ]; exact h3)
  obtain ⟨un32, e32⟩ : ∃ x, x = hi * (4294967296 * P) + lo / Q := ⟨_, rfl⟩
  obtain ⟨un1, e1⟩ : ∃ x, x = (lo % Q) * P := ⟨_, rfl⟩
  obtain ⟨un21, e21⟩ : ∃ x, x = un32 % (n * P) * 4294967296 + un1 := ⟨_, rfl⟩
  obtain ⟨core1, core2⟩ := div_core n hi lo P Q hn0 hPQ hP0 un32 un1 un21 e32 e1 e21
  rw [← hSe] at e32
  have hu1 : un1 < 4294967296 := by
    rw [e1, ← hPQ, Nat.mul_comm P Q]
    exact Nat.mul_lt_mul_of_pos_right (Nat.mod_lt _ hQ0) hP0
  have hlo : lo * S % 18446744073709551616 = un1 * 4294967296 := by
    have e := Nat.div_add_mod lo Q
    have : lo * S = 18446744073709551616 * (lo / Q) + un1 * 4294967296 := by
      have h5 : (Q * (lo / Q) + lo % Q) * S = 18446744073709551616 * (lo / Q) + un1 * 4294967296 := by
        rw [Nat.add_mul, Nat.mul_right_comm, Nat.mul_comm Q S, hSQ, e1, hSe, Nat.mul_left_comm, Nat.mul_comm 4294967296 (lo % Q * P)]
      rw [e] at h5; exact h5
    rw [this, Nat.mul_add_mod, Nat.mod_eq_of_lt (by omega)]
  obtain ⟨y, hy⟩ : ∃ y, y = n * P := ⟨_, rfl⟩
  rw [← hy] at e21 core1 core2 hny hy0
  have hnS : n * S = y * 4294967296 := by rw [hy, hSe, Nat.mul_left_comm, Nat.mul_comm 4294967296 (n * P)]
  have hu32 : un32 < y * 4294967296 := by
    have h6 : (hi + 1) * S ≤ n * S := Nat.mul_le_mul_right _ (by omega)
    rw [Nat.add_mul, Nat.one_mul, hnS] at h6
    generalize hi * S = z at *
    omega
  have hhS : hi * S < 18446744073709551616 := by
    have h7 : hi * S ≤ un32 := by rw [e32]; exact Nat.le_add_right _ _
    generalize hi * S = z at *
    omega
  have hor : Go.bits .or .u64 ((hi * S : Nat) : Int) ((lo / Q : Nat) : Int) = (un32 : Int) := by
    have h8 := or_add hi (lo / Q) S (64 - L) hS.symm hloQ (by rw [Nat.mul_comm S hi, ← e32]; omega)
    rw [Nat.mul_comm S hi, ← e32] at h8
    exact h8
  have hr1 : un32 % y < y := Nat.mod_lt _ hy0
  have hr0 : un21 % y < y := Nat.mod_lt _ hy0
  have d1 : un32 = un32 / y * y + un32 % y := by rw [Nat.mul_comm]; exact (Nat.div_add_mod un32 y).symm
  have d0 : un21 = un21 / y * y + un21 % y := by rw [Nat.mul_comm]; exact (Nat.div_add_mod un21 y).symm
  have hu21 : un21 < y * 4294967296 := by rw [e21]; generalize un32 % y = z at *; omega
  have hq1 : un32 / y < 4294967296 := Nat.div_lt_of_lt_mul hu32
  have hq0 : un21 / y < 4294967296 := Nat.div_lt_of_lt_mul hu21
  have hr : un21 % y * 4294967296 / S = (hi * 18446744073709551616 + lo) % n := by
    rw [core2, hSe, Nat.mul_assoc, Nat.mul_comm P 4294967296]
    exact Nat.mul_div_cancel _ (Nat.mul_pos (by omega) hP0)
  rw [div_words hi lo n L S Q y un32 un1 (un32 / y) (un32 % y) (un21 / y) (un21 % y) un21 l1 l20 c h1 hz pS pL hnS hny hy0 hhS hor hlo hu1 d1 hr1 e21 d0 hr0 (by omega) hq1 hq0, core1, hr]
def meanF (W n : Int) : Int × Bool := if inI (W / n) then (W / n, true) else (0, false)
def lowBits (x d : Nat) : List Int := (List.range d).map fun j => ((x / 2 ^ j % 2 : Nat) : Int)
theorem lowBits_length (x d : Nat) : (lowBits x d).length = d := by simp [lowBits]
theorem lowBits_nth (x d k : Nat) (h : k < d) : nthI (lowBits x d) (k : Int) 0 = ((x / 2 ^ k % 2 : Nat) : Int) := by
  rw [nthI_nat, List.getD_eq_getElem?_getD, lowBits, List.getElem?_map, List.getElem?_range h]; rfl
theorem lowBits_succ (x d : Nat) : lowBits x (d + 1) = ((x % 2 : Nat) : Int) :: lowBits (x / 2) d := by
  unfold lowBits
  rw [List.range_succ_eq_map, List.map_cons, List.map_map]
  congr 1
  · rw [Nat.pow_zero, Nat.div_one]
  · apply List.map_congr_left
    intro j _
    show ((x / 2 ^ (j + 1) % 2 : Nat) : Int) = ((x / 2 / 2 ^ j % 2 : Nat) : Int)
    rw [Nat.pow_succ, Nat.mul_comm, ← Nat.div_div_eq_div_mul]
theorem lowBits_add : ∀ (a x b : Nat), lowBits x (a + b) = lowBits x a ++ lowBits (x / 2 ^ a) b
  | 0, x, b => by rw [Nat.zero_add, Nat.pow_zero, Nat.div_one]; rfl
  | a + 1, x, b => by rw [Nat.add_right_comm, lowBits_succ, lowBits_succ, lowBits_add a, Nat.pow_succ, Nat.mul_comm (2 ^ a) 2, Nat.div_div_eq_div_mul]; rfl
theorem lowBits_mod : ∀ (d x : Nat), lowBits (x % 2 ^ d) d = lowBits x d
  | 0, x => rfl
  | d + 1, x => by rw [lowBits_succ, lowBits_succ, Nat.pow_succ, Nat.mul_comm (2 ^ d) 2, Nat.mod_mul_right_mod, Nat.mod_mul_right_div_self, lowBits_mod d]
theorem bits_split (h l : Nat) (hl : l < 18446744073709551616) : lowBits (h * 18446744073709551616 + l) 128 = lowBits l 64 ++ lowBits h 64 := by
  have e1 : (h * 18446744073709551616 + l) % 2 ^ 64 = l := by rw [show (2 : Nat) ^ 64 = 18446744073709551616 from by decide]; omega
  have e2 : (h * 18446744073709551616 + l) / 2 ^ 64 = h := by rw [show (2 : Nat) ^ 64 = 18446744073709551616 from by decide]; omega
  rw [show 128 = 64 + 64 from rfl, lowBits_add, e2, ← lowBits_mod 64 (h * 18446744073709551616 + l), e1]
theorem sBits_l0 (e : Int → Int → List Int → Option (List Int)) (a5 a6 : Int) (m : Nat) : ∀ (d k x : Nat) (acc : List Int), k + d = 64 → acc.length = k → x < 18446744073709551616 →
    S.l02Bits_l0 (d + 1 + m) e (x : Int) (k : Int) a5 a6 acc = e a5 a6 (acc ++ lowBits x d) := by
  intro d
  induction d with
  | zero =>
    intro k x acc hk ha hx
    rw [show 0 + 1 + m = m + 1 from by omega, S.l02Bits_l0, cdn (by omega)]
    simp [lowBits]
  | succ d ih =>
    intro k x acc hk ha hx
    rw [show d + 1 + 1 + m = (d + 1 + m) + 1 from by omega, S.l02Bits_l0, cdp (by omega), cdn (by decide)]
    simp only []
    rw [tmod_nat _ _ (by omega), tdiv_nat _ _ (by omega), cdp (by simp only [List.length_cons, List.length_nil]; omega), cdn (by decide), u64w (by omega) (by omega), w64 (n := (k : Int) + 1) (by omega) (by omega), w64 (n := (x : Int) % 2) (by omega) (by omega)]
    have hi := ih (k + 1) (x / 2) (acc ++ [((x % 2 : Nat) : Int)]) (by omega) (by simp; omega) (by omega)
    rw [List.append_assoc] at hi
    rw [lowBits_succ]
    exact hi
theorem sBits_l1 (e : List Int → Option (List Int)) (m : Nat) : ∀ (d k x : Nat) (acc : List Int), k + d = 64 → acc.length = k + 64 → x < 18446744073709551616 →
    S.l02Bits_l1 (d + 1 + m) e (x : Int) (k : Int) acc = e (acc ++ lowBits x d) := by
  intro d
  induction d with
  | zero =>
    intro k x acc hk ha hx
    rw [show 0 + 1 + m = m + 1 from by omega, S.l02Bits_l1, cdn (by omega)]
    simp [lowBits]
  | succ d ih =>
    intro k x acc hk ha hx
    rw [show d + 1 + 1 + m = (d + 1 + m) + 1 from by omega, S.l02Bits_l1, cdp (by omega), cdn (by decide)]
    simp only []
    rw [tmod_nat _ _ (by omega), tdiv_nat _ _ (by omega), cdp (by simp only [List.length_cons, List.length_nil]; omega), cdn (by decide), u64w (by omega) (by omega), w64 (n := (k : Int) + 1) (by omega) (by omega), w64 (n := (x : Int) % 2) (by omega) (by omega)]
    have hi := ih (k + 1) (x / 2) (acc ++ [((x % 2 : Nat) : Int)]) (by omega) (by simp; omega) (by omega)
    rw [List.append_assoc] at hi
    rw [lowBits_succ]
    exact hi
theorem sBits_eq (A : Nat) (h : A < 340282366920938463463374607431768211456) : S.l02Bits (wd (A : Int)).1 (wd (A : Int)).2 = some (lowBits A 128) := by
  unfold S.l02Bits
  obtain ⟨m, hm⟩ := fu_ge 64 (by omega)
  have e2 : (wd (A : Int)).2 = ((A % 18446744073709551616 : Nat) : Int) := rfl
  have e1 : IntKind.u64.wrap (wd (A : Int)).1 = ((A / 18446744073709551616 : Nat) : Int) := by show IntKind.u64.wrap (IntKind.i64.wrap ((A : Int) / 18446744073709551616)) = _; rw [u64_i64, u64w (by omega) (by omega)]; rfl
  have key := sBits_l0 (fun y13 y14 y15 => (S.l02Bits_l1 fu (fun y25 => (some y25)) (IntKind.u64.wrap y13) 0 y15)) (wd (A : Int)).1 (wd (A : Int)).2 m 64 0 (A % 18446744073709551616) [] (by omega) rfl (by omega)
  rw [← hm, ← e2] at key
  refine key.trans ?_
  rw [e1, hm]
  refine (sBits_l1 _ m 64 0 (A / 18446744073709551616) ([] ++ lowBits (A % 18446744073709551616) 64) (by omega) (by simp [lowBits_length]) (by omega)).trans ?_
  rw [List.nil_append, ← bits_split _ _ (by omega)]
  congr 2; omega
theorem div_two (M b n : Nat) (hn : 0 < n) (hb : b < 2) : (n ≤ 2 * (M % n) + b → (2 * M + b) / n % 2 = 1 ∧ (2 * M + b) % n = 2 * (M % n) + b - n) ∧ (¬ n ≤ 2 * (M % n) + b → (2 * M + b) / n % 2 = 0 ∧ (2 * M + b) % n = 2 * (M % n) + b) := by
  have e := Nat.div_add_mod M n
  have hl := Nat.mod_lt M hn
  constructor
  · intro c
    have h1 : 2 * M + b = (2 * (M / n) + 1) * n + (2 * (M % n) + b - n) := by
      rw [Nat.add_mul, Nat.mul_assoc, Nat.mul_comm (M / n) n, Nat.one_mul]
      generalize n * (M / n) = X at *
      omega
    obtain ⟨h2, h3⟩ := div_step h1 (by omega)
    rw [h2, h3]; omega
  · intro c
    have h1 : 2 * M + b = (2 * (M / n)) * n + (2 * (M % n) + b) := by
      rw [Nat.mul_assoc, Nat.mul_comm (M / n) n]
      generalize n * (M / n) = X at *
      omega
    obtain ⟨h2, h3⟩ := div_step h1 (by omega)
    rw [h2, h3]; omega
def quoBits (Q j : Nat) : List Int := (List.range 128).map fun i => if j ≤ i then ((Q / 2 ^ i % 2 : Nat) : Int) else 0
theorem quoBits_length (Q j : Nat) : (quoBits Q j).length = 128 := by simp [quoBits]
theorem quoBits_set (Q j : Nat) (h : j < 128) (hb : Q / 2 ^ j % 2 = 1) : (quoBits Q (j + 1)).set j 1 = quoBits Q j := by
  apply List.ext_getElem (by simp [quoBits])
  intro i h1 h2
  simp only [quoBits, List.getElem_set, List.getElem_map, List.getElem_range]
  by_cases c : j = i
  · subst c; rw [if_pos rfl, if_pos (Nat.le_refl _), hb]; rfl
  · rw [if_neg c]
    by_cases c2 : j ≤ i
    · rw [if_pos (by omega), if_pos c2]
    · rw [if_neg (by omega), if_neg c2]
theorem quoBits_skip (Q j : Nat) (hb : Q / 2 ^ j % 2 = 0) : quoBits Q (j + 1) = quoBits Q j := by
  unfold quoBits
  apply List.map_congr_left
  intro i _
  by_cases c : j = i
  · subst c; rw [if_neg (by omega), if_pos (Nat.le_refl _), hb]; rfl
  · by_cases c2 : j ≤ i
    · rw [if_pos (by omega), if_pos c2]
    · rw [if_neg (by omega), if_neg c2]
theorem quoBits_zero (Q : Nat) : quoBits Q 0 = lowBits Q 128 := by
  unfold quoBits lowBits
  apply List.map_congr_left
  intro i _
  rw [if_pos (by omega)]
theorem quoBits_top (Q : Nat) : quoBits Q 128 = List.replicate (Int.toNat 128) (0 : Int) := by
  rw [show Int.toNat 128 = 128 from rfl, List.eq_replicate_iff]
  refine ⟨quoBits_length _ _, fun b hb => ?_⟩
  unfold quoBits at hb
  obtain ⟨i, hi, rfl⟩ := List.mem_map.1 hb
  rw [if_neg (by have := List.mem_range.1 hi; omega)]
theorem sDivide_l (e : Int → List Int → Option (Int × List Int)) (n N : Nat) (hn : 0 < n) (hn2 : n ≤ 1000000) (m : Nat) : ∀ (j : Nat), j ≤ 128 →
    S.l02Divide_l0 (j + 1 + m) e (n : Int) ((N / 2 ^ j % n : Nat) : Int) ((j : Int) - 1) (lowBits N 128) (quoBits (N / n) j) = e ((N % n : Nat) : Int) (lowBits (N / n) 128) := by
  intro j
  induction j with
  | zero =>
    intro _
    rw [show 0 + 1 + m = m + 1 from by omega, S.l02Divide_l0, cdn (by omega), Nat.pow_zero, Nat.div_one, quoBits_zero]
  | succ j ih =>
    intro hj
    have hj2 : ((j + 1 : Nat) : Int) - 1 = (j : Int) := by omega
    rw [show j + 1 + 1 + m = (j + 1 + m) + 1 from by omega, S.l02Divide_l0, hj2, cdp (by omega), cdp (by rw [lowBits_length]; omega), lowBits_nth _ _ _ (by omega)]
    obtain ⟨M, hM⟩ : ∃ M, M = N / 2 ^ (j + 1) := ⟨_, rfl⟩
    obtain ⟨b, hb⟩ : ∃ b, b = N / 2 ^ j % 2 := ⟨_, rfl⟩
    have hM2 : N / 2 ^ j / 2 = M := by rw [hM, Nat.pow_succ, Nat.div_div_eq_div_mul]
    have hK : N / 2 ^ j = 2 * M + b := by omega
    have hbl : b < 2 := by omega
    have hl := Nat.mod_lt M hn
    have hQ : N / n / 2 ^ j = (2 * M + b) / n := by rw [Nat.div_div_eq_div_mul, Nat.mul_comm, ← Nat.div_div_eq_div_mul, hK]
    obtain ⟨t1, t2⟩ := div_two M b n hn hbl
    rw [← hM, ← hb]
    simp only []
    rw [w64 (n := 2 * ((M % n : Nat) : Int)) (by omega) (by omega), w64 (n := 2 * ((M % n : Nat) : Int) + (b : Int)) (by omega) (by omega), w64 (n := (j : Int) - 1) (by omega) (by omega)]
    by_cases c : n ≤ 2 * (M % n) + b
    · obtain ⟨t3, t4⟩ := t1 c
      rw [cdp (by omega), cdp (by rw [quoBits_length]; omega), w64 (by omega) (by omega), Int.toNat_natCast, quoBits_set _ _ (by omega) (by rw [hQ, t3]), ← ih (by omega), hK, t4]
      congr 1; omega
    · obtain ⟨t3, t4⟩ := t2 c
      rw [cdn (by omega), quoBits_skip _ _ (by rw [hQ, t3]), ← ih (by omega), hK, t4]
      congr 1
theorem sDivide_eq (n N : Nat) (hn : 0 < n) (hn2 : n ≤ 1000000) (hN : N < 340282366920938463463374607431768211456) : S.l02Divide (n : Int) (lowBits N 128) = some (((N % n : Nat) : Int), lowBits (N / n) 128) := by
  unfold S.l02Divide
  rw [cdp (by decide)]
  obtain ⟨m, hm⟩ := fu_ge 128 (by omega)
  have key := sDivide_l (fun y17 y18 => (some (y17, y18))) n N hn hn2 m 128 (by omega)
  have h0 : N / 2 ^ 128 % n = 0 := by rw [show N / 2 ^ 128 = 0 from Nat.div_eq_of_lt (by rw [show (2 : Nat) ^ 128 = 340282366920938463463374607431768211456 from by decide]; exact hN), Nat.zero_mod]
  rw [h0, quoBits_top, ← hm] at key
  exact key
theorem sWide_l (e : Int → Int → Int → Int → Option (Int × Int)) (c1 c2 : Int) (h l : Nat) (hh : h < 18446744073709551616) (hl : l < 18446744073709551616) (m : Nat) : ∀ (j : Nat), j ≤ 64 →
    S.l02Wide_l0 (j + 1 + m) e ((l / 2 ^ j : Nat) : Int) ((h / 2 ^ j : Nat) : Int) ((j : Int) - 1) c1 c2 (lowBits l 64 ++ lowBits h 64) = e (l : Int) (h : Int) c1 c2 := by
  intro j
  induction j with
  | zero =>
    intro _
    rw [show 0 + 1 + m = m + 1 from by omega, S.l02Wide_l0, cdn (by omega), Nat.pow_zero, Nat.div_one, Nat.div_one]
  | succ j ih =>
    intro hj
    have hj2 : ((j + 1 : Nat) : Int) - 1 = (j : Int) := by omega
    have hlen : (lowBits l 64 ++ lowBits h 64).length = 128 := by simp [lowBits_length]
    have n1 : nthI (lowBits l 64 ++ lowBits h 64) (j : Int) 0 = ((l / 2 ^ j % 2 : Nat) : Int) := by
      rw [← lowBits_nth l 64 j (by omega), nthI_nat, nthI_nat, List.getD_eq_getElem?_getD, List.getD_eq_getElem?_getD, List.getElem?_append_left (by rw [lowBits_length]; omega)]
    have n2 : nthI (lowBits l 64 ++ lowBits h 64) ((64 + j : Nat) : Int) 0 = ((h / 2 ^ j % 2 : Nat) : Int) := by
      rw [← lowBits_nth h 64 j (by omega), nthI_nat, nthI_nat, List.getD_eq_getElem?_getD, List.getD_eq_getElem?_getD, List.getElem?_append_right (by rw [lowBits_length]; omega), lowBits_length, Nat.add_sub_cancel_left]
    have hM (x : Nat) : x / 2 ^ j = 2 * (x / 2 ^ (j + 1)) + x / 2 ^ j % 2 := by
      have : x / 2 ^ j / 2 = x / 2 ^ (j + 1) := by rw [Nat.pow_succ, Nat.div_div_eq_div_mul]
      omega
    have b1 : l / 2 ^ j ≤ l := Nat.div_le_self _ _
    have b2 : h / 2 ^ j ≤ h := Nat.div_le_self _ _
    have m1 := hM l
    have m2 := hM h
    rw [show j + 1 + 1 + m = (j + 1 + m) + 1 from by omega, S.l02Wide_l0, hj2, cdp (by omega), cdp (by rw [hlen]; omega)]
    simp only []
    rw [show IntKind.i64.wrap (64 + (j : Int)) = ((64 + j : Nat) : Int) from by rw [w64 (by omega) (by omega)]; omega, cdp (by rw [hlen]; omega), n1, n2, w64 (n := (j : Int) - 1) (by omega) (by omega)]
    rw [u64w (n := ((l / 2 ^ j % 2 : Nat) : Int)) (by omega) (by omega), u64w (n := ((h / 2 ^ j % 2 : Nat) : Int)) (by omega) (by omega), u64w (n := 2 * ((l / 2 ^ (j + 1) : Nat) : Int)) (by omega) (by omega), u64w (n := 2 * ((h / 2 ^ (j + 1) : Nat) : Int)) (by omega) (by omega),
      u64w (n := 2 * ((l / 2 ^ (j + 1) : Nat) : Int) + ((l / 2 ^ j % 2 : Nat) : Int)) (by omega) (by omega), u64w (n := 2 * ((h / 2 ^ (j + 1) : Nat) : Int) + ((h / 2 ^ j % 2 : Nat) : Int)) (by omega) (by omega)]
    rw [← ih (by omega)]
    congr 1 <;> omega
theorem sWide_eq (N : Nat) (hN : N < 340282366920938463463374607431768211456) : S.l02Wide (lowBits N 128) = some (wd (N : Int)) := by
  unfold S.l02Wide
  obtain ⟨m, hm⟩ := fu_ge 64 (by omega)
  have key := sWide_l (fun y17 y18 y19 y20 => (some ((IntKind.i64.wrap y18), y17))) 0 0 (N / 18446744073709551616) (N % 18446744073709551616) (by omega) (by omega) m 64 (by omega)
  rw [← bits_split _ _ (by omega), show N / 18446744073709551616 * 18446744073709551616 + N % 18446744073709551616 = N from by omega] at key
  have z (x : Nat) (hx : x < 18446744073709551616) : x / 2 ^ 64 = 0 := by rw [show (2 : Nat) ^ 64 = 18446744073709551616 from by decide]; omega
  rw [z _ (by omega), z _ (by omega), ← hm] at key
  exact key
theorem neg_div (A n : Nat) (hn : 0 < n) : (-(A : Int)) / (n : Int) = if A % n = 0 then -((A / n : Nat) : Int) else -((A / n : Nat) : Int) - 1 := by
  have e := Nat.div_add_mod A n
  have hl := Nat.mod_lt A hn
  have e2 : (n : Int) * ((A / n : Nat) : Int) + ((A % n : Nat) : Int) = (A : Int) := by rw [← Int.natCast_mul, ← Int.natCast_add, e]
  split
  · rename_i c
    refine ((Int.ediv_emod_unique (r := 0) (by omega)).2 ⟨?_, by omega, by omega⟩).1
    rw [Int.mul_neg]; omega
  · rename_i c
    refine ((Int.ediv_emod_unique (r := (n : Int) - ((A % n : Nat) : Int)) (by omega)).2 ⟨?_, by omega, by omega⟩).1
    rw [Int.mul_sub, Int.mul_neg, Int.mul_one]; omega
theorem meanR {q : Int} (h : inW q) : ∃ r : Int × Bool, (if inI q then (q, true) else (0, false)) = r ∧ S.WideInt (wd q).1 (wd q).2 = some r := ⟨_, rfl, sWideInt_eq q h⟩
theorem sWideMean_eq (W : Int) (n : Nat) (hW : inW W) (hn : 0 < n) (hn2 : n ≤ 1000000) : S.WideMean (wd W).1 (wd W).2 (n : Int) = some (meanF W n) := by
  unfold S.WideMean
  rw [cdn (by omega), cdn (by omega)]
  unfold inW at hW
  have h1 : (wd W).1 = W / 18446744073709551616 := w64 (by omega) (by omega)
  by_cases c : 0 ≤ W
  · obtain ⟨A, rfl⟩ := Int.eq_ofNat_of_zero_le c
    have hq : A / n ≤ A := Nat.div_le_self _ _
    have em : meanF (A : Int) n = if inI ((A / n : Nat) : Int) then (((A / n : Nat) : Int), true) else (0, false) := rfl
    rw [em, cdp (by rw [h1]; omega), sBits_eq A (by omega), Option.bind_some, sDivide_eq n A hn hn2 (by omega), Option.bind_some]
    clear em h1
    simp only []
    generalize A / n = q at *
    obtain ⟨r, hr, hI⟩ := meanR (q := (q : Int)) (by unfold inW; omega)
    rw [sWide_eq _ (by omega), Option.bind_some, hI, Option.bind_some, hr]
  · obtain ⟨A, hA⟩ := Int.eq_ofNat_of_zero_le (show 0 ≤ -W from by omega)
    obtain rfl : W = -(A : Int) := by omega
    have hqr : A / n + A % n ≤ A := by
      have e := Nat.div_add_mod A n
      have : 1 * (A / n) ≤ n * (A / n) := Nat.mul_le_mul_right _ hn
      omega
    have em : meanF (-(A : Int)) n = if inI (if A % n = 0 then -((A / n : Nat) : Int) else -((A / n : Nat) : Int) - 1) then ((if A % n = 0 then -((A / n : Nat) : Int) else -((A / n : Nat) : Int) - 1), true) else (0, false) := by unfold meanF; rw [neg_div A n hn]
    rw [em, cdn (by rw [h1]; omega), sWideNeg_eq, Int.neg_neg, Option.bind_some, sBits_eq A (by omega), Option.bind_some, sDivide_eq n A hn hn2 (by omega), Option.bind_some]
    clear em h1
    simp only []
    generalize A / n = q at *
    generalize A % n = r at *
    rw [sWide_eq _ (by omega), Option.bind_some, sWideNeg_eq, Option.bind_some]
    by_cases c2 : r = 0
    · obtain ⟨x, hr, hI⟩ := meanR (q := -(q : Int)) (by unfold inW; omega)
      rw [cdn (by omega), hI, Option.bind_some, if_pos c2, hr]
    · obtain ⟨x, hr, hI⟩ := meanR (q := -(q : Int) - 1) (by unfold inW; omega)
      rw [cdp (by omega), sWideOf_eq (-1) (by decide), Option.bind_some, sWideAdd_eq, Option.bind_some, show -(q : Int) + -1 = -(q : Int) - 1 from by omega, hI, Option.bind_some, if_neg c2, hr]
theorem iWideInt_eq (n : Int) (h : inW n) : I.WideInt (wd n).1 (wd n).2 = some (if inI n then (n, true) else (0, false)) := by
  unfold I.WideInt
  have h0 : inI (IntKind.i64.wrap (wd n).2) := i64_range _
  have e : (wd n).2 = n % 18446744073709551616 := rfl
  simp only []
  rw [iWideOf_eq _ h0, Option.bind_some]
  by_cases c : inI n
  · have hw : IntKind.i64.wrap (wd n).2 = n := by rw [e, IntKind.wrap_i64]; unfold inI at c; omega
    rw [hw, if_pos c]
    simp only [beq_self_eq_true, Bool.and_self, cond_true]
  · rw [if_neg c]
    have hne : ¬ ((wd (IntKind.i64.wrap (wd n).2)).1 = (wd n).1 ∧ (wd (IntKind.i64.wrap (wd n).2)).2 = (wd n).2) := by
      rintro ⟨h1, h2⟩
      have hinj := wd_inj (m := IntKind.i64.wrap (wd n).2) (n := n) (by unfold inI at h0; unfold inW; omega) h (Prod.ext h1 h2)
      exact c (hinj ▸ h0)
    by_cases c1 : (wd (IntKind.i64.wrap (wd n).2)).1 = (wd n).1
    · rw [c1, beq_self_eq_true, Bool.true_and, Bool.and_true, cen (fun h2 => hne ⟨c1, h2⟩)]
    · rw [beq_eq_false_iff_ne.2 c1, Bool.false_and, cond_false]
theorem iSize_eq (W : Int) (hW : inW W) : I.Wide_size (wd W).1 (wd W).2 = some (((W.natAbs / 18446744073709551616 : Nat) : Int), ((W.natAbs % 18446744073709551616 : Nat) : Int)) := by
  unfold I.Wide_size
  unfold inW at hW
  have h1 : (wd W).1 = W / 18446744073709551616 := w64 (by omega) (by omega)
  by_cases c : W < 0
  · have e2 : (wd (-W)).2 = (-W) % 18446744073709551616 := rfl
    have e1 : IntKind.u64.wrap (wd (-W)).1 = (-W) / 18446744073709551616 := by
      show IntKind.u64.wrap (IntKind.i64.wrap ((-W) / 18446744073709551616)) = _
      rw [u64_i64, u64w (by omega) (by omega)]
    rw [cdp (by rw [h1]; omega), iWideNeg_eq, Option.bind_some, e1, e2]
    refine congrArg some (Prod.ext ?_ ?_)
    · show (-W) / 18446744073709551616 = _; omega
    · show (-W) % 18446744073709551616 = _; omega
  · have e2 : (wd W).2 = W % 18446744073709551616 := rfl
    rw [cdn (by rw [h1]; omega), h1, e2, u64w (by omega) (by omega)]
    refine congrArg some (Prod.ext ?_ ?_)
    · show W / 18446744073709551616 = _; omega
    · show W % 18446744073709551616 = _; omega
theorem iWideMean_eq (W : Int) (n : Nat) (hW : inW W) (hn : 0 < n) (hn2 : n ≤ 1000000) : I.WideMean (wd W).1 (wd W).2 (n : Int) = some (meanF W n) := by
  unfold I.WideMean
  rw [in_eq, Option.bind_some, decide_eq_true (by omega), Bool.not_true, cond_false, iSize_eq W hW, Option.bind_some]
  unfold inW at hW
  have h1 : (wd W).1 = W / 18446744073709551616 := w64 (by omega) (by omega)
  obtain ⟨A, hA⟩ : ∃ A, A = W.natAbs := ⟨_, rfl⟩
  rw [← hA]
  obtain ⟨H, hH⟩ : ∃ H, H = A / 18446744073709551616 := ⟨_, rfl⟩
  obtain ⟨l, hl⟩ : ∃ l, l = A % 18446744073709551616 := ⟨_, rfl⟩
  rw [← hH, ← hl]
  have hn3 : IntKind.u64.wrap (n : Int) = (n : Int) := u64_nat _ (by omega)
  have hml := Nat.mod_lt H hn
  have hq0 : H / n ≤ H := Nat.div_le_self _ _
  have hdiv := iDiv64_eq (H % n) l n hml hn2 (by omega)
  obtain ⟨B, hB⟩ : ∃ B, B = H % n * 18446744073709551616 + l := ⟨_, rfl⟩
  rw [← hB] at hdiv
  have hAB : A = n * (H / n * 18446744073709551616) + B := by
    have e := Nat.div_add_mod H n
    have e3 : n * (H / n * 18446744073709551616) = n * (H / n) * 18446744073709551616 := (Nat.mul_assoc _ _ _).symm
    rw [e3]
    generalize n * (H / n) = z at *
    omega
  have hAd : A / n = H / n * 18446744073709551616 + B / n := by rw [hAB, Nat.mul_add_div hn]
  have hAm : A % n = B % n := by rw [hAB, Nat.mul_add_mod]
  have hBl : B / n < 18446744073709551616 := Nat.div_lt_of_lt_mul (by
    have : (H % n + 1) * 18446744073709551616 ≤ n * 18446744073709551616 := Nat.mul_le_mul_right _ (by omega)
    omega)
  have hAA : A / n ≤ A := Nat.div_le_self _ _
  have hrl := Nat.mod_lt B hn
  have em : meanF W n = if inI (if 0 ≤ W then ((A / n : Nat) : Int) else if A % n = 0 then -((A / n : Nat) : Int) else -((A / n : Nat) : Int) - 1) then (if 0 ≤ W then ((A / n : Nat) : Int) else if A % n = 0 then -((A / n : Nat) : Int) else -((A / n : Nat) : Int) - 1, true) else (0, false) := by
    unfold meanF
    have hWA : W / (n : Int) = if 0 ≤ W then ((A / n : Nat) : Int) else if A % n = 0 then -((A / n : Nat) : Int) else -((A / n : Nat) : Int) - 1 := by
      split
      · rw [show W = (A : Int) from by omega]; rfl
      · rw [show W = -(A : Int) from by omega, neg_div A n hn]
    rw [hWA]
  rw [em, hAd, hAm]
  simp only [hn3]
  rw [tmod_nat _ _ (by omega), tdiv_nat _ _ (by omega), cdn (by omega), cdn (by omega), show (H : Int) % (n : Int) = ((H % n : Nat) : Int) from rfl, show (H : Int) / (n : Int) = ((H / n : Nat) : Int) from rfl, hdiv, Option.bind_some, u64_nat _ (by omega)]
  clear em hdiv hAB hAd hAm
  generalize H / n = q at *
  generalize B / n = v at *
  generalize B % n = r at *
  by_cases c0 : q = 0
  · rw [cnn (by omega)]
    subst c0
    by_cases c : 0 ≤ W
    · rw [cdp (by rw [h1]; omega), if_pos c]
      by_cases c2 : 9223372036854775807 < v
      · rw [cdp (by omega), if_neg (by unfold inI; omega)]
      · rw [cdn (by omega), cdp (by rw [h1]; omega), if_pos (by unfold inI; omega), w64 (by omega) (by omega)]
        exact congrArg some (Prod.ext (by show (v : Int) = _; omega) rfl)
    · rw [cdn (by rw [h1]; omega), cdn (by rw [h1]; omega), if_neg c]
      by_cases c3 : r = 0
      · rw [cdn (by omega), if_pos c3]
        by_cases c2 : 9223372036854775808 < v
        · rw [cdp (by omega), if_neg (by unfold inI; omega)]
        · rw [cdn (by omega), if_pos (by unfold inI; omega), i64_u64, w64 (by omega) (by omega)]
          exact congrArg some (Prod.ext (by show (0 : Int) - (v : Int) = _; omega) rfl)
      · rw [cdp (by omega), if_neg c3]
        by_cases c4 : v = 18446744073709551615
        · have e5 : IntKind.u64.wrap ((v : Int) + 1) = 0 := by rw [u64_mod]; omega
          rw [e5, cep rfl, if_neg (by unfold inI; omega)]
        · have e5 : IntKind.u64.wrap ((v : Int) + 1) = (v : Int) + 1 := by rw [u64_mod]; omega
          rw [e5, cen (by omega)]
          by_cases c2 : 9223372036854775808 < (v : Int) + 1
          · rw [cdp c2, if_neg (by unfold inI; omega)]
          · rw [cdn c2, if_pos (by unfold inI; omega), i64_u64, w64 (by omega) (by omega)]
            exact congrArg some (Prod.ext (by show (0 : Int) - ((v : Int) + 1) = _; omega) rfl)
  · rw [cnp (by omega), if_neg]
    unfold inI
    split
    · omega
    · split <;> omega
theorem l06Win_eq0 (a b : Int) : S.l06Win a b = some (decide (0 ≤ a ∧ a < b ∧ b ≤ 1100)) := by unfold S.l06Win; simp only [cds]
theorem isWin_eq0 (a b : Int) : I.isWin a b = some (decide (0 ≤ a ∧ a < b ∧ b ≤ 1100)) := by unfold I.isWin; simp only [cds]
theorem cloneInt_eq (a : List Int) (h : a.length ≤ 1048576) : G.slices.Clone_int a = some a := by
  unfold G.slices.Clone_int
  by_cases h0 : a.length = 0
  · obtain rfl := List.eq_nil_of_length_eq_zero h0
    rw [cdp h0, cdp (by simp only [List.length_nil]; omega)]
    exact same_self _
  · rw [cdn h0, List.nil_append, cdp (by simp only [List.length_nil]; omega)]
theorem paneOk_same (a1 a2 a3 a4 a5 a6 : Int) (a7 : Bool) (a8 : List Int) : ∃ b, S.PaneOk a1 a2 a3 a4 a5 a6 a7 a8 = some b ∧ I.isPane a1 a2 a3 a4 a5 a6 a7 a8 = some b ∧ (b = true → a8.length ≤ 4) := by
  unfold S.PaneOk I.isPane I.isId
  simp only [l04Key_eq, isKey_eq, l06Win_eq0, isWin_eq0, in_eq, Option.bind_some]
  by_cases c1 : a1 < 0
  · exact ⟨false, by rw [cdp c1], by rw [cdn (show ¬(0 ≤ a1 ∧ a1 ≤ 3) by omega)], fun h => by cases h⟩
  by_cases c2 : 4 ≤ a1
  · exact ⟨false, by rw [cdn c1, cdp c2], by rw [cdn (show ¬(0 ≤ a1 ∧ a1 ≤ 3) by omega)], fun h => by cases h⟩
  rw [cdn c1, cdn c2, cdp (show 0 ≤ a1 ∧ a1 ≤ 3 by omega)]
  by_cases c3 : 0 ≤ a2 ∧ a2 ≤ 15
  · rw [decide_eq_true c3, Bool.not_true, cond_false, cond_true]
    by_cases c4 : 0 ≤ a3 ∧ a3 < a4 ∧ a4 ≤ 1100
    · rw [decide_eq_true c4, Bool.not_true, cond_false, cond_true]
      by_cases c5 : a5 < 0
      · exact ⟨false, by rw [cdp c5], by rw [cdn (show ¬(0 ≤ a5 ∧ a5 ≤ 15) by omega)], fun h => by cases h⟩
      by_cases c6 : 16 ≤ a5
      · exact ⟨false, by rw [cdn c5, cdp c6], by rw [cdn (show ¬(0 ≤ a5 ∧ a5 ≤ 15) by omega)], fun h => by cases h⟩
      rw [cdn c5, cdn c6, cdp (show 0 ≤ a5 ∧ a5 ≤ 15 by omega)]
      by_cases c7 : a6 < 1
      · exact ⟨false, by rw [cdp c7], by rw [cdn (show ¬(1 ≤ a6 ∧ a6 ≤ 1000000) by omega)], fun h => by cases h⟩
      by_cases c8 : 1000000 < a6
      · exact ⟨false, by rw [cdn c7, cdp c8], by rw [cdn (show ¬(1 ≤ a6 ∧ a6 ≤ 1000000) by omega)], fun h => by cases h⟩
      rw [cdn c7, cdn c8, cdp (show 1 ≤ a6 ∧ a6 ≤ 1000000 by omega)]
      by_cases c9 : 4 < (a8.length : Int)
      · exact ⟨false, by rw [cdp c9], by rw [cdn (by omega)], fun h => by cases h⟩
      · exact ⟨_, by rw [cdn c9], by rw [cdp (by omega)], fun _ => by omega⟩
    · exact ⟨false, by rw [decide_eq_false c4]; rfl, by rw [decide_eq_false c4]; rfl, fun h => by cases h⟩
  · exact ⟨false, by rw [decide_eq_false c3]; rfl, by rw [decide_eq_false c3]; rfl, fun h => by cases h⟩
theorem done_same (k K N h l mn mx : Int) (top : List Int) (hk : aggKind k K) (ha : aggOk N h l mn mx top) (hN : N ≠ 0) (hT : ∀ x ∈ top, inI x) (hh : inI h) (hl : 0 ≤ l ∧ l < 18446744073709551616)
    (hS : S.AggOk N h l mn mx top = some (decide (aggOk N h l mn mx top))) : ∃ r, S.AggDone k K N h l mn mx top = some r ∧ I.done k K N h l mn mx top = some r ∧ r.2.length ≤ 4 := by
  have hN1 : 1 ≤ N ∧ N ≤ 1000000 := by
    rcases ha with ⟨h0, _⟩ | ⟨h1, _⟩
    · omega
    · exact h1
  have htl : top.length ≤ 4 := by
    rcases ha with ⟨h0, _⟩ | ⟨_, h2, _⟩
    · omega
    · split at h2 <;> omega
  obtain ⟨W, hWe⟩ : ∃ W, W = h * 18446744073709551616 + l := ⟨_, rfl⟩
  have hW : inW W := by unfold inI at hh; unfold inW; omega
  have hwd : (h, l) = wd W := wd_of hh hl.1 hl.2 hWe
  obtain ⟨e1, e2⟩ : h = (wd W).1 ∧ l = (wd W).2 := ⟨congrArg Prod.fst hwd, congrArg Prod.snd hwd⟩
  unfold S.AggDone I.done
  rw [hS, Option.bind_some, decide_eq_true ha, Bool.not_true, cond_false, cen hN, sAggKind_eq, Option.bind_some, decide_eq_true hk, Bool.not_true, cond_false]
  clear hS ha
  by_cases c1 : k = 1
  · exact ⟨_, by rw [cep c1], by rw [cep c1], by simp⟩
  rw [cen c1, cen c1]
  by_cases c2 : k = 2
  · rw [cep c2, cep c2, e1, e2, sWideInt_eq W hW, iWideInt_eq W hW, Option.bind_some]
    generalize (if inI W then (W, true) else (0, false)) = r
    cases r.2
    · exact ⟨_, rfl, rfl, by simp⟩
    · exact ⟨_, rfl, rfl, by simp⟩
  rw [cen c2, cen c2]
  by_cases c3 : k = 3
  · exact ⟨_, by rw [cep c3], by rw [cep c3], by simp⟩
  rw [cen c3, cen c3]
  by_cases c4 : k = 4
  · exact ⟨_, by rw [cep c4], by rw [cep c4], by simp⟩
  rw [cen c4, cen c4]
  by_cases c5 : k = 5
  · obtain ⟨n, rfl⟩ := Int.eq_ofNat_of_zero_le (show 0 ≤ N by omega)
    rw [cep c5, cep c5, e1, e2, sWideMean_eq W n hW (by omega) (by omega), iWideMean_eq W n hW (by omega) (by omega), Option.bind_some]
    exact ⟨_, rfl, rfl, by simp⟩
  rw [cen c5, cen c5]
  have hK : 1 ≤ K ∧ K ≤ 4 := by unfold aggKind at hk; omega
  obtain ⟨m, hm⟩ : ∃ m : Nat, m = min top.length K.toNat := ⟨_, rfl⟩
  have hm1 : (if (top.length : Int) < K then (top.length : Int) else K) = (m : Int) := by split <;> omega
  have hlen : (top.take m).length ≤ 4 := by rw [List.length_take]; omega
  simp only [hm1, Int.toNat_natCast, show Int.toNat 0 = 0 from rfl, List.drop_zero, List.nil_append]
  rw [cdp (by omega), cdp (by simp only [List.length_nil]; omega), cdp (by omega), cloneInt_eq _ (by omega), Option.bind_some]
  exact ⟨_, rfl, rfl, hlen⟩

theorem FnExactPaneOf : StmtFnExactPaneOf.Stmt := by
  intro id fl mp qk qs qp ka kk key w1 w2 lab N h l mn mx top hid hfl hmp hqk hqs hqp hka hkk hkey hw1 hw2 hlab hN hh hl hmn hmx htop
  have hqp' := i64_wf hqp
  have hsz1 : L.szQuery qk qs qp ka kk 1048576 fl mp = some (if ((fl.length + mp.length : Nat) : Int) ≤ 1048576 then 1048576 - ((fl.length + mp.length : Nat) : Int) else -1) := szQuery_eq (fl, mp, (qk, qs, qp), ka, kk) 1048576 (by omega) (by omega) ⟨hfl, hmp, ⟨hqk, hqs, hqp⟩, hka, hkk⟩
  have hbA : bAgg (N, (h, l), mn, mx, top) := ⟨hN, ⟨hh, hl⟩, hmn, hmx, htop⟩
  unfold L.FnExactPaneOf L.FnExactPaneOf_q0
  rw [hsz1, Option.bind_some]
  by_cases hl1 : ((fl.length + mp.length : Nat) : Int) ≤ 1048576
  · have hsz2 : L.szAgg N h l mn mx (1048576 - ((fl.length + mp.length : Nat) : Int)) top = some (if ((top.length : Nat) : Int) ≤ 1048576 - ((fl.length + mp.length : Nat) : Int) then 1048576 - ((fl.length + mp.length : Nat) : Int) - ((top.length : Nat) : Int) else -1) := szAgg_eq (N, (h, l), mn, mx, top) (1048576 - ((fl.length + mp.length : Nat) : Int)) (by omega) (by omega) hbA
    rw [if_pos hl1, cdn (by omega), hsz2, Option.bind_some]
    by_cases hl2 : ((top.length : Nat) : Int) ≤ 1048576 - ((fl.length + mp.length : Nat) : Int)
    · rw [if_pos hl2, cdn (by omega)]
      have htoQ : L.toQuery qk qs qp ka kk fl mp = some (qk, qs, qp, ka, kk, fl, mp) := toQuery_eq (fl, mp, (qk, qs, qp), ka, kk) (show fl.length + mp.length ≤ _ by omega)
      have htoW : L.toWin w1 w2 = some (w1, w2) := toWin_eq (w1, w2)
      have htoA : L.toAgg N h l mn mx top = some (N, h, l, mn, mx, top) := toAgg_eq (N, (h, l), mn, mx, top) (show top.length ≤ _ by omega)
      have heqQ : L.eqQuery qk qs qp ka kk qk qs qp ka kk fl mp fl mp = some (decide (_ = _)) := eqQuery_eq (fl, mp, (qk, qs, qp), ka, kk) (fl, mp, (qk, qs, qp), ka, kk) (show fl.length + mp.length ≤ _ by omega)
      have heqA : L.eqAgg N h l mn mx N h l mn mx top top = some (decide (_ = _)) := eqAgg_eq (N, (h, l), mn, mx, top) (N, (h, l), mn, mx, top) (show top.length ≤ _ by omega)
      have hmQ : L.markQuery qk qs qp ka kk 1 fl mp = some (1 + (2 * (fl.length : Int) + 2 * (mp.length : Int)), mTokS 1 fl, mTokS (1 + 2 * (fl.length : Int)) mp) := markQuery_eq (fl, mp, (qk, qs, qp), ka, kk) 1 (by omega) (show 1 + (2 * (fl.length : Int) + 2 * (mp.length : Int)) ≤ _ by omega)
      have hmA : L.markAgg N h l mn mx (1 + (2 * (fl.length : Int) + 2 * (mp.length : Int))) top = some (1 + (2 * (fl.length : Int) + 2 * (mp.length : Int)) + 1 * (top.length : Int), mIntS (1 + (2 * (fl.length : Int) + 2 * (mp.length : Int))) top) := markAgg_eq (N, (h, l), mn, mx, top) _ (by omega) (show 1 + (2 * (fl.length : Int) + 2 * (mp.length : Int)) + 1 * (top.length : Int) ≤ _ by omega)
      have key : ∃ r : Int × Int × Int × Int × Int × Int × Bool × Bool × List Int, S.PaneOf id qk qs qp ka kk key w1 w2 lab N h l mn mx fl mp top = some r ∧ I.PaneOf id qk qs qp ka kk key w1 w2 lab N h l mn mx fl mp top = some r ∧ r.2.2.2.2.2.2.2.2.length ≤ 4 := by
        have hhi := i64_wf hh
        have hu := u64_wf hl
        have hT : ∀ x ∈ top, inI x := fun x hx => i64_wf (htop.2 x hx)
        have hSA : S.AggOk N h l mn mx top = some (decide (aggOk N h l mn mx top)) := sAggOk_eq _ _ _ _ _ _ (i64_wf hN) hhi hu.1 hu.2 (i64_wf hmn) hT (by omega)
        have hIA : I.isAgg N h l mn mx top = some (decide (aggOk N h l mn mx top)) := iAggOk_eq _ _ _ _ _ _ (i64_wf hN) hhi hu.1 hu.2 (i64_wf hmn) hT (by omega)
        unfold S.PaneOf I.PaneOf I.paneOf
        rw [sQueryOk_eq qk qs qp ka kk fl mp hqp'.1 hqp'.2, iQueryOk_eq qk qs qp ka kk fl mp hqp'.1 hqp'.2 (by omega) (by omega), hSA, hIA]
        simp only [Option.bind_some]
        by_cases c1 : queryOk qk qs qp ka kk fl mp
        · rw [decide_eq_true c1, Bool.not_true, cond_false, cond_false]
          by_cases c2 : aggOk N h l mn mx top
          · rw [decide_eq_true c2, Bool.not_true, cond_false, cond_false]
            by_cases c3 : N = 0
            · exact ⟨_, by rw [cep c3], by rw [cep c3], by simp⟩
            · obtain ⟨d, hd1, hd2, hd3⟩ := done_same ka kk N h l mn mx top c1.2.2.2 c2 c3 hT (by unfold inI; omega) ⟨hu.1, hu.2⟩ hSA
              obtain ⟨b, hb1, hb2, hb3⟩ := paneOk_same id key w1 w2 lab N d.1 d.2
              rw [cen c3, cen c3, hd1, hd2]
              simp only [Option.bind_some, hb1, hb2]
              cases b
              · exact ⟨_, rfl, rfl, by simp⟩
              · exact ⟨_, rfl, rfl, hd3⟩
          · rw [decide_eq_false c2]
            exact ⟨_, rfl, rfl, by simp⟩
        · rw [decide_eq_false c1]
          exact ⟨_, rfl, rfl, by simp⟩
      obtain ⟨⟨p1, p2, p3, p4, p5, p6, p7, p8, p9⟩, hS, hI, hlen⟩ := key
      have hlen' : p9.length ≤ 4 := hlen
      have heP : L.eqPane p1 p2 p3 p4 p5 p6 p7 p1 p2 p3 p4 p5 p6 p7 p9 p9 = some (decide (_ = _)) := eqPane_eq (p1, p2, p3, p4, p5, p6, p9, p7) (p1, p2, p3, p4, p5, p6, p9, p7) (show p9.length ≤ _ by omega)
      have hmP : L.markPane p1 p2 p3 p4 p5 p6 p7 1 p9 = some (1 + 1 * (p9.length : Int), mIntS 1 p9) := markPane_eq (p1, p2, p3, p4, p5, p6, p9, p7) 1 (by omega) (show 1 + 1 * (p9.length : Int) ≤ _ by omega)
      have hhP : L.heldPane p1 p2 p3 p4 p5 p6 p7 1 (mIntS 1 p9) = some (1 + 1 * (p9.length : Int)) := heldPane_eq (p1, p2, p3, p4, p5, p6, p9, p7) 1 (by omega) (show 1 + 1 * (p9.length : Int) ≤ _ by omega)
      have d1 : decide (1 + (2 * (fl.length : Int) + 2 * (mp.length : Int)) + 1 * (top.length : Int) < 0) = false := decide_eq_false (by omega)
      have d2 : decide (1 + 1 * (p9.length : Int) < 0) = false := decide_eq_false (by omega)
      simp only [L.FnExactPaneOf_t1, L.FnExactPaneOf_q1, L.FnExactPaneOf_t2, L.FnExactPaneOf_q2, L.FnExactPaneOf_t3, htoQ, htoW, htoA, hS, hI, heqQ, heqA, hmQ, hmA, heP, hmP, hhP, d1, d2, same_self, dup_eq, Option.bind_some, decide_true, beq_self_eq_true, Bool.not_true, cond_false, bne_self_eq_false]
    · rw [if_neg hl2, cdp (by omega)]
  · rw [if_neg hl1, cdp (by omega)]
end Go.Proofs.Ytidojhgkpgomcaa.Pure
