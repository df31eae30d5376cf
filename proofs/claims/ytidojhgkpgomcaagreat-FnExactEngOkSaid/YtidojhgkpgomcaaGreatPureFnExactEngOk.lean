/- EngOk of the program returns what the reference's returns. For every argument. -/
import Derived.Test.YtidojhgkpgomcaaGreatStmtFnExactEngOk
import Derived.Laws.BitsLemmas
import Derived.Laws.BitsAllLaws
import Derived.Laws.Bits64b
namespace Go.Proofs.YtidojhgkpgomcaaGreat.Pure
open Go Go.RowKit Go.Proofs.YtidojhgkpgomcaaGreat.Run Go.Proofs.YtidojhgkpgomcaaGreat.StmtFnExactEngOk Go.Proofs.YtidojhgkpgomcaaGreatW.PrintWords Go.Proofs.YtidojhgkpgomcaaGreat.Vm
set_option linter.unusedVariables false
set_option linter.unusedSimpArgs false
set_option linter.unusedSectionVars false
theorem cdp {α : Type} {p : Prop} [Decidable p] {a b : α} (h : p) : (bif decide p then a else b) = a := by simp [h]
theorem cdn {α : Type} {p : Prop} [Decidable p] {a b : α} (h : ¬ p) : (bif decide p then a else b) = b := by simp [h]
theorem cnp {α : Type} {x y : Int} {a b : α} (h : x ≠ y) : (bif (x != y) then a else b) = a := by rw [show (x != y) = true from by simpa using h]; rfl
theorem cnn {α : Type} {x y : Int} {a b : α} (h : x = y) : (bif (x != y) then a else b) = b := by simp [bne, h]
theorem cep {α : Type} {x y : Int} {a b : α} (h : x = y) : (bif (x == y) then a else b) = a := by simp [h]
theorem cen {α : Type} {x y : Int} {a b : α} (h : x ≠ y) : (bif (x == y) then a else b) = b := by rw [show (x == y) = false from by simpa using h]; rfl
theorem cond_some {α : Type} (c : Bool) (x y : α) : (bif c then some x else some y) = some (bif c then x else y) := by cases c <;> rfl
theorem cond_and (c x : Bool) : (bif c then x else false) = (c && x) := by cases c <;> rfl
theorem dand (p q : Prop) [Decidable p] [Decidable q] : (decide p && decide q) = decide (p ∧ q) := by by_cases p <;> by_cases q <;> simp_all
theorem w64 {n : Int} (h0 : -9223372036854775808 ≤ n) (h1 : n < 9223372036854775808) : IntKind.i64.wrap n = n := by rw [IntKind.wrap_i64]; omega
theorem u64_mod (n : Int) : IntKind.u64.wrap n = n % 18446744073709551616 := by simp [IntKind.wrap, IntKind.bits, IntKind.signed]
theorem u64w {n : Int} (h0 : 0 ≤ n) (h1 : n < 18446744073709551616) : IntKind.u64.wrap n = n := by rw [u64_mod]; omega
theorem i64_wf {n : Int} (h : (Lit.int .i64 n).wf = true) : -9223372036854775808 ≤ n ∧ n < 9223372036854775808 := by
  simp only [Lit.wf, IntKind.min, IntKind.max, IntKind.signed, IntKind.bits, Bool.and_eq_true, decide_eq_true_eq, if_true] at h
  omega
theorem tmod_nat (n : Int) (m : Int) (h : 0 ≤ n) : Int.tmod n m = n % m := Int.tmod_eq_emod_of_nonneg h
theorem tdiv_nat (n : Int) (m : Int) (h : 0 ≤ n) : Int.tdiv n m = n / m := Int.tdiv_eq_ediv_of_nonneg h
theorem fu_ge (d : Nat) (h : d ≤ 1000000000000) : ∃ m, fu = d + 1 + m := ⟨fu - d - 1, by rw [fu_eq]; omega⟩
theorem nthI_nat {α : Type} (xs : List α) (i : Nat) (d : α) : nthI xs (i : Int) d = xs.getD i d := rfl
theorem nthI_mem {α : Type} (a : List α) (i : Nat) (d : α) (h : i < a.length) : nthI a (i : Int) d ∈ a := by
  rw [nthI_nat, List.getD_eq_getElem?_getD, List.getElem?_eq_getElem h]; simp
theorem drop_at {α : Type} (xs : List α) (i : Nat) (d : α) (h : i < xs.length) : xs.drop i = nthI xs (i : Int) d :: xs.drop (i + 1) := by
  rw [nthI_nat, List.getD_eq_getElem?_getD, List.getElem?_eq_getElem h]; exact List.drop_eq_getElem_cons h
theorem cneI {x y : Int} {k : Option Bool} : (bif (x != y) then some false else k) = bif decide (x = y) then k else some false := by
  by_cases h : x = y
  · rw [cnn h, cdp h]
  · rw [cnp h, cdn h]
theorem cneB {x y : Bool} {k : Option Bool} : (bif (!(x == y)) then some false else k) = bif decide (x = y) then k else some false := by
  cases x <;> cases y <;> rfl
theorem cbeB {x y : Bool} {k : Option Bool} : (bif (x == y) then k else some false) = bif decide (x = y) then k else some false := by cases x <;> cases y <;> rfl
theorem cnotb {r : Bool} {k : Option Bool} : (bif (!r) then some false else k) = bif r then k else some false := by cases r <;> rfl
theorem cds {p q : Prop} [Decidable p] [Decidable q] : (bif decide p then some (decide q) else some false) = some (decide (p ∧ q)) := by
  by_cases p <;> by_cases q <;> simp_all
theorem cdt {p : Prop} [Decidable p] : (bif decide p then some true else some false) = some (decide p) := by by_cases p <;> simp_all
theorem sdec {p q : Prop} [Decidable p] [Decidable q] (h : q ↔ p) : some (decide q) = some (decide p) := congrArg some (decide_eq_decide.mpr h)
theorem sfal {p : Prop} [Decidable p] (h : ¬ p) : some false = some (decide p) := by rw [decide_eq_false h]
theorem sbool {b : Bool} {p : Prop} [Decidable p] (h : b = true ↔ p) : some b = some (decide p) := by
  by_cases c : p
  · rw [h.2 c, decide_eq_true c]
  · rw [decide_eq_false c, Bool.eq_false_iff.2 fun e => c (h.1 e)]
theorem sum_mem {l : List Nat} {x : Nat} (h : x ∈ l) : x ≤ l.sum := by
  induction l with
  | nil => cases h
  | cons y l ih =>
    rw [List.sum_cons]
    rcases List.mem_cons.1 h with rfl | h
    · omega
    · have := ih h; omega
theorem toLoop {α : Type} (F : Nat → Int → List α → Option (List α)) (a : List α) (d : α) (hn : a.length ≤ 1000000000000)
    (hs : ∀ (i m : Nat) (xs : List α), i < a.length → xs.length = a.length → F (m + 1) (i : Int) xs = F m ((i + 1 : Nat) : Int) (xs.set i (nthI a (i : Int) d)))
    (he : ∀ (m : Nat) (xs : List α), F (m + 1) (a.length : Int) xs = some xs) (xs : List α) (hx : xs.length = a.length) : F fu 0 xs = some a := by
  obtain ⟨M, hM⟩ := fu_ge a.length hn
  have h1 : ∀ k i : Nat, ∀ xs : List α, xs.length = a.length → i ≤ a.length → a.length - i = k → xs.take i = a.take i → F (k + 1 + M) (i : Int) xs = some a := by
    intro k
    induction k with
    | zero =>
      intro i xs hx hi hd ht
      obtain rfl : i = a.length := by omega
      rw [List.take_of_length_le (by omega), List.take_of_length_le (by omega)] at ht
      subst ht
      rw [show 0 + 1 + M = M + 1 from by omega]
      exact he M xs
    | succ k ih =>
      intro i xs hx hi hd ht
      have hi2 : i < a.length := by omega
      rw [show k + 1 + 1 + M = (k + 1 + M) + 1 from by omega, hs i _ xs hi2 hx]
      refine ih (i + 1) _ (by simpa using hx) (by omega) (by omega) ?_
      rw [nthI_nat, List.getD_eq_getElem?_getD, List.getElem?_eq_getElem hi2, Option.getD_some, List.take_add_one, List.take_add_one, List.take_set_of_le (Nat.le_refl i), ht]
      simp [show i < xs.length from by omega, hi2]
  rw [hM]
  exact h1 a.length 0 xs hx (by omega) (by omega) (by simp)
theorem eqLoop {α : Type} [DecidableEq α] (F : Nat → Int → Option Bool) (a b : List α) (d : α) (hl : a.length = b.length) (hn : a.length ≤ 1000000000000)
    (hs : ∀ (i m : Nat), i < a.length → F (m + 1) (i : Int) = bif decide (nthI a (i : Int) d = nthI b (i : Int) d) then F m ((i + 1 : Nat) : Int) else some false)
    (he : ∀ m : Nat, F (m + 1) (a.length : Int) = some true) : F fu 0 = some (decide (a = b)) := by
  obtain ⟨M, hM⟩ := fu_ge a.length hn
  have h1 : ∀ k i : Nat, i ≤ a.length → a.length - i = k → F (k + 1 + M) (i : Int) = some (decide (a.drop i = b.drop i)) := by
    intro k
    induction k with
    | zero =>
      intro i hi hd
      obtain rfl : i = a.length := by omega
      rw [show 0 + 1 + M = M + 1 from by omega, he, List.drop_of_length_le (by omega), List.drop_of_length_le (by omega)]
      simp
    | succ k ih =>
      intro i hi hd
      rw [show k + 1 + 1 + M = (k + 1 + M) + 1 from by omega, hs i _ (by omega), drop_at a i d (by omega), drop_at b i d (by omega), ih (i + 1) (by omega) (by omega)]
      by_cases e : nthI a (i : Int) d = nthI b (i : Int) d
      · rw [cdp e, e]
        generalize nthI b (i : Int) d = x
        simp
      · rw [cdn e]
        generalize nthI b (i : Int) d = x at *
        generalize nthI a (i : Int) d = y at *
        simp [e]
  rw [hM]
  simpa using h1 a.length 0 (by omega) (by omega)
theorem eqTop {α : Type} [DecidableEq α] (a b : List α) {k : Option Bool} (h : a.length = b.length → k = some (decide (a = b))) : (bif ((a.length : Int) != (b.length : Int)) then some false else k) = some (decide (a = b)) := by
  by_cases e : a.length = b.length
  · rw [cnn (by omega), h e]
  · rw [cnp (by omega), decide_eq_false (fun h => e (by rw [h]))]
theorem szLoop {α : Type} (F : Nat → Int → Int → Option Int) (a : List α) (d : α) (c : α → Nat) (hn : a.length ≤ 1000000000000)
    (hs : ∀ (i m : Nat) (l : Int), i < a.length → 0 ≤ l → l ≤ 1000000000000 → F (m + 1) l (i : Int) = if (c (nthI a (i : Int) d) : Int) ≤ l then F m (l - (c (nthI a (i : Int) d) : Int)) ((i + 1 : Nat) : Int) else some (-1))
    (he : ∀ (m : Nat) (l : Int), F (m + 1) l (a.length : Int) = some l) (l : Int) (h0 : 0 ≤ l) (h1 : l ≤ 1000000000000) : F fu l 0 = some (if (((a.map c).sum : Nat) : Int) ≤ l then l - (((a.map c).sum : Nat) : Int) else -1) := by
  obtain ⟨M, hM⟩ := fu_ge a.length hn
  have h2 : ∀ k i : Nat, ∀ l : Int, 0 ≤ l → l ≤ 1000000000000 → i ≤ a.length → a.length - i = k → F (k + 1 + M) l (i : Int) = some (if ((((a.drop i).map c).sum : Nat) : Int) ≤ l then l - ((((a.drop i).map c).sum : Nat) : Int) else -1) := by
    intro k
    induction k with
    | zero =>
      intro i l h0 h1 hi hd
      obtain rfl : i = a.length := by omega
      rw [show 0 + 1 + M = M + 1 from by omega, he, List.drop_of_length_le (by omega)]
      simp [h0]
    | succ k ih =>
      intro i l h0 h1 hi hd
      rw [show k + 1 + 1 + M = (k + 1 + M) + 1 from by omega, hs i _ l (by omega) h0 h1, drop_at a i d (by omega), List.map_cons, List.sum_cons]
      by_cases e : (c (nthI a (i : Int) d) : Int) ≤ l
      · rw [if_pos e, ih (i + 1) _ (by omega) (by omega) (by omega) (by omega)]
        congr 1
        split <;> split <;> omega
      · rw [if_neg e, if_neg (by omega)]
  rw [hM]
  simpa using h2 a.length 0 l h0 h1 (by omega) (by omega)
theorem allLoop (F : Nat → Int → Option Bool) (n : Nat) (p : Nat → Prop) [DecidablePred p] (e : Bool) (hn : n ≤ 1000000000000)
    (hs : ∀ (i m : Nat), i < n → F (m + 1) (i : Int) = bif decide (p i) then F m ((i + 1 : Nat) : Int) else some false)
    (he : ∀ m : Nat, F (m + 1) (n : Int) = some e) : F fu 0 = some (decide (∀ j, j < n → p j) && e) := by
  obtain ⟨M, hM⟩ := fu_ge n hn
  have h1 : ∀ k i : Nat, i + k = n → (∀ j, j < i → p j) → F (k + 1 + M) (i : Int) = some (decide (∀ j, j < n → p j) && e) := by
    intro k
    induction k with
    | zero =>
      intro i hi hp
      obtain rfl : i = n := by omega
      rw [show 0 + 1 + M = M + 1 from by omega, he, decide_eq_true hp]
      rfl
    | succ k ih =>
      intro i hi hp
      rw [show k + 1 + 1 + M = (k + 1 + M) + 1 from by omega, hs i _ (by omega)]
      by_cases c : p i
      · rw [cdp c]
        refine ih (i + 1) (by omega) fun j hj => ?_
        rcases Nat.lt_or_ge j i with h | h
        · exact hp j h
        · obtain rfl : j = i := by omega
          exact c
      · rw [cdn c, decide_eq_false fun h => c (h i (by omega))]
        rfl
  rw [hM]
  exact h1 n 0 (by omega) fun j hj => by omega
def cmpF (a b : Int) : Int := if a < b then -1 else if b < a then 1 else 0
theorem allLoopK (F : Nat → Int → Option Bool) (n : Nat) (p : Nat → Prop) [DecidablePred p] (E : Option Bool) (hn : n ≤ 1000000000000)
    (hs : ∀ (i m : Nat), i < n → F (m + 1) (i : Int) = bif decide (p i) then F m ((i + 1 : Nat) : Int) else some false)
    (he : ∀ m : Nat, F (m + 1) (n : Int) = E) : F fu 0 = if ∀ j, j < n → p j then E else some false := by
  obtain ⟨M, hM⟩ := fu_ge n hn
  have h1 : ∀ k i : Nat, i + k = n → (∀ j, j < i → p j) → F (k + 1 + M) (i : Int) = if ∀ j, j < n → p j then E else some false := by
    intro k
    induction k with
    | zero =>
      intro i hi hp
      obtain rfl : i = n := by omega
      rw [show 0 + 1 + M = M + 1 from by omega, he, if_pos hp]
    | succ k ih =>
      intro i hi hp
      rw [show k + 1 + 1 + M = (k + 1 + M) + 1 from by omega, hs i _ (by omega)]
      by_cases c : p i
      · rw [cdp c]
        refine ih (i + 1) (by omega) fun j hj => ?_
        rcases Nat.lt_or_ge j i with h | h
        · exact hp j h
        · obtain rfl : j = i := by omega
          exact c
      · rw [cdn c, if_neg fun h => c (h i (by omega))]
  rw [hM]
  exact h1 n 0 (by omega) fun j hj => by omega
theorem u64_wf {n : Int} (h : (Lit.int .u64 n).wf = true) : 0 ≤ n ∧ n < 18446744073709551616 := by
  simp [Lit.wf, IntKind.min, IntKind.max, IntKind.signed, IntKind.bits, Bool.and_eq_true] at h
  omega
def bUint64 (x : Int) : Prop := (Lit.int .u64 x).wf = true
theorem szUint64S_eq (left : Int) (a : List Int) (h0 : 0 ≤ left) (h1 : left ≤ 1000000000000) (hm : a.length ≤ maxLen ∧ ∀ x ∈ a, bUint64 x) : L.szUint64S left a = some (if ((a.length : Nat) : Int) ≤ left then left - ((a.length : Nat) : Int) else -1) := by
  have hl : a.length ≤ 9223372036854775807 := hm.1
  unfold L.szUint64S
  simp only []
  rw [w64 (by omega) (by omega)]
  by_cases h : ((a.length : Nat) : Int) ≤ left
  · rw [cdn (by omega), if_pos h]
  · rw [cdp (by omega), if_neg h]
def bInt (x : Int) : Prop := (Lit.int .i64 x).wf = true
abbrev TLat : Type := Int × List Int
instance : DecidableEq TLat := (@instDecidableEqProd _ _ (inferInstance : DecidableEq Int) (inferInstance : DecidableEq (List Int)))
def cLat (x : TLat) : Nat := (x.2).length
def bLat (x : TLat) : Prop := ((Lit.int .i64 x.1).wf = true ∧ (x.2.length ≤ maxLen ∧ ∀ y ∈ x.2, bUint64 y))
theorem szLat_eq (x : TLat) (left : Int) (h0 : 0 ≤ left) (h1 : left ≤ 1000000000000) (hb : bLat x) : L.szLat x.1 left x.2 = some (if (cLat x : Int) ≤ left then left - (cLat x : Int) else -1) := by
  unfold bLat at hb
  unfold L.szLat cLat
  rw [szUint64S_eq _ x.2 (by omega) (by omega) hb.2, Option.bind_some]
  by_cases h0 : (((x.2).length : Nat) : Int) ≤ left
  · first
      | (rw [if_pos h0, cdn (by omega)]; done)
      | (rw [if_pos h0, cdn (by omega), if_pos (by omega)]; congr 1; omega)
  · first | (rw [if_neg h0, cdp (by omega)]; done) | rw [if_neg h0, cdp (by omega), if_neg (by omega)]
abbrev TTok : Type := Int × Int
instance : DecidableEq TTok := (@instDecidableEqProd _ _ (inferInstance : DecidableEq Int) (inferInstance : DecidableEq Int))
def bTok (x : TTok) : Prop := ((Lit.int .i64 x.1).wf = true ∧ (Lit.int .i64 x.2).wf = true)
theorem szTokS_eq (left : Int) (a : List TTok) (h0 : 0 ≤ left) (h1 : left ≤ 1000000000000) (hm : a.length ≤ maxLen ∧ ∀ x ∈ a, bTok x) : L.szTokS left a = some (if ((a.length : Nat) : Int) ≤ left then left - ((a.length : Nat) : Int) else -1) := by
  have hl : a.length ≤ 9223372036854775807 := hm.1
  unfold L.szTokS
  simp only []
  rw [w64 (by omega) (by omega)]
  by_cases h : ((a.length : Nat) : Int) ≤ left
  · rw [cdn (by omega), if_pos h]
  · rw [cdp (by omega), if_neg h]
abbrev TWinDef : Type := Int × Int × Int
instance : DecidableEq TWinDef := (@instDecidableEqProd _ _ (inferInstance : DecidableEq Int) (@instDecidableEqProd _ _ (inferInstance : DecidableEq Int) (inferInstance : DecidableEq Int)))
abbrev TQuery : Type := List TTok × List TTok × (TWinDef) × Int × Int
instance : DecidableEq TQuery := (@instDecidableEqProd _ _ (inferInstance : DecidableEq (List TTok)) (@instDecidableEqProd _ _ (inferInstance : DecidableEq (List TTok)) (@instDecidableEqProd _ _ (inferInstance : DecidableEq TWinDef) (@instDecidableEqProd _ _ (inferInstance : DecidableEq Int) (inferInstance : DecidableEq Int)))))
def cQuery (x : TQuery) : Nat := (x.1).length + (x.2.1).length
def cQueryS (a : List TQuery) : Nat := a.length + (a.map cQuery).sum
theorem cQueryS_mem {a : List TQuery} {x : TQuery} (h : x ∈ a) : cQuery x ≤ cQueryS a := by
  have := sum_mem (List.mem_map.2 ⟨x, h, rfl⟩ : cQuery x ∈ a.map cQuery)
  unfold cQueryS; omega
def bQuery (x : TQuery) : Prop := ((x.1.length ≤ maxLen ∧ ∀ y ∈ x.1, bTok y) ∧ (x.2.1.length ≤ maxLen ∧ ∀ y ∈ x.2.1, bTok y) ∧ ((Lit.int .i64 x.2.2.1.1).wf = true ∧ (Lit.int .i64 x.2.2.1.2.1).wf = true ∧ (Lit.int .i64 x.2.2.1.2.2).wf = true) ∧ (Lit.int .i64 x.2.2.2.1).wf = true ∧ (Lit.int .i64 x.2.2.2.2).wf = true)
theorem szQuery_eq (x : TQuery) (left : Int) (h0 : 0 ≤ left) (h1 : left ≤ 1000000000000) (hb : bQuery x) : L.szQuery x.2.2.1.1 x.2.2.1.2.1 x.2.2.1.2.2 x.2.2.2.1 x.2.2.2.2 left x.1 x.2.1 = some (if (cQuery x : Int) ≤ left then left - (cQuery x : Int) else -1) := by
  unfold bQuery at hb
  unfold L.szQuery cQuery
  rw [szTokS_eq _ x.1 (by omega) (by omega) hb.1, Option.bind_some]
  by_cases h0 : (((x.1).length : Nat) : Int) ≤ left
  · rw [if_pos h0, cdn (by omega)]
    rw [szTokS_eq _ x.2.1 (by omega) (by omega) hb.2.1, Option.bind_some]
    by_cases h1 : (((x.2.1).length : Nat) : Int) ≤ left - (((x.1).length : Nat) : Int)
    · first
        | (rw [if_pos h1, cdn (by omega)]; done)
        | (rw [if_pos h1, cdn (by omega), if_pos (by omega)]; congr 1; omega)
    · first | (rw [if_neg h1, cdp (by omega)]; done) | rw [if_neg h1, cdp (by omega), if_neg (by omega)]
  · first | (rw [if_neg h0, cdp (by omega)]; done) | rw [if_neg h0, cdp (by omega), if_neg (by omega)]
theorem szQueryS_eq (left : Int) (a : List TQuery) (h0 : 0 ≤ left) (h1 : left ≤ 1000000000000) (hm : a.length ≤ maxLen ∧ ∀ x ∈ a, bQuery x) : L.szQueryS left a = some (if ((cQueryS a : Nat) : Int) ≤ left then left - ((cQueryS a : Nat) : Int) else -1) := by
  have hl : a.length ≤ 9223372036854775807 := hm.1
  unfold L.szQueryS
  simp only []
  rw [w64 (by omega) (by omega)]
  by_cases h : ((a.length : Nat) : Int) ≤ left
  · rw [cdn (by omega)]
    have := szLoop (fun m l i => L.szQueryS_l0 m (fun y14 y15 => some y15) (fun y16 => some y16) l i a) a ([], ([], (((0 : Int), ((0 : Int), (0 : Int))), ((0 : Int), (0 : Int))))) cQuery (by omega) (fun i m l hi h0 h1 => ?_) (fun m l => ?_) (left - (a.length : Int)) (by omega) (by omega)
    · refine this.trans ?_
      unfold cQueryS
      congr 1
      split <;> split <;> omega
    · show L.szQueryS_l0 (m + 1) _ _ _ _ _ = _
      rw [L.szQueryS_l0, cdp (by omega), cdp (by omega), szQuery_eq (nthI a (i : Int) ([], ([], (((0 : Int), ((0 : Int), (0 : Int))), ((0 : Int), (0 : Int)))))) l h0 h1 (hm.2 _ (nthI_mem a i _ hi)), Option.bind_some]
      split
      · rw [cdn (by omega), w64 (by omega) (by omega)]; rfl
      · rw [cdp (by omega)]
    · show L.szQueryS_l0 (m + 1) _ _ _ _ _ = _
      rw [L.szQueryS_l0, cdn (by omega)]
  · rw [cdp (by omega), if_neg (by unfold cQueryS; omega)]
abbrev TSub : Type := Int × Int × Int
instance : DecidableEq TSub := (@instDecidableEqProd _ _ (inferInstance : DecidableEq Int) (@instDecidableEqProd _ _ (inferInstance : DecidableEq Int) (inferInstance : DecidableEq Int)))
def bSub (x : TSub) : Prop := ((Lit.int .i64 x.1).wf = true ∧ (Lit.int .i64 x.2.1).wf = true ∧ (Lit.int .i64 x.2.2).wf = true)
theorem szSubS_eq (left : Int) (a : List TSub) (h0 : 0 ≤ left) (h1 : left ≤ 1000000000000) (hm : a.length ≤ maxLen ∧ ∀ x ∈ a, bSub x) : L.szSubS left a = some (if ((a.length : Nat) : Int) ≤ left then left - ((a.length : Nat) : Int) else -1) := by
  have hl : a.length ≤ 9223372036854775807 := hm.1
  unfold L.szSubS
  simp only []
  rw [w64 (by omega) (by omega)]
  by_cases h : ((a.length : Nat) : Int) ≤ left
  · rw [cdn (by omega), if_pos h]
  · rw [cdp (by omega), if_neg h]
abbrev TRule : Type := Int × Int × Int × Int × Int
instance : DecidableEq TRule := (@instDecidableEqProd _ _ (inferInstance : DecidableEq Int) (@instDecidableEqProd _ _ (inferInstance : DecidableEq Int) (@instDecidableEqProd _ _ (inferInstance : DecidableEq Int) (@instDecidableEqProd _ _ (inferInstance : DecidableEq Int) (inferInstance : DecidableEq Int)))))
def bRule (x : TRule) : Prop := ((Lit.int .i64 x.1).wf = true ∧ (Lit.int .i64 x.2.1).wf = true ∧ (Lit.int .i64 x.2.2.1).wf = true ∧ (Lit.int .i64 x.2.2.2.1).wf = true ∧ (Lit.int .i64 x.2.2.2.2).wf = true)
theorem szRuleS_eq (left : Int) (a : List TRule) (h0 : 0 ≤ left) (h1 : left ≤ 1000000000000) (hm : a.length ≤ maxLen ∧ ∀ x ∈ a, bRule x) : L.szRuleS left a = some (if ((a.length : Nat) : Int) ≤ left then left - ((a.length : Nat) : Int) else -1) := by
  have hl : a.length ≤ 9223372036854775807 := hm.1
  unfold L.szRuleS
  simp only []
  rw [w64 (by omega) (by omega)]
  by_cases h : ((a.length : Nat) : Int) ≤ left
  · rw [cdn (by omega), if_pos h]
  · rw [cdp (by omega), if_neg h]
abbrev TConf : Type := (TLat) × Int × Int × List TQuery × List TSub × List TRule
instance : DecidableEq TConf := (@instDecidableEqProd _ _ (inferInstance : DecidableEq TLat) (@instDecidableEqProd _ _ (inferInstance : DecidableEq Int) (@instDecidableEqProd _ _ (inferInstance : DecidableEq Int) (@instDecidableEqProd _ _ (inferInstance : DecidableEq (List TQuery)) (@instDecidableEqProd _ _ (inferInstance : DecidableEq (List TSub)) (inferInstance : DecidableEq (List TRule)))))))
def cConf (x : TConf) : Nat := (x.1.2).length + cQueryS x.2.2.2.1 + (x.2.2.2.2.1).length + (x.2.2.2.2.2).length
def bConf (x : TConf) : Prop := (((Lit.int .i64 x.1.1).wf = true ∧ (x.1.2.length ≤ maxLen ∧ ∀ y ∈ x.1.2, bUint64 y)) ∧ (Lit.int .i64 x.2.1).wf = true ∧ (Lit.int .i64 x.2.2.1).wf = true ∧ (x.2.2.2.1.length ≤ maxLen ∧ ∀ y ∈ x.2.2.2.1, bQuery y) ∧ (x.2.2.2.2.1.length ≤ maxLen ∧ ∀ y ∈ x.2.2.2.2.1, bSub y) ∧ (x.2.2.2.2.2.length ≤ maxLen ∧ ∀ y ∈ x.2.2.2.2.2, bRule y))
theorem szConf_eq (x : TConf) (left : Int) (h0 : 0 ≤ left) (h1 : left ≤ 1000000000000) (hb : bConf x) : L.szConf x.1.1 x.2.1 x.2.2.1 left x.1.2 x.2.2.2.1 x.2.2.2.2.1 x.2.2.2.2.2 = some (if (cConf x : Int) ≤ left then left - (cConf x : Int) else -1) := by
  unfold bConf at hb
  unfold L.szConf cConf
  rw [szLat_eq x.1 _ (by omega) (by omega) hb.1, Option.bind_some]
  unfold cLat
  by_cases h0 : (((x.1.2).length : Nat) : Int) ≤ left
  · rw [if_pos h0, cdn (by omega)]
    rw [szQueryS_eq _ x.2.2.2.1 (by omega) (by omega) hb.2.2.2.1, Option.bind_some]
    by_cases h1 : ((cQueryS x.2.2.2.1 : Nat) : Int) ≤ left - (((x.1.2).length : Nat) : Int)
    · rw [if_pos h1, cdn (by omega)]
      rw [szSubS_eq _ x.2.2.2.2.1 (by omega) (by omega) hb.2.2.2.2.1, Option.bind_some]
      by_cases h2 : (((x.2.2.2.2.1).length : Nat) : Int) ≤ left - (((x.1.2).length : Nat) : Int) - ((cQueryS x.2.2.2.1 : Nat) : Int)
      · rw [if_pos h2, cdn (by omega)]
        rw [szRuleS_eq _ x.2.2.2.2.2 (by omega) (by omega) hb.2.2.2.2.2, Option.bind_some]
        by_cases h3 : (((x.2.2.2.2.2).length : Nat) : Int) ≤ left - (((x.1.2).length : Nat) : Int) - ((cQueryS x.2.2.2.1 : Nat) : Int) - (((x.2.2.2.2.1).length : Nat) : Int)
        · first
            | (rw [if_pos h3, cdn (by omega)]; done)
            | (rw [if_pos h3, cdn (by omega), if_pos (by omega)]; congr 1; omega)
        · first | (rw [if_neg h3, cdp (by omega)]; done) | rw [if_neg h3, cdp (by omega), if_neg (by omega)]
      · first | (rw [if_neg h2, cdp (by omega)]; done) | rw [if_neg h2, cdp (by omega), if_neg (by omega)]
    · first | (rw [if_neg h1, cdp (by omega)]; done) | rw [if_neg h1, cdp (by omega), if_neg (by omega)]
  · first | (rw [if_neg h0, cdp (by omega)]; done) | rw [if_neg h0, cdp (by omega), if_neg (by omega)]
abbrev TPunct : Type := Int × Int × Int × Int
instance : DecidableEq TPunct := (@instDecidableEqProd _ _ (inferInstance : DecidableEq Int) (@instDecidableEqProd _ _ (inferInstance : DecidableEq Int) (@instDecidableEqProd _ _ (inferInstance : DecidableEq Int) (inferInstance : DecidableEq Int))))
def bPunct (x : TPunct) : Prop := ((Lit.int .i64 x.1).wf = true ∧ (Lit.int .i64 x.2.1).wf = true ∧ (Lit.int .i64 x.2.2.1).wf = true ∧ (Lit.int .i64 x.2.2.2).wf = true)
theorem szPunctS_eq (left : Int) (a : List TPunct) (h0 : 0 ≤ left) (h1 : left ≤ 1000000000000) (hm : a.length ≤ maxLen ∧ ∀ x ∈ a, bPunct x) : L.szPunctS left a = some (if ((a.length : Nat) : Int) ≤ left then left - ((a.length : Nat) : Int) else -1) := by
  have hl : a.length ≤ 9223372036854775807 := hm.1
  unfold L.szPunctS
  simp only []
  rw [w64 (by omega) (by omega)]
  by_cases h : ((a.length : Nat) : Int) ≤ left
  · rw [cdn (by omega), if_pos h]
  · rw [cdp (by omega), if_neg h]
abbrev TMark : Type := Int × Bool
instance : DecidableEq TMark := (@instDecidableEqProd _ _ (inferInstance : DecidableEq Int) (inferInstance : DecidableEq Bool))
def bMark (x : TMark) : Prop := ((Lit.int .i64 x.1).wf = true ∧ True)
theorem szMarkS_eq (left : Int) (a : List TMark) (h0 : 0 ≤ left) (h1 : left ≤ 1000000000000) (hm : a.length ≤ maxLen ∧ ∀ x ∈ a, bMark x) : L.szMarkS left a = some (if ((a.length : Nat) : Int) ≤ left then left - ((a.length : Nat) : Int) else -1) := by
  have hl : a.length ≤ 9223372036854775807 := hm.1
  unfold L.szMarkS
  simp only []
  rw [w64 (by omega) (by omega)]
  by_cases h : ((a.length : Nat) : Int) ≤ left
  · rw [cdn (by omega), if_pos h]
  · rw [cdp (by omega), if_neg h]
abbrev TMarks : Type := Int × List TMark
instance : DecidableEq TMarks := (@instDecidableEqProd _ _ (inferInstance : DecidableEq Int) (inferInstance : DecidableEq (List TMark)))
def cMarks (x : TMarks) : Nat := (x.2).length
def bMarks (x : TMarks) : Prop := ((Lit.int .i64 x.1).wf = true ∧ (x.2.length ≤ maxLen ∧ ∀ y ∈ x.2, bMark y))
theorem szMarks_eq (x : TMarks) (left : Int) (h0 : 0 ≤ left) (h1 : left ≤ 1000000000000) (hb : bMarks x) : L.szMarks x.1 left x.2 = some (if (cMarks x : Int) ≤ left then left - (cMarks x : Int) else -1) := by
  unfold bMarks at hb
  unfold L.szMarks cMarks
  rw [szMarkS_eq _ x.2 (by omega) (by omega) hb.2, Option.bind_some]
  by_cases h0 : (((x.2).length : Nat) : Int) ≤ left
  · first
      | (rw [if_pos h0, cdn (by omega)]; done)
      | (rw [if_pos h0, cdn (by omega), if_pos (by omega)]; congr 1; omega)
  · first | (rw [if_neg h0, cdp (by omega)]; done) | rw [if_neg h0, cdp (by omega), if_neg (by omega)]
theorem szIntS_eq (left : Int) (a : List Int) (h0 : 0 ≤ left) (h1 : left ≤ 1000000000000) (hm : a.length ≤ maxLen ∧ ∀ x ∈ a, bInt x) : L.szIntS left a = some (if ((a.length : Nat) : Int) ≤ left then left - ((a.length : Nat) : Int) else -1) := by
  have hl : a.length ≤ 9223372036854775807 := hm.1
  unfold L.szIntS
  simp only []
  rw [w64 (by omega) (by omega)]
  by_cases h : ((a.length : Nat) : Int) ≤ left
  · rw [cdn (by omega), if_pos h]
  · rw [cdp (by omega), if_neg h]
abbrev TWide : Type := Int × Int
instance : DecidableEq TWide := (@instDecidableEqProd _ _ (inferInstance : DecidableEq Int) (inferInstance : DecidableEq Int))
abbrev TAgg : Type := Int × (TWide) × Int × Int × List Int
instance : DecidableEq TAgg := (@instDecidableEqProd _ _ (inferInstance : DecidableEq Int) (@instDecidableEqProd _ _ (inferInstance : DecidableEq TWide) (@instDecidableEqProd _ _ (inferInstance : DecidableEq Int) (@instDecidableEqProd _ _ (inferInstance : DecidableEq Int) (inferInstance : DecidableEq (List Int))))))
def cAgg (x : TAgg) : Nat := (x.2.2.2.2).length
def bAgg (x : TAgg) : Prop := ((Lit.int .i64 x.1).wf = true ∧ ((Lit.int .i64 x.2.1.1).wf = true ∧ (Lit.int .u64 x.2.1.2).wf = true) ∧ (Lit.int .i64 x.2.2.1).wf = true ∧ (Lit.int .i64 x.2.2.2.1).wf = true ∧ (x.2.2.2.2.length ≤ maxLen ∧ ∀ y ∈ x.2.2.2.2, bInt y))
theorem szAgg_eq (x : TAgg) (left : Int) (h0 : 0 ≤ left) (h1 : left ≤ 1000000000000) (hb : bAgg x) : L.szAgg x.1 x.2.1.1 x.2.1.2 x.2.2.1 x.2.2.2.1 left x.2.2.2.2 = some (if (cAgg x : Int) ≤ left then left - (cAgg x : Int) else -1) := by
  unfold bAgg at hb
  unfold L.szAgg cAgg
  rw [szIntS_eq _ x.2.2.2.2 (by omega) (by omega) hb.2.2.2.2, Option.bind_some]
  by_cases h0 : (((x.2.2.2.2).length : Nat) : Int) ≤ left
  · first
      | (rw [if_pos h0, cdn (by omega)]; done)
      | (rw [if_pos h0, cdn (by omega), if_pos (by omega)]; congr 1; omega)
  · first | (rw [if_neg h0, cdp (by omega)]; done) | rw [if_neg h0, cdp (by omega), if_neg (by omega)]
abbrev TCell : Type := Int × Int × Int × Int × Int × TAgg
instance : DecidableEq TCell := (@instDecidableEqProd _ _ (inferInstance : DecidableEq Int) (@instDecidableEqProd _ _ (inferInstance : DecidableEq Int) (@instDecidableEqProd _ _ (inferInstance : DecidableEq Int) (@instDecidableEqProd _ _ (inferInstance : DecidableEq Int) (@instDecidableEqProd _ _ (inferInstance : DecidableEq Int) (inferInstance : DecidableEq TAgg))))))
def cCell (x : TCell) : Nat := (x.2.2.2.2.2.2.2.2.2).length
def cCellS (a : List TCell) : Nat := a.length + (a.map cCell).sum
theorem cCellS_mem {a : List TCell} {x : TCell} (h : x ∈ a) : cCell x ≤ cCellS a := by
  have := sum_mem (List.mem_map.2 ⟨x, h, rfl⟩ : cCell x ∈ a.map cCell)
  unfold cCellS; omega
def bCell (x : TCell) : Prop := ((Lit.int .i64 x.1).wf = true ∧ (Lit.int .i64 x.2.1).wf = true ∧ (Lit.int .i64 x.2.2.1).wf = true ∧ (Lit.int .i64 x.2.2.2.1).wf = true ∧ (Lit.int .i64 x.2.2.2.2.1).wf = true ∧ ((Lit.int .i64 x.2.2.2.2.2.1).wf = true ∧ ((Lit.int .i64 x.2.2.2.2.2.2.1.1).wf = true ∧ (Lit.int .u64 x.2.2.2.2.2.2.1.2).wf = true) ∧ (Lit.int .i64 x.2.2.2.2.2.2.2.1).wf = true ∧ (Lit.int .i64 x.2.2.2.2.2.2.2.2.1).wf = true ∧ (x.2.2.2.2.2.2.2.2.2.length ≤ maxLen ∧ ∀ y ∈ x.2.2.2.2.2.2.2.2.2, bInt y)))
theorem szCell_eq (x : TCell) (left : Int) (h0 : 0 ≤ left) (h1 : left ≤ 1000000000000) (hb : bCell x) : L.szCell x.1 x.2.1 x.2.2.1 x.2.2.2.1 x.2.2.2.2.1 x.2.2.2.2.2.1 x.2.2.2.2.2.2.1.1 x.2.2.2.2.2.2.1.2 x.2.2.2.2.2.2.2.1 x.2.2.2.2.2.2.2.2.1 left x.2.2.2.2.2.2.2.2.2 = some (if (cCell x : Int) ≤ left then left - (cCell x : Int) else -1) := by
  unfold bCell at hb
  unfold L.szCell cCell
  rw [szAgg_eq x.2.2.2.2.2 _ (by omega) (by omega) hb.2.2.2.2.2, Option.bind_some]
  unfold cAgg
  by_cases h0 : (((x.2.2.2.2.2.2.2.2.2).length : Nat) : Int) ≤ left
  · first
      | (rw [if_pos h0, cdn (by omega)]; done)
      | (rw [if_pos h0, cdn (by omega), if_pos (by omega)]; congr 1; omega)
  · first | (rw [if_neg h0, cdp (by omega)]; done) | rw [if_neg h0, cdp (by omega), if_neg (by omega)]
theorem szCellS_eq (left : Int) (a : List TCell) (h0 : 0 ≤ left) (h1 : left ≤ 1000000000000) (hm : a.length ≤ maxLen ∧ ∀ x ∈ a, bCell x) : L.szCellS left a = some (if ((cCellS a : Nat) : Int) ≤ left then left - ((cCellS a : Nat) : Int) else -1) := by
  have hl : a.length ≤ 9223372036854775807 := hm.1
  unfold L.szCellS
  simp only []
  rw [w64 (by omega) (by omega)]
  by_cases h : ((a.length : Nat) : Int) ≤ left
  · rw [cdn (by omega)]
    have := szLoop (fun m l i => L.szCellS_l0 m (fun y14 y15 => some y15) (fun y16 => some y16) l i a) a ((0 : Int), ((0 : Int), ((0 : Int), ((0 : Int), ((0 : Int), ((0 : Int), (((0 : Int), (0 : Int)), ((0 : Int), ((0 : Int), []))))))))) cCell (by omega) (fun i m l hi h0 h1 => ?_) (fun m l => ?_) (left - (a.length : Int)) (by omega) (by omega)
    · refine this.trans ?_
      unfold cCellS
      congr 1
      split <;> split <;> omega
    · show L.szCellS_l0 (m + 1) _ _ _ _ _ = _
      rw [L.szCellS_l0, cdp (by omega), cdp (by omega), szCell_eq (nthI a (i : Int) ((0 : Int), ((0 : Int), ((0 : Int), ((0 : Int), ((0 : Int), ((0 : Int), (((0 : Int), (0 : Int)), ((0 : Int), ((0 : Int), [])))))))))) l h0 h1 (hm.2 _ (nthI_mem a i _ hi)), Option.bind_some]
      split
      · rw [cdn (by omega), w64 (by omega) (by omega)]; rfl
      · rw [cdp (by omega)]
    · show L.szCellS_l0 (m + 1) _ _ _ _ _ = _
      rw [L.szCellS_l0, cdn (by omega)]
  · rw [cdp (by omega), if_neg (by unfold cCellS; omega)]
abbrev TPane : Type := Int × Int × Int × Int × Int × Int × List Int × Bool
instance : DecidableEq TPane := (@instDecidableEqProd _ _ (inferInstance : DecidableEq Int) (@instDecidableEqProd _ _ (inferInstance : DecidableEq Int) (@instDecidableEqProd _ _ (inferInstance : DecidableEq Int) (@instDecidableEqProd _ _ (inferInstance : DecidableEq Int) (@instDecidableEqProd _ _ (inferInstance : DecidableEq Int) (@instDecidableEqProd _ _ (inferInstance : DecidableEq Int) (@instDecidableEqProd _ _ (inferInstance : DecidableEq (List Int)) (inferInstance : DecidableEq Bool))))))))
def cPane (x : TPane) : Nat := (x.2.2.2.2.2.2.1).length
def bPane (x : TPane) : Prop := ((Lit.int .i64 x.1).wf = true ∧ (Lit.int .i64 x.2.1).wf = true ∧ (Lit.int .i64 x.2.2.1).wf = true ∧ (Lit.int .i64 x.2.2.2.1).wf = true ∧ (Lit.int .i64 x.2.2.2.2.1).wf = true ∧ (Lit.int .i64 x.2.2.2.2.2.1).wf = true ∧ (x.2.2.2.2.2.2.1.length ≤ maxLen ∧ ∀ y ∈ x.2.2.2.2.2.2.1, bInt y) ∧ True)
theorem szPane_eq (x : TPane) (left : Int) (h0 : 0 ≤ left) (h1 : left ≤ 1000000000000) (hb : bPane x) : L.szPane x.1 x.2.1 x.2.2.1 x.2.2.2.1 x.2.2.2.2.1 x.2.2.2.2.2.1 x.2.2.2.2.2.2.2 left x.2.2.2.2.2.2.1 = some (if (cPane x : Int) ≤ left then left - (cPane x : Int) else -1) := by
  unfold bPane at hb
  unfold L.szPane cPane
  rw [szIntS_eq _ x.2.2.2.2.2.2.1 (by omega) (by omega) hb.2.2.2.2.2.2.1, Option.bind_some]
  by_cases h0 : (((x.2.2.2.2.2.2.1).length : Nat) : Int) ≤ left
  · first
      | (rw [if_pos h0, cdn (by omega)]; done)
      | (rw [if_pos h0, cdn (by omega), if_pos (by omega)]; congr 1; omega)
  · first | (rw [if_neg h0, cdp (by omega)]; done) | rw [if_neg h0, cdp (by omega), if_neg (by omega)]
abbrev TItem : Type := Int × Int × TPane
instance : DecidableEq TItem := (@instDecidableEqProd _ _ (inferInstance : DecidableEq Int) (@instDecidableEqProd _ _ (inferInstance : DecidableEq Int) (inferInstance : DecidableEq TPane)))
def cItem (x : TItem) : Nat := (x.2.2.2.2.2.2.2.2.1).length
def cItemS (a : List TItem) : Nat := a.length + (a.map cItem).sum
theorem cItemS_mem {a : List TItem} {x : TItem} (h : x ∈ a) : cItem x ≤ cItemS a := by
  have := sum_mem (List.mem_map.2 ⟨x, h, rfl⟩ : cItem x ∈ a.map cItem)
  unfold cItemS; omega
def bItem (x : TItem) : Prop := ((Lit.int .i64 x.1).wf = true ∧ (Lit.int .i64 x.2.1).wf = true ∧ ((Lit.int .i64 x.2.2.1).wf = true ∧ (Lit.int .i64 x.2.2.2.1).wf = true ∧ (Lit.int .i64 x.2.2.2.2.1).wf = true ∧ (Lit.int .i64 x.2.2.2.2.2.1).wf = true ∧ (Lit.int .i64 x.2.2.2.2.2.2.1).wf = true ∧ (Lit.int .i64 x.2.2.2.2.2.2.2.1).wf = true ∧ (x.2.2.2.2.2.2.2.2.1.length ≤ maxLen ∧ ∀ y ∈ x.2.2.2.2.2.2.2.2.1, bInt y) ∧ True))
theorem szItem_eq (x : TItem) (left : Int) (h0 : 0 ≤ left) (h1 : left ≤ 1000000000000) (hb : bItem x) : L.szItem x.1 x.2.1 x.2.2.1 x.2.2.2.1 x.2.2.2.2.1 x.2.2.2.2.2.1 x.2.2.2.2.2.2.1 x.2.2.2.2.2.2.2.1 x.2.2.2.2.2.2.2.2.2 left x.2.2.2.2.2.2.2.2.1 = some (if (cItem x : Int) ≤ left then left - (cItem x : Int) else -1) := by
  unfold bItem at hb
  unfold L.szItem cItem
  rw [szPane_eq x.2.2 _ (by omega) (by omega) hb.2.2, Option.bind_some]
  unfold cPane
  by_cases h0 : (((x.2.2.2.2.2.2.2.2.1).length : Nat) : Int) ≤ left
  · first
      | (rw [if_pos h0, cdn (by omega)]; done)
      | (rw [if_pos h0, cdn (by omega), if_pos (by omega)]; congr 1; omega)
  · first | (rw [if_neg h0, cdp (by omega)]; done) | rw [if_neg h0, cdp (by omega), if_neg (by omega)]
theorem szItemS_eq (left : Int) (a : List TItem) (h0 : 0 ≤ left) (h1 : left ≤ 1000000000000) (hm : a.length ≤ maxLen ∧ ∀ x ∈ a, bItem x) : L.szItemS left a = some (if ((cItemS a : Nat) : Int) ≤ left then left - ((cItemS a : Nat) : Int) else -1) := by
  have hl : a.length ≤ 9223372036854775807 := hm.1
  unfold L.szItemS
  simp only []
  rw [w64 (by omega) (by omega)]
  by_cases h : ((a.length : Nat) : Int) ≤ left
  · rw [cdn (by omega)]
    have := szLoop (fun m l i => L.szItemS_l0 m (fun y14 y15 => some y15) (fun y16 => some y16) l i a) a ((0 : Int), ((0 : Int), ((0 : Int), ((0 : Int), ((0 : Int), ((0 : Int), ((0 : Int), ((0 : Int), ([], false))))))))) cItem (by omega) (fun i m l hi h0 h1 => ?_) (fun m l => ?_) (left - (a.length : Int)) (by omega) (by omega)
    · refine this.trans ?_
      unfold cItemS
      congr 1
      split <;> split <;> omega
    · show L.szItemS_l0 (m + 1) _ _ _ _ _ = _
      rw [L.szItemS_l0, cdp (by omega), cdp (by omega), szItem_eq (nthI a (i : Int) ((0 : Int), ((0 : Int), ((0 : Int), ((0 : Int), ((0 : Int), ((0 : Int), ((0 : Int), ((0 : Int), ([], false)))))))))) l h0 h1 (hm.2 _ (nthI_mem a i _ hi)), Option.bind_some]
      split
      · rw [cdn (by omega), w64 (by omega) (by omega)]; rfl
      · rw [cdp (by omega)]
    · show L.szItemS_l0 (m + 1) _ _ _ _ _ = _
      rw [L.szItemS_l0, cdn (by omega)]
  · rw [cdp (by omega), if_neg (by unfold cItemS; omega)]
abbrev TRec : Type := Int × Int × Int
instance : DecidableEq TRec := (@instDecidableEqProd _ _ (inferInstance : DecidableEq Int) (@instDecidableEqProd _ _ (inferInstance : DecidableEq Int) (inferInstance : DecidableEq Int)))
def bRec (x : TRec) : Prop := ((Lit.int .i64 x.1).wf = true ∧ (Lit.int .i64 x.2.1).wf = true ∧ (Lit.int .i64 x.2.2).wf = true)
theorem szRecS_eq (left : Int) (a : List TRec) (h0 : 0 ≤ left) (h1 : left ≤ 1000000000000) (hm : a.length ≤ maxLen ∧ ∀ x ∈ a, bRec x) : L.szRecS left a = some (if ((a.length : Nat) : Int) ≤ left then left - ((a.length : Nat) : Int) else -1) := by
  have hl : a.length ≤ 9223372036854775807 := hm.1
  unfold L.szRecS
  simp only []
  rw [w64 (by omega) (by omega)]
  by_cases h : ((a.length : Nat) : Int) ≤ left
  · rw [cdn (by omega), if_pos h]
  · rw [cdp (by omega), if_neg h]
abbrev TBox : Type := Int × Int × Int × Int × List TItem × List TRec
instance : DecidableEq TBox := (@instDecidableEqProd _ _ (inferInstance : DecidableEq Int) (@instDecidableEqProd _ _ (inferInstance : DecidableEq Int) (@instDecidableEqProd _ _ (inferInstance : DecidableEq Int) (@instDecidableEqProd _ _ (inferInstance : DecidableEq Int) (@instDecidableEqProd _ _ (inferInstance : DecidableEq (List TItem)) (inferInstance : DecidableEq (List TRec)))))))
def cBox (x : TBox) : Nat := cItemS x.2.2.2.2.1 + (x.2.2.2.2.2).length
def cBoxS (a : List TBox) : Nat := a.length + (a.map cBox).sum
theorem cBoxS_mem {a : List TBox} {x : TBox} (h : x ∈ a) : cBox x ≤ cBoxS a := by
  have := sum_mem (List.mem_map.2 ⟨x, h, rfl⟩ : cBox x ∈ a.map cBox)
  unfold cBoxS; omega
def bBox (x : TBox) : Prop := ((Lit.int .i64 x.1).wf = true ∧ (Lit.int .i64 x.2.1).wf = true ∧ (Lit.int .i64 x.2.2.1).wf = true ∧ (Lit.int .i64 x.2.2.2.1).wf = true ∧ (x.2.2.2.2.1.length ≤ maxLen ∧ ∀ y ∈ x.2.2.2.2.1, bItem y) ∧ (x.2.2.2.2.2.length ≤ maxLen ∧ ∀ y ∈ x.2.2.2.2.2, bRec y))
theorem szBox_eq (x : TBox) (left : Int) (h0 : 0 ≤ left) (h1 : left ≤ 1000000000000) (hb : bBox x) : L.szBox x.1 x.2.1 x.2.2.1 x.2.2.2.1 left x.2.2.2.2.1 x.2.2.2.2.2 = some (if (cBox x : Int) ≤ left then left - (cBox x : Int) else -1) := by
  unfold bBox at hb
  unfold L.szBox cBox
  rw [szItemS_eq _ x.2.2.2.2.1 (by omega) (by omega) hb.2.2.2.2.1, Option.bind_some]
  by_cases h0 : ((cItemS x.2.2.2.2.1 : Nat) : Int) ≤ left
  · rw [if_pos h0, cdn (by omega)]
    rw [szRecS_eq _ x.2.2.2.2.2 (by omega) (by omega) hb.2.2.2.2.2, Option.bind_some]
    by_cases h1 : (((x.2.2.2.2.2).length : Nat) : Int) ≤ left - ((cItemS x.2.2.2.2.1 : Nat) : Int)
    · first
        | (rw [if_pos h1, cdn (by omega)]; done)
        | (rw [if_pos h1, cdn (by omega), if_pos (by omega)]; congr 1; omega)
    · first | (rw [if_neg h1, cdp (by omega)]; done) | rw [if_neg h1, cdp (by omega), if_neg (by omega)]
  · first | (rw [if_neg h0, cdp (by omega)]; done) | rw [if_neg h0, cdp (by omega), if_neg (by omega)]
theorem szBoxS_eq (left : Int) (a : List TBox) (h0 : 0 ≤ left) (h1 : left ≤ 1000000000000) (hm : a.length ≤ maxLen ∧ ∀ x ∈ a, bBox x) : L.szBoxS left a = some (if ((cBoxS a : Nat) : Int) ≤ left then left - ((cBoxS a : Nat) : Int) else -1) := by
  have hl : a.length ≤ 9223372036854775807 := hm.1
  unfold L.szBoxS
  simp only []
  rw [w64 (by omega) (by omega)]
  by_cases h : ((a.length : Nat) : Int) ≤ left
  · rw [cdn (by omega)]
    have := szLoop (fun m l i => L.szBoxS_l0 m (fun y14 y15 => some y15) (fun y16 => some y16) l i a) a ((0 : Int), ((0 : Int), ((0 : Int), ((0 : Int), ([], []))))) cBox (by omega) (fun i m l hi h0 h1 => ?_) (fun m l => ?_) (left - (a.length : Int)) (by omega) (by omega)
    · refine this.trans ?_
      unfold cBoxS
      congr 1
      split <;> split <;> omega
    · show L.szBoxS_l0 (m + 1) _ _ _ _ _ = _
      rw [L.szBoxS_l0, cdp (by omega), cdp (by omega), szBox_eq (nthI a (i : Int) ((0 : Int), ((0 : Int), ((0 : Int), ((0 : Int), ([], [])))))) l h0 h1 (hm.2 _ (nthI_mem a i _ hi)), Option.bind_some]
      split
      · rw [cdn (by omega), w64 (by omega) (by omega)]; rfl
      · rw [cdp (by omega)]
    · show L.szBoxS_l0 (m + 1) _ _ _ _ _ = _
      rw [L.szBoxS_l0, cdn (by omega)]
  · rw [cdp (by omega), if_neg (by unfold cBoxS; omega)]
abbrev TEng : Type := (TConf) × List TPunct × (TMarks) × List TCell × List Int × List Int × List TBox
instance : DecidableEq TEng := (@instDecidableEqProd _ _ (inferInstance : DecidableEq TConf) (@instDecidableEqProd _ _ (inferInstance : DecidableEq (List TPunct)) (@instDecidableEqProd _ _ (inferInstance : DecidableEq TMarks) (@instDecidableEqProd _ _ (inferInstance : DecidableEq (List TCell)) (@instDecidableEqProd _ _ (inferInstance : DecidableEq (List Int)) (@instDecidableEqProd _ _ (inferInstance : DecidableEq (List Int)) (inferInstance : DecidableEq (List TBox))))))))
def cEng (x : TEng) : Nat := (x.1.1.2).length + cQueryS x.1.2.2.2.1 + (x.1.2.2.2.2.1).length + (x.1.2.2.2.2.2).length + (x.2.1).length + (x.2.2.1.2).length + cCellS x.2.2.2.1 + (x.2.2.2.2.1).length + (x.2.2.2.2.2.1).length + cBoxS x.2.2.2.2.2.2
def bEng (x : TEng) : Prop := ((((Lit.int .i64 x.1.1.1).wf = true ∧ (x.1.1.2.length ≤ maxLen ∧ ∀ y ∈ x.1.1.2, bUint64 y)) ∧ (Lit.int .i64 x.1.2.1).wf = true ∧ (Lit.int .i64 x.1.2.2.1).wf = true ∧ (x.1.2.2.2.1.length ≤ maxLen ∧ ∀ y ∈ x.1.2.2.2.1, bQuery y) ∧ (x.1.2.2.2.2.1.length ≤ maxLen ∧ ∀ y ∈ x.1.2.2.2.2.1, bSub y) ∧ (x.1.2.2.2.2.2.length ≤ maxLen ∧ ∀ y ∈ x.1.2.2.2.2.2, bRule y)) ∧ (x.2.1.length ≤ maxLen ∧ ∀ y ∈ x.2.1, bPunct y) ∧ ((Lit.int .i64 x.2.2.1.1).wf = true ∧ (x.2.2.1.2.length ≤ maxLen ∧ ∀ y ∈ x.2.2.1.2, bMark y)) ∧ (x.2.2.2.1.length ≤ maxLen ∧ ∀ y ∈ x.2.2.2.1, bCell y) ∧ (x.2.2.2.2.1.length ≤ maxLen ∧ ∀ y ∈ x.2.2.2.2.1, bInt y) ∧ (x.2.2.2.2.2.1.length ≤ maxLen ∧ ∀ y ∈ x.2.2.2.2.2.1, bInt y) ∧ (x.2.2.2.2.2.2.length ≤ maxLen ∧ ∀ y ∈ x.2.2.2.2.2.2, bBox y))
theorem szEng_eq (x : TEng) (left : Int) (h0 : 0 ≤ left) (h1 : left ≤ 1000000000000) (hb : bEng x) : L.szEng x.1.1.1 x.1.2.1 x.1.2.2.1 x.2.2.1.1 left x.1.1.2 x.1.2.2.2.1 x.1.2.2.2.2.1 x.1.2.2.2.2.2 x.2.1 x.2.2.1.2 x.2.2.2.1 x.2.2.2.2.1 x.2.2.2.2.2.1 x.2.2.2.2.2.2 = some (if (cEng x : Int) ≤ left then left - (cEng x : Int) else -1) := by
  unfold bEng at hb
  unfold L.szEng cEng
  rw [szConf_eq x.1 _ (by omega) (by omega) hb.1, Option.bind_some]
  unfold cConf
  by_cases h0 : (((x.1.1.2).length + cQueryS x.1.2.2.2.1 + (x.1.2.2.2.2.1).length + (x.1.2.2.2.2.2).length : Nat) : Int) ≤ left
  · rw [if_pos h0, cdn (by omega)]
    rw [szPunctS_eq _ x.2.1 (by omega) (by omega) hb.2.1, Option.bind_some]
    by_cases h1 : (((x.2.1).length : Nat) : Int) ≤ left - (((x.1.1.2).length + cQueryS x.1.2.2.2.1 + (x.1.2.2.2.2.1).length + (x.1.2.2.2.2.2).length : Nat) : Int)
    · rw [if_pos h1, cdn (by omega)]
      rw [szMarks_eq x.2.2.1 _ (by omega) (by omega) hb.2.2.1, Option.bind_some]
      unfold cMarks
      by_cases h2 : (((x.2.2.1.2).length : Nat) : Int) ≤ left - (((x.1.1.2).length + cQueryS x.1.2.2.2.1 + (x.1.2.2.2.2.1).length + (x.1.2.2.2.2.2).length : Nat) : Int) - (((x.2.1).length : Nat) : Int)
      · rw [if_pos h2, cdn (by omega)]
        rw [szCellS_eq _ x.2.2.2.1 (by omega) (by omega) hb.2.2.2.1, Option.bind_some]
        by_cases h3 : ((cCellS x.2.2.2.1 : Nat) : Int) ≤ left - (((x.1.1.2).length + cQueryS x.1.2.2.2.1 + (x.1.2.2.2.2.1).length + (x.1.2.2.2.2.2).length : Nat) : Int) - (((x.2.1).length : Nat) : Int) - (((x.2.2.1.2).length : Nat) : Int)
        · rw [if_pos h3, cdn (by omega)]
          rw [szIntS_eq _ x.2.2.2.2.1 (by omega) (by omega) hb.2.2.2.2.1, Option.bind_some]
          by_cases h4 : (((x.2.2.2.2.1).length : Nat) : Int) ≤ left - (((x.1.1.2).length + cQueryS x.1.2.2.2.1 + (x.1.2.2.2.2.1).length + (x.1.2.2.2.2.2).length : Nat) : Int) - (((x.2.1).length : Nat) : Int) - (((x.2.2.1.2).length : Nat) : Int) - ((cCellS x.2.2.2.1 : Nat) : Int)
          · rw [if_pos h4, cdn (by omega)]
            rw [szIntS_eq _ x.2.2.2.2.2.1 (by omega) (by omega) hb.2.2.2.2.2.1, Option.bind_some]
            by_cases h5 : (((x.2.2.2.2.2.1).length : Nat) : Int) ≤ left - (((x.1.1.2).length + cQueryS x.1.2.2.2.1 + (x.1.2.2.2.2.1).length + (x.1.2.2.2.2.2).length : Nat) : Int) - (((x.2.1).length : Nat) : Int) - (((x.2.2.1.2).length : Nat) : Int) - ((cCellS x.2.2.2.1 : Nat) : Int) - (((x.2.2.2.2.1).length : Nat) : Int)
            · rw [if_pos h5, cdn (by omega)]
              rw [szBoxS_eq _ x.2.2.2.2.2.2 (by omega) (by omega) hb.2.2.2.2.2.2, Option.bind_some]
              by_cases h6 : ((cBoxS x.2.2.2.2.2.2 : Nat) : Int) ≤ left - (((x.1.1.2).length + cQueryS x.1.2.2.2.1 + (x.1.2.2.2.2.1).length + (x.1.2.2.2.2.2).length : Nat) : Int) - (((x.2.1).length : Nat) : Int) - (((x.2.2.1.2).length : Nat) : Int) - ((cCellS x.2.2.2.1 : Nat) : Int) - (((x.2.2.2.2.1).length : Nat) : Int) - (((x.2.2.2.2.2.1).length : Nat) : Int)
              · first
                  | (rw [if_pos h6, cdn (by omega)]; done)
                  | (rw [if_pos h6, cdn (by omega), if_pos (by omega)]; congr 1; omega)
              · first | (rw [if_neg h6, cdp (by omega)]; done) | rw [if_neg h6, cdp (by omega), if_neg (by omega)]
            · first | (rw [if_neg h5, cdp (by omega)]; done) | rw [if_neg h5, cdp (by omega), if_neg (by omega)]
          · first | (rw [if_neg h4, cdp (by omega)]; done) | rw [if_neg h4, cdp (by omega), if_neg (by omega)]
        · first | (rw [if_neg h3, cdp (by omega)]; done) | rw [if_neg h3, cdp (by omega), if_neg (by omega)]
      · first | (rw [if_neg h2, cdp (by omega)]; done) | rw [if_neg h2, cdp (by omega), if_neg (by omega)]
    · first | (rw [if_neg h1, cdp (by omega)]; done) | rw [if_neg h1, cdp (by omega), if_neg (by omega)]
  · first | (rw [if_neg h0, cdp (by omega)]; done) | rw [if_neg h0, cdp (by omega), if_neg (by omega)]
theorem toUint64S_eq (a : List Int) (hc : a.length ≤ 1000000000000) : L.toUint64S a = some a := by
  have hn := hc
  unfold L.toUint64S
  simp only []
  rw [cdp (by omega)]
  refine toLoop (fun m i xs => L.toUint64S_l0 m (fun y => some y) i a xs) a (0 : Int) hn (fun i m xs hi hx => ?_) (fun m xs => ?_) _ (by simp)
  · show L.toUint64S_l0 (m + 1) _ _ _ _ = L.toUint64S_l0 m _ _ _ _
    rw [L.toUint64S_l0, cdp (by omega), cdp (by omega), cdp (by omega), w64 (by omega) (by omega)]
    rfl
  · show L.toUint64S_l0 (m + 1) _ _ _ _ = _
    rw [L.toUint64S_l0, cdn (by omega)]
theorem toLat_eq (x : TLat) (hc : cLat x ≤ 1000000000000) : L.toLat x.1 x.2 = some (x.1, x.2) := by
  unfold L.toLat
  unfold cLat at hc
  simp only [toUint64S_eq x.2 (by omega), Option.bind_some]
theorem toTok_eq (x : TTok) : L.toTok x.1 x.2 = some (x.1, x.2) := by
  rfl
theorem toTokS_eq (a : List TTok) (hc : a.length ≤ 1000000000000) : L.toTokS a = some a := by
  have hn := hc
  unfold L.toTokS
  simp only []
  rw [cdp (by omega)]
  refine toLoop (fun m i xs => L.toTokS_l0 m (fun y => some y) i a xs) a ((0 : Int), (0 : Int)) hn (fun i m xs hi hx => ?_) (fun m xs => ?_) _ (by simp)
  · show L.toTokS_l0 (m + 1) _ _ _ _ = L.toTokS_l0 m _ _ _ _
    rw [L.toTokS_l0, cdp (by omega), cdp (by omega), toTok_eq (nthI a (i : Int) ((0 : Int), (0 : Int))), Option.bind_some, cdp (by omega), w64 (by omega) (by omega)]
    rfl
  · show L.toTokS_l0 (m + 1) _ _ _ _ = _
    rw [L.toTokS_l0, cdn (by omega)]
theorem toWinDef_eq (x : TWinDef) : L.toWinDef x.1 x.2.1 x.2.2 = some (x.1, x.2.1, x.2.2) := by
  rfl
theorem toQuery_eq (x : TQuery) (hc : cQuery x ≤ 1000000000000) : L.toQuery x.2.2.1.1 x.2.2.1.2.1 x.2.2.1.2.2 x.2.2.2.1 x.2.2.2.2 x.1 x.2.1 = some (x.2.2.1.1, x.2.2.1.2.1, x.2.2.1.2.2, x.2.2.2.1, x.2.2.2.2, x.1, x.2.1) := by
  unfold L.toQuery
  unfold cQuery at hc
  simp only [toTokS_eq x.1 (by omega), toTokS_eq x.2.1 (by omega), toWinDef_eq x.2.2.1, Option.bind_some]
theorem toQueryS_eq (a : List TQuery) (hc : cQueryS a ≤ 1000000000000) : L.toQueryS a = some a := by
  have hn : a.length ≤ 1000000000000 := by unfold cQueryS at hc; omega
  unfold L.toQueryS
  simp only []
  rw [cdp (by omega)]
  refine toLoop (fun m i xs => L.toQueryS_l0 m (fun y => some y) i a xs) a ([], ([], (((0 : Int), ((0 : Int), (0 : Int))), ((0 : Int), (0 : Int))))) hn (fun i m xs hi hx => ?_) (fun m xs => ?_) _ (by simp)
  · show L.toQueryS_l0 (m + 1) _ _ _ _ = L.toQueryS_l0 m _ _ _ _
    rw [L.toQueryS_l0, cdp (by omega), cdp (by omega), toQuery_eq (nthI a (i : Int) ([], ([], (((0 : Int), ((0 : Int), (0 : Int))), ((0 : Int), (0 : Int)))))) (Nat.le_trans (cQueryS_mem (nthI_mem a i _ hi)) hc), Option.bind_some, cdp (by omega), w64 (by omega) (by omega)]
    rfl
  · show L.toQueryS_l0 (m + 1) _ _ _ _ = _
    rw [L.toQueryS_l0, cdn (by omega)]
theorem toSub_eq (x : TSub) : L.toSub x.1 x.2.1 x.2.2 = some (x.1, x.2.1, x.2.2) := by
  rfl
theorem toSubS_eq (a : List TSub) (hc : a.length ≤ 1000000000000) : L.toSubS a = some a := by
  have hn := hc
  unfold L.toSubS
  simp only []
  rw [cdp (by omega)]
  refine toLoop (fun m i xs => L.toSubS_l0 m (fun y => some y) i a xs) a ((0 : Int), ((0 : Int), (0 : Int))) hn (fun i m xs hi hx => ?_) (fun m xs => ?_) _ (by simp)
  · show L.toSubS_l0 (m + 1) _ _ _ _ = L.toSubS_l0 m _ _ _ _
    rw [L.toSubS_l0, cdp (by omega), cdp (by omega), toSub_eq (nthI a (i : Int) ((0 : Int), ((0 : Int), (0 : Int)))), Option.bind_some, cdp (by omega), w64 (by omega) (by omega)]
    rfl
  · show L.toSubS_l0 (m + 1) _ _ _ _ = _
    rw [L.toSubS_l0, cdn (by omega)]
theorem toRule_eq (x : TRule) : L.toRule x.1 x.2.1 x.2.2.1 x.2.2.2.1 x.2.2.2.2 = some (x.1, x.2.1, x.2.2.1, x.2.2.2.1, x.2.2.2.2) := by
  rfl
theorem toRuleS_eq (a : List TRule) (hc : a.length ≤ 1000000000000) : L.toRuleS a = some a := by
  have hn := hc
  unfold L.toRuleS
  simp only []
  rw [cdp (by omega)]
  refine toLoop (fun m i xs => L.toRuleS_l0 m (fun y => some y) i a xs) a ((0 : Int), ((0 : Int), ((0 : Int), ((0 : Int), (0 : Int))))) hn (fun i m xs hi hx => ?_) (fun m xs => ?_) _ (by simp)
  · show L.toRuleS_l0 (m + 1) _ _ _ _ = L.toRuleS_l0 m _ _ _ _
    rw [L.toRuleS_l0, cdp (by omega), cdp (by omega), toRule_eq (nthI a (i : Int) ((0 : Int), ((0 : Int), ((0 : Int), ((0 : Int), (0 : Int)))))), Option.bind_some, cdp (by omega), w64 (by omega) (by omega)]
    rfl
  · show L.toRuleS_l0 (m + 1) _ _ _ _ = _
    rw [L.toRuleS_l0, cdn (by omega)]
theorem toConf_eq (x : TConf) (hc : cConf x ≤ 1000000000000) : L.toConf x.1.1 x.2.1 x.2.2.1 x.1.2 x.2.2.2.1 x.2.2.2.2.1 x.2.2.2.2.2 = some (x.1.1, x.2.1, x.2.2.1, x.1.2, x.2.2.2.1, x.2.2.2.2.1, x.2.2.2.2.2) := by
  unfold L.toConf
  unfold cConf at hc
  simp only [toLat_eq x.1 (by unfold cLat; omega), toQueryS_eq x.2.2.2.1 (by omega), toSubS_eq x.2.2.2.2.1 (by omega), toRuleS_eq x.2.2.2.2.2 (by omega), Option.bind_some]
theorem toPunct_eq (x : TPunct) : L.toPunct x.1 x.2.1 x.2.2.1 x.2.2.2 = some (x.1, x.2.1, x.2.2.1, x.2.2.2) := by
  rfl
theorem toPunctS_eq (a : List TPunct) (hc : a.length ≤ 1000000000000) : L.toPunctS a = some a := by
  have hn := hc
  unfold L.toPunctS
  simp only []
  rw [cdp (by omega)]
  refine toLoop (fun m i xs => L.toPunctS_l0 m (fun y => some y) i a xs) a ((0 : Int), ((0 : Int), ((0 : Int), (0 : Int)))) hn (fun i m xs hi hx => ?_) (fun m xs => ?_) _ (by simp)
  · show L.toPunctS_l0 (m + 1) _ _ _ _ = L.toPunctS_l0 m _ _ _ _
    rw [L.toPunctS_l0, cdp (by omega), cdp (by omega), toPunct_eq (nthI a (i : Int) ((0 : Int), ((0 : Int), ((0 : Int), (0 : Int))))), Option.bind_some, cdp (by omega), w64 (by omega) (by omega)]
    rfl
  · show L.toPunctS_l0 (m + 1) _ _ _ _ = _
    rw [L.toPunctS_l0, cdn (by omega)]
theorem toMark_eq (x : TMark) : L.toMark x.1 x.2 = some (x.1, x.2) := by
  rfl
theorem toMarkS_eq (a : List TMark) (hc : a.length ≤ 1000000000000) : L.toMarkS a = some a := by
  have hn := hc
  unfold L.toMarkS
  simp only []
  rw [cdp (by omega)]
  refine toLoop (fun m i xs => L.toMarkS_l0 m (fun y => some y) i a xs) a ((0 : Int), false) hn (fun i m xs hi hx => ?_) (fun m xs => ?_) _ (by simp)
  · show L.toMarkS_l0 (m + 1) _ _ _ _ = L.toMarkS_l0 m _ _ _ _
    rw [L.toMarkS_l0, cdp (by omega), cdp (by omega), toMark_eq (nthI a (i : Int) ((0 : Int), false)), Option.bind_some, cdp (by omega), w64 (by omega) (by omega)]
    rfl
  · show L.toMarkS_l0 (m + 1) _ _ _ _ = _
    rw [L.toMarkS_l0, cdn (by omega)]
theorem toMarks_eq (x : TMarks) (hc : cMarks x ≤ 1000000000000) : L.toMarks x.1 x.2 = some (x.1, x.2) := by
  unfold L.toMarks
  unfold cMarks at hc
  simp only [toMarkS_eq x.2 (by omega), Option.bind_some]
theorem toWide_eq (x : TWide) : L.toWide x.1 x.2 = some (x.1, x.2) := by
  rfl
theorem toIntS_eq (a : List Int) (hc : a.length ≤ 1000000000000) : L.toIntS a = some a := by
  have hn := hc
  unfold L.toIntS
  simp only []
  rw [cdp (by omega)]
  refine toLoop (fun m i xs => L.toIntS_l0 m (fun y => some y) i a xs) a (0 : Int) hn (fun i m xs hi hx => ?_) (fun m xs => ?_) _ (by simp)
  · show L.toIntS_l0 (m + 1) _ _ _ _ = L.toIntS_l0 m _ _ _ _
    rw [L.toIntS_l0, cdp (by omega), cdp (by omega), cdp (by omega), w64 (by omega) (by omega)]
    rfl
  · show L.toIntS_l0 (m + 1) _ _ _ _ = _
    rw [L.toIntS_l0, cdn (by omega)]
theorem toAgg_eq (x : TAgg) (hc : cAgg x ≤ 1000000000000) : L.toAgg x.1 x.2.1.1 x.2.1.2 x.2.2.1 x.2.2.2.1 x.2.2.2.2 = some (x.1, x.2.1.1, x.2.1.2, x.2.2.1, x.2.2.2.1, x.2.2.2.2) := by
  unfold L.toAgg
  unfold cAgg at hc
  simp only [toWide_eq x.2.1, toIntS_eq x.2.2.2.2 (by omega), Option.bind_some]
theorem toCell_eq (x : TCell) (hc : cCell x ≤ 1000000000000) : L.toCell x.1 x.2.1 x.2.2.1 x.2.2.2.1 x.2.2.2.2.1 x.2.2.2.2.2.1 x.2.2.2.2.2.2.1.1 x.2.2.2.2.2.2.1.2 x.2.2.2.2.2.2.2.1 x.2.2.2.2.2.2.2.2.1 x.2.2.2.2.2.2.2.2.2 = some (x.1, x.2.1, x.2.2.1, x.2.2.2.1, x.2.2.2.2.1, x.2.2.2.2.2.1, x.2.2.2.2.2.2.1.1, x.2.2.2.2.2.2.1.2, x.2.2.2.2.2.2.2.1, x.2.2.2.2.2.2.2.2.1, x.2.2.2.2.2.2.2.2.2) := by
  unfold L.toCell
  unfold cCell at hc
  simp only [toAgg_eq x.2.2.2.2.2 (by unfold cAgg; omega), Option.bind_some]
theorem toCellS_eq (a : List TCell) (hc : cCellS a ≤ 1000000000000) : L.toCellS a = some a := by
  have hn : a.length ≤ 1000000000000 := by unfold cCellS at hc; omega
  unfold L.toCellS
  simp only []
  rw [cdp (by omega)]
  refine toLoop (fun m i xs => L.toCellS_l0 m (fun y => some y) i a xs) a ((0 : Int), ((0 : Int), ((0 : Int), ((0 : Int), ((0 : Int), ((0 : Int), (((0 : Int), (0 : Int)), ((0 : Int), ((0 : Int), []))))))))) hn (fun i m xs hi hx => ?_) (fun m xs => ?_) _ (by simp)
  · show L.toCellS_l0 (m + 1) _ _ _ _ = L.toCellS_l0 m _ _ _ _
    rw [L.toCellS_l0, cdp (by omega), cdp (by omega), toCell_eq (nthI a (i : Int) ((0 : Int), ((0 : Int), ((0 : Int), ((0 : Int), ((0 : Int), ((0 : Int), (((0 : Int), (0 : Int)), ((0 : Int), ((0 : Int), [])))))))))) (Nat.le_trans (cCellS_mem (nthI_mem a i _ hi)) hc), Option.bind_some, cdp (by omega), w64 (by omega) (by omega)]
    rfl
  · show L.toCellS_l0 (m + 1) _ _ _ _ = _
    rw [L.toCellS_l0, cdn (by omega)]
theorem toPane_eq (x : TPane) (hc : cPane x ≤ 1000000000000) : L.toPane x.1 x.2.1 x.2.2.1 x.2.2.2.1 x.2.2.2.2.1 x.2.2.2.2.2.1 x.2.2.2.2.2.2.2 x.2.2.2.2.2.2.1 = some (x.1, x.2.1, x.2.2.1, x.2.2.2.1, x.2.2.2.2.1, x.2.2.2.2.2.1, x.2.2.2.2.2.2.2, x.2.2.2.2.2.2.1) := by
  unfold L.toPane
  unfold cPane at hc
  simp only [toIntS_eq x.2.2.2.2.2.2.1 (by omega), Option.bind_some]
theorem toItem_eq (x : TItem) (hc : cItem x ≤ 1000000000000) : L.toItem x.1 x.2.1 x.2.2.1 x.2.2.2.1 x.2.2.2.2.1 x.2.2.2.2.2.1 x.2.2.2.2.2.2.1 x.2.2.2.2.2.2.2.1 x.2.2.2.2.2.2.2.2.2 x.2.2.2.2.2.2.2.2.1 = some (x.1, x.2.1, x.2.2.1, x.2.2.2.1, x.2.2.2.2.1, x.2.2.2.2.2.1, x.2.2.2.2.2.2.1, x.2.2.2.2.2.2.2.1, x.2.2.2.2.2.2.2.2.2, x.2.2.2.2.2.2.2.2.1) := by
  unfold L.toItem
  unfold cItem at hc
  simp only [toPane_eq x.2.2 (by unfold cPane; omega), Option.bind_some]
theorem toItemS_eq (a : List TItem) (hc : cItemS a ≤ 1000000000000) : L.toItemS a = some a := by
  have hn : a.length ≤ 1000000000000 := by unfold cItemS at hc; omega
  unfold L.toItemS
  simp only []
  rw [cdp (by omega)]
  refine toLoop (fun m i xs => L.toItemS_l0 m (fun y => some y) i a xs) a ((0 : Int), ((0 : Int), ((0 : Int), ((0 : Int), ((0 : Int), ((0 : Int), ((0 : Int), ((0 : Int), ([], false))))))))) hn (fun i m xs hi hx => ?_) (fun m xs => ?_) _ (by simp)
  · show L.toItemS_l0 (m + 1) _ _ _ _ = L.toItemS_l0 m _ _ _ _
    rw [L.toItemS_l0, cdp (by omega), cdp (by omega), toItem_eq (nthI a (i : Int) ((0 : Int), ((0 : Int), ((0 : Int), ((0 : Int), ((0 : Int), ((0 : Int), ((0 : Int), ((0 : Int), ([], false)))))))))) (Nat.le_trans (cItemS_mem (nthI_mem a i _ hi)) hc), Option.bind_some, cdp (by omega), w64 (by omega) (by omega)]
    rfl
  · show L.toItemS_l0 (m + 1) _ _ _ _ = _
    rw [L.toItemS_l0, cdn (by omega)]
theorem toRec_eq (x : TRec) : L.toRec x.1 x.2.1 x.2.2 = some (x.1, x.2.1, x.2.2) := by
  rfl
theorem toRecS_eq (a : List TRec) (hc : a.length ≤ 1000000000000) : L.toRecS a = some a := by
  have hn := hc
  unfold L.toRecS
  simp only []
  rw [cdp (by omega)]
  refine toLoop (fun m i xs => L.toRecS_l0 m (fun y => some y) i a xs) a ((0 : Int), ((0 : Int), (0 : Int))) hn (fun i m xs hi hx => ?_) (fun m xs => ?_) _ (by simp)
  · show L.toRecS_l0 (m + 1) _ _ _ _ = L.toRecS_l0 m _ _ _ _
    rw [L.toRecS_l0, cdp (by omega), cdp (by omega), toRec_eq (nthI a (i : Int) ((0 : Int), ((0 : Int), (0 : Int)))), Option.bind_some, cdp (by omega), w64 (by omega) (by omega)]
    rfl
  · show L.toRecS_l0 (m + 1) _ _ _ _ = _
    rw [L.toRecS_l0, cdn (by omega)]
theorem toBox_eq (x : TBox) (hc : cBox x ≤ 1000000000000) : L.toBox x.1 x.2.1 x.2.2.1 x.2.2.2.1 x.2.2.2.2.1 x.2.2.2.2.2 = some (x.1, x.2.1, x.2.2.1, x.2.2.2.1, x.2.2.2.2.1, x.2.2.2.2.2) := by
  unfold L.toBox
  unfold cBox at hc
  simp only [toItemS_eq x.2.2.2.2.1 (by omega), toRecS_eq x.2.2.2.2.2 (by omega), Option.bind_some]
theorem toBoxS_eq (a : List TBox) (hc : cBoxS a ≤ 1000000000000) : L.toBoxS a = some a := by
  have hn : a.length ≤ 1000000000000 := by unfold cBoxS at hc; omega
  unfold L.toBoxS
  simp only []
  rw [cdp (by omega)]
  refine toLoop (fun m i xs => L.toBoxS_l0 m (fun y => some y) i a xs) a ((0 : Int), ((0 : Int), ((0 : Int), ((0 : Int), ([], []))))) hn (fun i m xs hi hx => ?_) (fun m xs => ?_) _ (by simp)
  · show L.toBoxS_l0 (m + 1) _ _ _ _ = L.toBoxS_l0 m _ _ _ _
    rw [L.toBoxS_l0, cdp (by omega), cdp (by omega), toBox_eq (nthI a (i : Int) ((0 : Int), ((0 : Int), ((0 : Int), ((0 : Int), ([], [])))))) (Nat.le_trans (cBoxS_mem (nthI_mem a i _ hi)) hc), Option.bind_some, cdp (by omega), w64 (by omega) (by omega)]
    rfl
  · show L.toBoxS_l0 (m + 1) _ _ _ _ = _
    rw [L.toBoxS_l0, cdn (by omega)]
theorem toEng_eq (x : TEng) (hc : cEng x ≤ 1000000000000) : L.toEng x.1.1.1 x.1.2.1 x.1.2.2.1 x.2.2.1.1 x.1.1.2 x.1.2.2.2.1 x.1.2.2.2.2.1 x.1.2.2.2.2.2 x.2.1 x.2.2.1.2 x.2.2.2.1 x.2.2.2.2.1 x.2.2.2.2.2.1 x.2.2.2.2.2.2 = some (x.1.1.1, x.1.2.1, x.1.2.2.1, x.2.2.1.1, x.1.1.2, x.1.2.2.2.1, x.1.2.2.2.2.1, x.1.2.2.2.2.2, x.2.1, x.2.2.1.2, x.2.2.2.1, x.2.2.2.2.1, x.2.2.2.2.2.1, x.2.2.2.2.2.2) := by
  unfold L.toEng
  unfold cEng at hc
  simp only [toConf_eq x.1 (by unfold cConf; omega), toPunctS_eq x.2.1 (by omega), toMarks_eq x.2.2.1 (by unfold cMarks; omega), toCellS_eq x.2.2.2.1 (by omega), toIntS_eq x.2.2.2.2.1 (by omega), toIntS_eq x.2.2.2.2.2.1 (by omega), toBoxS_eq x.2.2.2.2.2.2 (by omega), Option.bind_some]
theorem eqUint64S_eq (a b : List Int) (hc : a.length ≤ 1000000000000) : L.eqUint64S a b = some (decide (a = b)) := by
  have hn := hc
  unfold L.eqUint64S
  refine eqTop a b ?_
  intro hl
  refine eqLoop (fun m i => L.eqUint64S_l0 m (fun y => some y) (some true) i a b) a b (0 : Int) hl hn (fun i m hi => ?_) (fun m => ?_)
  · show L.eqUint64S_l0 (m + 1) _ _ _ _ _ = bif _ then L.eqUint64S_l0 m _ _ _ _ _ else _
    rw [L.eqUint64S_l0, cdp (by omega), cdp (by omega), cdp (by omega), cneI, w64 (by omega) (by omega)]
    rfl
  · show L.eqUint64S_l0 (m + 1) _ _ _ _ _ = _
    rw [L.eqUint64S_l0, cdn (by omega)]
theorem eqLat_eq (x y : TLat) (hc : cLat x ≤ 1000000000000) : L.eqLat x.1 y.1 x.2 y.2 = some (decide (x = y)) := by
  unfold cLat at hc
  unfold L.eqLat
  simp only [eqUint64S_eq x.2 y.2 (by omega), cneI, cneB, cnotb, cbeB, cds, cdt, Option.bind_some]
  exact sdec ⟨fun h => (Prod.ext h.1 h.2), by rintro rfl; exact ⟨rfl, rfl⟩⟩
theorem eqTok_eq (x y : TTok) : L.eqTok x.1 x.2 y.1 y.2 = some (decide (x = y)) := by
  unfold L.eqTok
  simp only [cneI, cneB, cnotb, cbeB, cds, cdt, Option.bind_some]
  exact sdec ⟨fun h => (Prod.ext h.1 h.2), by rintro rfl; exact ⟨rfl, rfl⟩⟩
theorem eqTokS_eq (a b : List TTok) (hc : a.length ≤ 1000000000000) : L.eqTokS a b = some (decide (a = b)) := by
  have hn := hc
  unfold L.eqTokS
  refine eqTop a b ?_
  intro hl
  refine eqLoop (fun m i => L.eqTokS_l0 m (fun y => some y) (some true) i a b) a b ((0 : Int), (0 : Int)) hl hn (fun i m hi => ?_) (fun m => ?_)
  · show L.eqTokS_l0 (m + 1) _ _ _ _ _ = bif _ then L.eqTokS_l0 m _ _ _ _ _ else _
    rw [L.eqTokS_l0, cdp (by omega), cdp (by omega), cdp (by omega), eqTok_eq (nthI a (i : Int) ((0 : Int), (0 : Int))) (nthI b (i : Int) ((0 : Int), (0 : Int))), Option.bind_some, cnotb, w64 (by omega) (by omega)]
    rfl
  · show L.eqTokS_l0 (m + 1) _ _ _ _ _ = _
    rw [L.eqTokS_l0, cdn (by omega)]
theorem eqWinDef_eq (x y : TWinDef) : L.eqWinDef x.1 x.2.1 x.2.2 y.1 y.2.1 y.2.2 = some (decide (x = y)) := by
  unfold L.eqWinDef
  simp only [cneI, cneB, cnotb, cbeB, cds, cdt, Option.bind_some]
  exact sdec ⟨fun h => (Prod.ext h.1 (Prod.ext h.2.1 h.2.2)), by rintro rfl; exact ⟨rfl, rfl, rfl⟩⟩
theorem eqQuery_eq (x y : TQuery) (hc : cQuery x ≤ 1000000000000) : L.eqQuery x.2.2.1.1 x.2.2.1.2.1 x.2.2.1.2.2 x.2.2.2.1 x.2.2.2.2 y.2.2.1.1 y.2.2.1.2.1 y.2.2.1.2.2 y.2.2.2.1 y.2.2.2.2 x.1 x.2.1 y.1 y.2.1 = some (decide (x = y)) := by
  unfold cQuery at hc
  unfold L.eqQuery
  simp only [eqTokS_eq x.1 y.1 (by omega), eqTokS_eq x.2.1 y.2.1 (by omega), eqWinDef_eq x.2.2.1 y.2.2.1, cneI, cneB, cnotb, cbeB, cds, cdt, Option.bind_some]
  exact sdec ⟨fun h => (Prod.ext h.1 (Prod.ext h.2.1 (Prod.ext h.2.2.1 (Prod.ext h.2.2.2.1 h.2.2.2.2)))), by rintro rfl; exact ⟨rfl, rfl, rfl, rfl, rfl⟩⟩
theorem eqQueryS_eq (a b : List TQuery) (hc : cQueryS a ≤ 1000000000000) : L.eqQueryS a b = some (decide (a = b)) := by
  have hn : a.length ≤ 1000000000000 := by unfold cQueryS at hc; omega
  unfold L.eqQueryS
  refine eqTop a b ?_
  intro hl
  refine eqLoop (fun m i => L.eqQueryS_l0 m (fun y => some y) (some true) i a b) a b ([], ([], (((0 : Int), ((0 : Int), (0 : Int))), ((0 : Int), (0 : Int))))) hl hn (fun i m hi => ?_) (fun m => ?_)
  · show L.eqQueryS_l0 (m + 1) _ _ _ _ _ = bif _ then L.eqQueryS_l0 m _ _ _ _ _ else _
    rw [L.eqQueryS_l0, cdp (by omega), cdp (by omega), cdp (by omega), eqQuery_eq (nthI a (i : Int) ([], ([], (((0 : Int), ((0 : Int), (0 : Int))), ((0 : Int), (0 : Int)))))) (nthI b (i : Int) ([], ([], (((0 : Int), ((0 : Int), (0 : Int))), ((0 : Int), (0 : Int)))))) (Nat.le_trans (cQueryS_mem (nthI_mem a i _ hi)) hc), Option.bind_some, cnotb, w64 (by omega) (by omega)]
    rfl
  · show L.eqQueryS_l0 (m + 1) _ _ _ _ _ = _
    rw [L.eqQueryS_l0, cdn (by omega)]
theorem eqSub_eq (x y : TSub) : L.eqSub x.1 x.2.1 x.2.2 y.1 y.2.1 y.2.2 = some (decide (x = y)) := by
  unfold L.eqSub
  simp only [cneI, cneB, cnotb, cbeB, cds, cdt, Option.bind_some]
  exact sdec ⟨fun h => (Prod.ext h.1 (Prod.ext h.2.1 h.2.2)), by rintro rfl; exact ⟨rfl, rfl, rfl⟩⟩
theorem eqSubS_eq (a b : List TSub) (hc : a.length ≤ 1000000000000) : L.eqSubS a b = some (decide (a = b)) := by
  have hn := hc
  unfold L.eqSubS
  refine eqTop a b ?_
  intro hl
  refine eqLoop (fun m i => L.eqSubS_l0 m (fun y => some y) (some true) i a b) a b ((0 : Int), ((0 : Int), (0 : Int))) hl hn (fun i m hi => ?_) (fun m => ?_)
  · show L.eqSubS_l0 (m + 1) _ _ _ _ _ = bif _ then L.eqSubS_l0 m _ _ _ _ _ else _
    rw [L.eqSubS_l0, cdp (by omega), cdp (by omega), cdp (by omega), eqSub_eq (nthI a (i : Int) ((0 : Int), ((0 : Int), (0 : Int)))) (nthI b (i : Int) ((0 : Int), ((0 : Int), (0 : Int)))), Option.bind_some, cnotb, w64 (by omega) (by omega)]
    rfl
  · show L.eqSubS_l0 (m + 1) _ _ _ _ _ = _
    rw [L.eqSubS_l0, cdn (by omega)]
theorem eqRule_eq (x y : TRule) : L.eqRule x.1 x.2.1 x.2.2.1 x.2.2.2.1 x.2.2.2.2 y.1 y.2.1 y.2.2.1 y.2.2.2.1 y.2.2.2.2 = some (decide (x = y)) := by
  unfold L.eqRule
  simp only [cneI, cneB, cnotb, cbeB, cds, cdt, Option.bind_some]
  exact sdec ⟨fun h => (Prod.ext h.1 (Prod.ext h.2.1 (Prod.ext h.2.2.1 (Prod.ext h.2.2.2.1 h.2.2.2.2)))), by rintro rfl; exact ⟨rfl, rfl, rfl, rfl, rfl⟩⟩
theorem eqRuleS_eq (a b : List TRule) (hc : a.length ≤ 1000000000000) : L.eqRuleS a b = some (decide (a = b)) := by
  have hn := hc
  unfold L.eqRuleS
  refine eqTop a b ?_
  intro hl
  refine eqLoop (fun m i => L.eqRuleS_l0 m (fun y => some y) (some true) i a b) a b ((0 : Int), ((0 : Int), ((0 : Int), ((0 : Int), (0 : Int))))) hl hn (fun i m hi => ?_) (fun m => ?_)
  · show L.eqRuleS_l0 (m + 1) _ _ _ _ _ = bif _ then L.eqRuleS_l0 m _ _ _ _ _ else _
    rw [L.eqRuleS_l0, cdp (by omega), cdp (by omega), cdp (by omega), eqRule_eq (nthI a (i : Int) ((0 : Int), ((0 : Int), ((0 : Int), ((0 : Int), (0 : Int)))))) (nthI b (i : Int) ((0 : Int), ((0 : Int), ((0 : Int), ((0 : Int), (0 : Int)))))), Option.bind_some, cnotb, w64 (by omega) (by omega)]
    rfl
  · show L.eqRuleS_l0 (m + 1) _ _ _ _ _ = _
    rw [L.eqRuleS_l0, cdn (by omega)]
theorem eqConf_eq (x y : TConf) (hc : cConf x ≤ 1000000000000) : L.eqConf x.1.1 x.2.1 x.2.2.1 y.1.1 y.2.1 y.2.2.1 x.1.2 x.2.2.2.1 x.2.2.2.2.1 x.2.2.2.2.2 y.1.2 y.2.2.2.1 y.2.2.2.2.1 y.2.2.2.2.2 = some (decide (x = y)) := by
  unfold cConf at hc
  unfold L.eqConf
  simp only [eqLat_eq x.1 y.1 (by unfold cLat; omega), eqQueryS_eq x.2.2.2.1 y.2.2.2.1 (by omega), eqSubS_eq x.2.2.2.2.1 y.2.2.2.2.1 (by omega), eqRuleS_eq x.2.2.2.2.2 y.2.2.2.2.2 (by omega), cneI, cneB, cnotb, cbeB, cds, cdt, Option.bind_some]
  exact sdec ⟨fun h => (Prod.ext h.1 (Prod.ext h.2.1 (Prod.ext h.2.2.1 (Prod.ext h.2.2.2.1 (Prod.ext h.2.2.2.2.1 h.2.2.2.2.2))))), by rintro rfl; exact ⟨rfl, rfl, rfl, rfl, rfl, rfl⟩⟩
theorem eqPunct_eq (x y : TPunct) : L.eqPunct x.1 x.2.1 x.2.2.1 x.2.2.2 y.1 y.2.1 y.2.2.1 y.2.2.2 = some (decide (x = y)) := by
  unfold L.eqPunct
  simp only [cneI, cneB, cnotb, cbeB, cds, cdt, Option.bind_some]
  exact sdec ⟨fun h => (Prod.ext h.1 (Prod.ext h.2.1 (Prod.ext h.2.2.1 h.2.2.2))), by rintro rfl; exact ⟨rfl, rfl, rfl, rfl⟩⟩
theorem eqPunctS_eq (a b : List TPunct) (hc : a.length ≤ 1000000000000) : L.eqPunctS a b = some (decide (a = b)) := by
  have hn := hc
  unfold L.eqPunctS
  refine eqTop a b ?_
  intro hl
  refine eqLoop (fun m i => L.eqPunctS_l0 m (fun y => some y) (some true) i a b) a b ((0 : Int), ((0 : Int), ((0 : Int), (0 : Int)))) hl hn (fun i m hi => ?_) (fun m => ?_)
  · show L.eqPunctS_l0 (m + 1) _ _ _ _ _ = bif _ then L.eqPunctS_l0 m _ _ _ _ _ else _
    rw [L.eqPunctS_l0, cdp (by omega), cdp (by omega), cdp (by omega), eqPunct_eq (nthI a (i : Int) ((0 : Int), ((0 : Int), ((0 : Int), (0 : Int))))) (nthI b (i : Int) ((0 : Int), ((0 : Int), ((0 : Int), (0 : Int))))), Option.bind_some, cnotb, w64 (by omega) (by omega)]
    rfl
  · show L.eqPunctS_l0 (m + 1) _ _ _ _ _ = _
    rw [L.eqPunctS_l0, cdn (by omega)]
theorem eqMark_eq (x y : TMark) : L.eqMark x.1 x.2 y.1 y.2 = some (decide (x = y)) := by
  unfold L.eqMark
  simp only [cneI, cneB, cnotb, cbeB, cds, cdt, Option.bind_some]
  exact sdec ⟨fun h => (Prod.ext h.1 h.2), by rintro rfl; exact ⟨rfl, rfl⟩⟩
theorem eqMarkS_eq (a b : List TMark) (hc : a.length ≤ 1000000000000) : L.eqMarkS a b = some (decide (a = b)) := by
  have hn := hc
  unfold L.eqMarkS
  refine eqTop a b ?_
  intro hl
  refine eqLoop (fun m i => L.eqMarkS_l0 m (fun y => some y) (some true) i a b) a b ((0 : Int), false) hl hn (fun i m hi => ?_) (fun m => ?_)
  · show L.eqMarkS_l0 (m + 1) _ _ _ _ _ = bif _ then L.eqMarkS_l0 m _ _ _ _ _ else _
    rw [L.eqMarkS_l0, cdp (by omega), cdp (by omega), cdp (by omega), eqMark_eq (nthI a (i : Int) ((0 : Int), false)) (nthI b (i : Int) ((0 : Int), false)), Option.bind_some, cnotb, w64 (by omega) (by omega)]
    rfl
  · show L.eqMarkS_l0 (m + 1) _ _ _ _ _ = _
    rw [L.eqMarkS_l0, cdn (by omega)]
theorem eqMarks_eq (x y : TMarks) (hc : cMarks x ≤ 1000000000000) : L.eqMarks x.1 y.1 x.2 y.2 = some (decide (x = y)) := by
  unfold cMarks at hc
  unfold L.eqMarks
  simp only [eqMarkS_eq x.2 y.2 (by omega), cneI, cneB, cnotb, cbeB, cds, cdt, Option.bind_some]
  exact sdec ⟨fun h => (Prod.ext h.1 h.2), by rintro rfl; exact ⟨rfl, rfl⟩⟩
theorem eqWide_eq (x y : TWide) : L.eqWide x.1 x.2 y.1 y.2 = some (decide (x = y)) := by
  unfold L.eqWide
  simp only [cneI, cneB, cnotb, cbeB, cds, cdt, Option.bind_some]
  exact sdec ⟨fun h => (Prod.ext h.1 h.2), by rintro rfl; exact ⟨rfl, rfl⟩⟩
theorem eqIntS_eq (a b : List Int) (hc : a.length ≤ 1000000000000) : L.eqIntS a b = some (decide (a = b)) := by
  have hn := hc
  unfold L.eqIntS
  refine eqTop a b ?_
  intro hl
  refine eqLoop (fun m i => L.eqIntS_l0 m (fun y => some y) (some true) i a b) a b (0 : Int) hl hn (fun i m hi => ?_) (fun m => ?_)
  · show L.eqIntS_l0 (m + 1) _ _ _ _ _ = bif _ then L.eqIntS_l0 m _ _ _ _ _ else _
    rw [L.eqIntS_l0, cdp (by omega), cdp (by omega), cdp (by omega), cneI, w64 (by omega) (by omega)]
    rfl
  · show L.eqIntS_l0 (m + 1) _ _ _ _ _ = _
    rw [L.eqIntS_l0, cdn (by omega)]
theorem eqAgg_eq (x y : TAgg) (hc : cAgg x ≤ 1000000000000) : L.eqAgg x.1 x.2.1.1 x.2.1.2 x.2.2.1 x.2.2.2.1 y.1 y.2.1.1 y.2.1.2 y.2.2.1 y.2.2.2.1 x.2.2.2.2 y.2.2.2.2 = some (decide (x = y)) := by
  unfold cAgg at hc
  unfold L.eqAgg
  simp only [eqWide_eq x.2.1 y.2.1, eqIntS_eq x.2.2.2.2 y.2.2.2.2 (by omega), cneI, cneB, cnotb, cbeB, cds, cdt, Option.bind_some]
  exact sdec ⟨fun h => (Prod.ext h.1 (Prod.ext h.2.1 (Prod.ext h.2.2.1 (Prod.ext h.2.2.2.1 h.2.2.2.2)))), by rintro rfl; exact ⟨rfl, rfl, rfl, rfl, rfl⟩⟩
theorem eqCell_eq (x y : TCell) (hc : cCell x ≤ 1000000000000) : L.eqCell x.1 x.2.1 x.2.2.1 x.2.2.2.1 x.2.2.2.2.1 x.2.2.2.2.2.1 x.2.2.2.2.2.2.1.1 x.2.2.2.2.2.2.1.2 x.2.2.2.2.2.2.2.1 x.2.2.2.2.2.2.2.2.1 y.1 y.2.1 y.2.2.1 y.2.2.2.1 y.2.2.2.2.1 y.2.2.2.2.2.1 y.2.2.2.2.2.2.1.1 y.2.2.2.2.2.2.1.2 y.2.2.2.2.2.2.2.1 y.2.2.2.2.2.2.2.2.1 x.2.2.2.2.2.2.2.2.2 y.2.2.2.2.2.2.2.2.2 = some (decide (x = y)) := by
  unfold cCell at hc
  unfold L.eqCell
  simp only [eqAgg_eq x.2.2.2.2.2 y.2.2.2.2.2 (by unfold cAgg; omega), cneI, cneB, cnotb, cbeB, cds, cdt, Option.bind_some]
  exact sdec ⟨fun h => (Prod.ext h.1 (Prod.ext h.2.1 (Prod.ext h.2.2.1 (Prod.ext h.2.2.2.1 (Prod.ext h.2.2.2.2.1 h.2.2.2.2.2))))), by rintro rfl; exact ⟨rfl, rfl, rfl, rfl, rfl, rfl⟩⟩
theorem eqCellS_eq (a b : List TCell) (hc : cCellS a ≤ 1000000000000) : L.eqCellS a b = some (decide (a = b)) := by
  have hn : a.length ≤ 1000000000000 := by unfold cCellS at hc; omega
  unfold L.eqCellS
  refine eqTop a b ?_
  intro hl
  refine eqLoop (fun m i => L.eqCellS_l0 m (fun y => some y) (some true) i a b) a b ((0 : Int), ((0 : Int), ((0 : Int), ((0 : Int), ((0 : Int), ((0 : Int), (((0 : Int), (0 : Int)), ((0 : Int), ((0 : Int), []))))))))) hl hn (fun i m hi => ?_) (fun m => ?_)
  · show L.eqCellS_l0 (m + 1) _ _ _ _ _ = bif _ then L.eqCellS_l0 m _ _ _ _ _ else _
    rw [L.eqCellS_l0, cdp (by omega), cdp (by omega), cdp (by omega), eqCell_eq (nthI a (i : Int) ((0 : Int), ((0 : Int), ((0 : Int), ((0 : Int), ((0 : Int), ((0 : Int), (((0 : Int), (0 : Int)), ((0 : Int), ((0 : Int), [])))))))))) (nthI b (i : Int) ((0 : Int), ((0 : Int), ((0 : Int), ((0 : Int), ((0 : Int), ((0 : Int), (((0 : Int), (0 : Int)), ((0 : Int), ((0 : Int), [])))))))))) (Nat.le_trans (cCellS_mem (nthI_mem a i _ hi)) hc), Option.bind_some, cnotb, w64 (by omega) (by omega)]
    rfl
  · show L.eqCellS_l0 (m + 1) _ _ _ _ _ = _
    rw [L.eqCellS_l0, cdn (by omega)]
theorem eqPane_eq (x y : TPane) (hc : cPane x ≤ 1000000000000) : L.eqPane x.1 x.2.1 x.2.2.1 x.2.2.2.1 x.2.2.2.2.1 x.2.2.2.2.2.1 x.2.2.2.2.2.2.2 y.1 y.2.1 y.2.2.1 y.2.2.2.1 y.2.2.2.2.1 y.2.2.2.2.2.1 y.2.2.2.2.2.2.2 x.2.2.2.2.2.2.1 y.2.2.2.2.2.2.1 = some (decide (x = y)) := by
  unfold cPane at hc
  unfold L.eqPane
  simp only [eqIntS_eq x.2.2.2.2.2.2.1 y.2.2.2.2.2.2.1 (by omega), cneI, cneB, cnotb, cbeB, cds, cdt, Option.bind_some]
  exact sdec ⟨fun h => (Prod.ext h.1 (Prod.ext h.2.1 (Prod.ext h.2.2.1 (Prod.ext h.2.2.2.1 (Prod.ext h.2.2.2.2.1 (Prod.ext h.2.2.2.2.2.1 (Prod.ext h.2.2.2.2.2.2.1 h.2.2.2.2.2.2.2))))))), by rintro rfl; exact ⟨rfl, rfl, rfl, rfl, rfl, rfl, rfl, rfl⟩⟩
theorem eqItem_eq (x y : TItem) (hc : cItem x ≤ 1000000000000) : L.eqItem x.1 x.2.1 x.2.2.1 x.2.2.2.1 x.2.2.2.2.1 x.2.2.2.2.2.1 x.2.2.2.2.2.2.1 x.2.2.2.2.2.2.2.1 x.2.2.2.2.2.2.2.2.2 y.1 y.2.1 y.2.2.1 y.2.2.2.1 y.2.2.2.2.1 y.2.2.2.2.2.1 y.2.2.2.2.2.2.1 y.2.2.2.2.2.2.2.1 y.2.2.2.2.2.2.2.2.2 x.2.2.2.2.2.2.2.2.1 y.2.2.2.2.2.2.2.2.1 = some (decide (x = y)) := by
  unfold cItem at hc
  unfold L.eqItem
  simp only [eqPane_eq x.2.2 y.2.2 (by unfold cPane; omega), cneI, cneB, cnotb, cbeB, cds, cdt, Option.bind_some]
  exact sdec ⟨fun h => (Prod.ext h.1 (Prod.ext h.2.1 h.2.2)), by rintro rfl; exact ⟨rfl, rfl, rfl⟩⟩
theorem eqItemS_eq (a b : List TItem) (hc : cItemS a ≤ 1000000000000) : L.eqItemS a b = some (decide (a = b)) := by
  have hn : a.length ≤ 1000000000000 := by unfold cItemS at hc; omega
  unfold L.eqItemS
  refine eqTop a b ?_
  intro hl
  refine eqLoop (fun m i => L.eqItemS_l0 m (fun y => some y) (some true) i a b) a b ((0 : Int), ((0 : Int), ((0 : Int), ((0 : Int), ((0 : Int), ((0 : Int), ((0 : Int), ((0 : Int), ([], false))))))))) hl hn (fun i m hi => ?_) (fun m => ?_)
  · show L.eqItemS_l0 (m + 1) _ _ _ _ _ = bif _ then L.eqItemS_l0 m _ _ _ _ _ else _
    rw [L.eqItemS_l0, cdp (by omega), cdp (by omega), cdp (by omega), eqItem_eq (nthI a (i : Int) ((0 : Int), ((0 : Int), ((0 : Int), ((0 : Int), ((0 : Int), ((0 : Int), ((0 : Int), ((0 : Int), ([], false)))))))))) (nthI b (i : Int) ((0 : Int), ((0 : Int), ((0 : Int), ((0 : Int), ((0 : Int), ((0 : Int), ((0 : Int), ((0 : Int), ([], false)))))))))) (Nat.le_trans (cItemS_mem (nthI_mem a i _ hi)) hc), Option.bind_some, cnotb, w64 (by omega) (by omega)]
    rfl
  · show L.eqItemS_l0 (m + 1) _ _ _ _ _ = _
    rw [L.eqItemS_l0, cdn (by omega)]
theorem eqRec_eq (x y : TRec) : L.eqRec x.1 x.2.1 x.2.2 y.1 y.2.1 y.2.2 = some (decide (x = y)) := by
  unfold L.eqRec
  simp only [cneI, cneB, cnotb, cbeB, cds, cdt, Option.bind_some]
  exact sdec ⟨fun h => (Prod.ext h.1 (Prod.ext h.2.1 h.2.2)), by rintro rfl; exact ⟨rfl, rfl, rfl⟩⟩
theorem eqRecS_eq (a b : List TRec) (hc : a.length ≤ 1000000000000) : L.eqRecS a b = some (decide (a = b)) := by
  have hn := hc
  unfold L.eqRecS
  refine eqTop a b ?_
  intro hl
  refine eqLoop (fun m i => L.eqRecS_l0 m (fun y => some y) (some true) i a b) a b ((0 : Int), ((0 : Int), (0 : Int))) hl hn (fun i m hi => ?_) (fun m => ?_)
  · show L.eqRecS_l0 (m + 1) _ _ _ _ _ = bif _ then L.eqRecS_l0 m _ _ _ _ _ else _
    rw [L.eqRecS_l0, cdp (by omega), cdp (by omega), cdp (by omega), eqRec_eq (nthI a (i : Int) ((0 : Int), ((0 : Int), (0 : Int)))) (nthI b (i : Int) ((0 : Int), ((0 : Int), (0 : Int)))), Option.bind_some, cnotb, w64 (by omega) (by omega)]
    rfl
  · show L.eqRecS_l0 (m + 1) _ _ _ _ _ = _
    rw [L.eqRecS_l0, cdn (by omega)]
theorem eqBox_eq (x y : TBox) (hc : cBox x ≤ 1000000000000) : L.eqBox x.1 x.2.1 x.2.2.1 x.2.2.2.1 y.1 y.2.1 y.2.2.1 y.2.2.2.1 x.2.2.2.2.1 x.2.2.2.2.2 y.2.2.2.2.1 y.2.2.2.2.2 = some (decide (x = y)) := by
  unfold cBox at hc
  unfold L.eqBox
  simp only [eqItemS_eq x.2.2.2.2.1 y.2.2.2.2.1 (by omega), eqRecS_eq x.2.2.2.2.2 y.2.2.2.2.2 (by omega), cneI, cneB, cnotb, cbeB, cds, cdt, Option.bind_some]
  exact sdec ⟨fun h => (Prod.ext h.1 (Prod.ext h.2.1 (Prod.ext h.2.2.1 (Prod.ext h.2.2.2.1 (Prod.ext h.2.2.2.2.1 h.2.2.2.2.2))))), by rintro rfl; exact ⟨rfl, rfl, rfl, rfl, rfl, rfl⟩⟩
theorem eqBoxS_eq (a b : List TBox) (hc : cBoxS a ≤ 1000000000000) : L.eqBoxS a b = some (decide (a = b)) := by
  have hn : a.length ≤ 1000000000000 := by unfold cBoxS at hc; omega
  unfold L.eqBoxS
  refine eqTop a b ?_
  intro hl
  refine eqLoop (fun m i => L.eqBoxS_l0 m (fun y => some y) (some true) i a b) a b ((0 : Int), ((0 : Int), ((0 : Int), ((0 : Int), ([], []))))) hl hn (fun i m hi => ?_) (fun m => ?_)
  · show L.eqBoxS_l0 (m + 1) _ _ _ _ _ = bif _ then L.eqBoxS_l0 m _ _ _ _ _ else _
    rw [L.eqBoxS_l0, cdp (by omega), cdp (by omega), cdp (by omega), eqBox_eq (nthI a (i : Int) ((0 : Int), ((0 : Int), ((0 : Int), ((0 : Int), ([], [])))))) (nthI b (i : Int) ((0 : Int), ((0 : Int), ((0 : Int), ((0 : Int), ([], [])))))) (Nat.le_trans (cBoxS_mem (nthI_mem a i _ hi)) hc), Option.bind_some, cnotb, w64 (by omega) (by omega)]
    rfl
  · show L.eqBoxS_l0 (m + 1) _ _ _ _ _ = _
    rw [L.eqBoxS_l0, cdn (by omega)]
theorem eqEng_eq (x y : TEng) (hc : cEng x ≤ 1000000000000) : L.eqEng x.1.1.1 x.1.2.1 x.1.2.2.1 x.2.2.1.1 y.1.1.1 y.1.2.1 y.1.2.2.1 y.2.2.1.1 x.1.1.2 x.1.2.2.2.1 x.1.2.2.2.2.1 x.1.2.2.2.2.2 x.2.1 x.2.2.1.2 x.2.2.2.1 x.2.2.2.2.1 x.2.2.2.2.2.1 x.2.2.2.2.2.2 y.1.1.2 y.1.2.2.2.1 y.1.2.2.2.2.1 y.1.2.2.2.2.2 y.2.1 y.2.2.1.2 y.2.2.2.1 y.2.2.2.2.1 y.2.2.2.2.2.1 y.2.2.2.2.2.2 = some (decide (x = y)) := by
  unfold cEng at hc
  unfold L.eqEng
  simp only [eqConf_eq x.1 y.1 (by unfold cConf; omega), eqPunctS_eq x.2.1 y.2.1 (by omega), eqMarks_eq x.2.2.1 y.2.2.1 (by unfold cMarks; omega), eqCellS_eq x.2.2.2.1 y.2.2.2.1 (by omega), eqIntS_eq x.2.2.2.2.1 y.2.2.2.2.1 (by omega), eqIntS_eq x.2.2.2.2.2.1 y.2.2.2.2.2.1 (by omega), eqBoxS_eq x.2.2.2.2.2.2 y.2.2.2.2.2.2 (by omega), cneI, cneB, cnotb, cbeB, cds, cdt, Option.bind_some]
  exact sdec ⟨fun h => (Prod.ext h.1 (Prod.ext h.2.1 (Prod.ext h.2.2.1 (Prod.ext h.2.2.2.1 (Prod.ext h.2.2.2.2.1 (Prod.ext h.2.2.2.2.2.1 h.2.2.2.2.2.2)))))), by rintro rfl; exact ⟨rfl, rfl, rfl, rfl, rfl, rfl, rfl⟩⟩
theorem in_eq (a b c : Int) : I.in a b c = some (decide (b ≤ a ∧ a ≤ c)) := by unfold I.in; rw [cond_some, cond_and, dand]
def takesF (op : Int) : Int := if op ≤ 3 then 0 else if op = 11 then 1 else 2
theorem takesF_le (op : Int) : 0 ≤ takesF op ∧ takesF op ≤ 2 := by unfold takesF; split <;> (try split) <;> omega
theorem sTakes_eq (a : Int) : S.l03Takes a = some (takesF a) := by
  unfold S.l03Takes takesF
  by_cases h : a ≤ 3
  · rw [cdp h, if_pos h]
  · rw [cdn h, if_neg h]
    by_cases h2 : a = 11
    · rw [cep h2, if_pos h2]
    · rw [cen h2, if_neg h2]
theorem iTakes_eq (a b : Int) : I.Tok_takes a b = some (takesF a) := by
  unfold I.Tok_takes takesF
  by_cases h : a ≤ 3
  · rw [cdp h, if_pos h]
  · rw [cdn h, if_neg h]
    by_cases h2 : a = 11
    · rw [cep h2, if_pos h2]
    · rw [cen h2, if_neg h2]
def tokFits (t : Int × Int) (n : Int) : Prop := (0 ≤ t.1 ∧ t.1 ≤ 11) ∧ (t.1 = 0 ∨ t.2 = 0) ∧ takesF t.1 ≤ n
instance (t : Int × Int) (n : Int) : Decidable (tokFits t n) := by unfold tokFits; exact inferInstance
def depthGo : List (Int × Int) → Int → Int → Option (Int × Int)
  | [], n, mo => some (n, mo)
  | t :: ts, n, mo => if tokFits t n then depthGo ts (n - takesF t.1 + 1) (max mo (n - takesF t.1 + 1)) else none
def depthF (x : List (Int × Int)) : Int :=
  if 1 ≤ x.length ∧ x.length ≤ 20 then
    match depthGo x 0 0 with
    | some r => if r.1 = 1 then r.2 else -1
    | none => -1
  else -1
theorem depthGo_le : ∀ (x : List (Int × Int)) (n mo : Int) (r : Int × Int), n ≤ mo → depthGo x n mo = some r → r.1 ≤ r.2
  | [], n, mo, r, h, e => by simp only [depthGo, Option.some.injEq] at e; subst e; exact h
  | t :: ts, n, mo, r, h, e => by
    simp only [depthGo] at e
    split at e
    · exact depthGo_le ts _ _ r (by omega) e
    · cases e
theorem depthF_cases (x : List (Int × Int)) : depthF x = -1 ∨ 1 ≤ depthF x := by
  unfold depthF
  split
  · split
    · rename_i r hr
      split
      · have := depthGo_le x 0 0 r (by omega) hr; omega
      · omega
    · omega
  · omega
theorem max_if (a b : Int) : (if a > b then a else b) = max b a := by split <;> omega
theorem sDepth_l (e0 : Int → Int → Int → Option Int) (e1 : Int → Int → Option Int) (he : ∀ a b, e0 (-1) a b = some (-1)) (x : List (Int × Int)) (hx : x.length ≤ 20) (m : Nat) : ∀ (d i : Nat) (n mo : Int), i + d = x.length → 0 ≤ n → n ≤ i →
    S.l03Depth_l0 (d + 1 + m) e0 e1 n mo (i : Int) x = match depthGo (x.drop i) n mo with | some r => e1 r.1 r.2 | none => some (-1) := by
  intro d
  induction d with
  | zero =>
    intro i n mo hi h0 h1
    rw [show 0 + 1 + m = m + 1 from by omega, S.l03Depth_l0, cdn (by omega), List.drop_of_length_le (by omega)]
    rfl
  | succ d ih =>
    intro i n mo hi h0 h1
    rw [show d + 1 + 1 + m = (d + 1 + m) + 1 from by omega, S.l03Depth_l0, cdp (by omega), drop_at x i ((0 : Int), (0 : Int)) (by omega), depthGo]
    generalize nthI x (i : Int) ((0 : Int), (0 : Int)) = t
    have hdec : decide ((0 : Int) ≤ (i : Int) ∧ (i : Int) < (x.length : Int)) = true := by simp; omega
    have ht := takesF_le t.1
    simp only [hdec, cond_true, sTakes_eq, Option.bind_some]
    by_cases c1 : t.1 < 0
    · rw [cdp c1, if_neg (by unfold tokFits; omega), he]
    rw [cdn c1]
    by_cases c2 : 11 < t.1
    · rw [cdp c2, if_neg (by unfold tokFits; omega), he]
    rw [cdn c2]
    have fin : (bif decide (n < takesF t.1) then e0 (-1) n mo else
        S.l03Depth_l0 (d + 1 + m) e0 e1 (IntKind.i64.wrap (IntKind.i64.wrap (n - takesF t.1) + 1)) (if IntKind.i64.wrap (IntKind.i64.wrap (n - takesF t.1) + 1) > mo then IntKind.i64.wrap (IntKind.i64.wrap (n - takesF t.1) + 1) else mo) (IntKind.i64.wrap ((i : Int) + 1)) x) =
        if takesF t.1 ≤ n then (match depthGo (x.drop (i + 1)) (n - takesF t.1 + 1) (max mo (n - takesF t.1 + 1)) with | some r => e1 r.1 r.2 | none => some (-1)) else some (-1) := by
      by_cases c5 : n < takesF t.1
      · rw [cdp c5, if_neg (by omega), he]
      · rw [cdn c5, w64 (n := n - takesF t.1) (by omega) (by omega), w64 (n := n - takesF t.1 + 1) (by omega) (by omega), w64 (n := (i : Int) + 1) (by omega) (by omega), max_if, if_pos (by omega)]
        exact ih (i + 1) _ _ (by omega) (by omega) (by omega)
    by_cases c3 : t.1 = 0
    · rw [cnn c3, fin]
      by_cases c5 : takesF t.1 ≤ n
      · rw [if_pos c5, if_pos ⟨by omega, .inl c3, c5⟩]
      · rw [if_neg c5, if_neg (fun h => c5 h.2.2)]
    · rw [cnp c3]
      by_cases c4 : t.2 = 0
      · rw [cnn c4, fin]
        by_cases c5 : takesF t.1 ≤ n
        · rw [if_pos c5, if_pos ⟨by omega, .inr c4, c5⟩]
        · rw [if_neg c5, if_neg (fun h => c5 h.2.2)]
      · rw [cnp c4, he, if_neg (by unfold tokFits; omega)]
theorem iDepth_l (e0 : Int → Int → Int → Option Int) (e1 : Int → Int → Option Int) (he : ∀ a b, e0 (-1) a b = some (-1)) (x : List (Int × Int)) (hx : x.length ≤ 20) (m : Nat) : ∀ (d i : Nat) (n mo : Int), i + d = x.length → 0 ≤ n → n ≤ i →
    I.depth_l0 (d + 1 + m) e0 e1 n mo (x.length : Int) (i : Int) x = match depthGo (x.drop i) n mo with | some r => e1 r.1 r.2 | none => some (-1) := by
  intro d
  induction d with
  | zero =>
    intro i n mo hi h0 h1
    rw [show 0 + 1 + m = m + 1 from by omega, I.depth_l0, cdn (by omega), List.drop_of_length_le (by omega)]
    rfl
  | succ d ih =>
    intro i n mo hi h0 h1
    rw [show d + 1 + 1 + m = (d + 1 + m) + 1 from by omega, I.depth_l0, cdp (by omega), drop_at x i ((0 : Int), (0 : Int)) (by omega), depthGo]
    generalize nthI x (i : Int) ((0 : Int), (0 : Int)) = t
    have hdec : decide ((0 : Int) ≤ (i : Int) ∧ (i : Int) < (x.length : Int)) = true := by simp; omega
    have ht := takesF_le t.1
    simp only [hdec, cond_true, iTakes_eq, in_eq, Option.bind_some]
    by_cases c1 : ¬ (0 ≤ t.1 ∧ t.1 ≤ 11)
    · rw [decide_eq_false c1, Bool.not_false, cond_true, if_neg (fun h => c1 h.1), he]
    have c1 := Decidable.not_not.1 c1
    rw [decide_eq_true c1, Bool.not_true, cond_false]
    have fin : (bif decide (n < takesF t.1) then e0 (-1) n mo else
        I.depth_l0 (d + 1 + m) e0 e1 (IntKind.i64.wrap (n + IntKind.i64.wrap (1 - takesF t.1))) (if IntKind.i64.wrap (n + IntKind.i64.wrap (1 - takesF t.1)) > mo then IntKind.i64.wrap (n + IntKind.i64.wrap (1 - takesF t.1)) else mo) (x.length : Int) (IntKind.i64.wrap ((i : Int) + 1)) x) =
        if takesF t.1 ≤ n then (match depthGo (x.drop (i + 1)) (n - takesF t.1 + 1) (max mo (n - takesF t.1 + 1)) with | some r => e1 r.1 r.2 | none => some (-1)) else some (-1) := by
      by_cases c5 : n < takesF t.1
      · rw [cdp c5, if_neg (by omega), he]
      · rw [cdn c5, w64 (n := 1 - takesF t.1) (by omega) (by omega), w64 (n := n + (1 - takesF t.1)) (by omega) (by omega), w64 (n := (i : Int) + 1) (by omega) (by omega), max_if, if_pos (by omega), show n + (1 - takesF t.1) = n - takesF t.1 + 1 from by omega]
        exact ih (i + 1) _ _ (by omega) (by omega) (by omega)
    by_cases c3 : t.1 = 0
    · rw [cnn c3, fin]
      by_cases c5 : takesF t.1 ≤ n
      · rw [if_pos c5, if_pos ⟨by omega, .inl c3, c5⟩]
      · rw [if_neg c5, if_neg (fun h => c5 h.2.2)]
    · rw [cnp c3]
      by_cases c4 : t.2 = 0
      · rw [cnn c4, fin]
        by_cases c5 : takesF t.1 ≤ n
        · rw [if_pos c5, if_pos ⟨by omega, .inr c4, c5⟩]
        · rw [if_neg c5, if_neg (fun h => c5 h.2.2)]
      · rw [cnp c4, he, if_neg (by unfold tokFits; omega)]
theorem sDepth_eq (x : List (Int × Int)) : S.l03Depth x = some (depthF x) := by
  unfold S.l03Depth depthF
  by_cases h1 : x.length < 1
  · rw [cdp (by omega), if_neg (by omega)]
  rw [cdn (by omega)]
  by_cases h2 : 20 < x.length
  · rw [cdp (by omega), if_neg (by omega)]
  rw [cdn (by omega), if_pos (by omega)]
  obtain ⟨m, hm⟩ := fu_ge x.length (by omega)
  have := sDepth_l (fun y30 y31 y32 => some y30) (fun y33 y34 => bif (y33 != 1) then some (-1) else some y34) (fun _ _ => rfl) x (by omega) m x.length 0 0 0 (by omega) (by omega) (by omega)
  rw [hm]
  refine this.trans ?_
  rw [List.drop_zero]
  cases depthGo x 0 0 with
  | none => rfl
  | some r =>
    simp only
    by_cases e : r.1 = 1
    · rw [cnn e, if_pos e]
    · rw [cnp e, if_neg e]
theorem iDepth_eq (x : List (Int × Int)) (hx : x.length ≤ 1000000000000) : I.depth x = some (depthF x) := by
  unfold I.depth depthF
  rw [in_eq, Option.bind_some]
  by_cases h1 : ¬ (1 ≤ x.length ∧ x.length ≤ 20)
  · rw [decide_eq_false (by omega), Bool.not_false, cond_true, if_neg h1]
  have h1 := Decidable.not_not.1 h1
  rw [decide_eq_true (by omega), Bool.not_true, cond_false, if_pos h1]
  obtain ⟨m, hm⟩ := fu_ge x.length (by omega)
  have := iDepth_l (fun y30 y31 y32 => some y30) (fun y33 y34 => bif (y33 != 1) then some (-1) else some y34) (fun _ _ => rfl) x (by omega) m x.length 0 0 0 (by omega) (by omega) (by omega)
  rw [hm]
  refine this.trans ?_
  rw [List.drop_zero]
  cases depthGo x 0 0 with
  | none => rfl
  | some r =>
    simp only
    by_cases e : r.1 = 1
    · rw [cnn e, if_pos e]
    · rw [cnp e, if_neg e]
def exprOk (x : List (Int × Int)) : Prop := 0 < depthF x
instance (x : List (Int × Int)) : Decidable (exprOk x) := by unfold exprOk; exact inferInstance
theorem sExprOk_eq (x : List (Int × Int)) : S.ExprOk x = some (decide (exprOk x)) := by
  unfold S.ExprOk
  rw [sDepth_eq, Option.bind_some]
  have := depthF_cases x
  exact congrArg some (decide_eq_decide.mpr (by unfold exprOk; omega))
theorem iExprOk_eq (x : List (Int × Int)) (hx : x.length ≤ 1000000000000) : I.isExpr x = some (decide (exprOk x)) := by
  unfold I.isExpr
  rw [iDepth_eq x hx, Option.bind_some]
  rfl
def winOk (k s p : Int) : Prop := (1 ≤ s ∧ s ≤ 100) ∧ ((k = 1 ∨ k = 3) ∧ p = 0 ∨ k = 2 ∧ 1 ≤ p ∧ p ≤ s ∧ s ≤ 8 * p)
instance (k s p : Int) : Decidable (winOk k s p) := by unfold winOk; exact inferInstance
theorem sWinOk_eq (k s p : Int) (h0 : -9223372036854775808 ≤ p) (h1 : p < 9223372036854775808) : S.WinOk k s p = some (decide (winOk k s p)) := by
  unfold S.WinOk
  simp only [Bool.cond_eq_ite, decide_eq_true_eq, bne_iff_ne]
  repeat' split
  all_goals first
    | exact sfal (by unfold winOk; omega)
    | exact sbool (by unfold winOk; rw [beq_iff_eq]; omega)
    | (rw [w64 (by omega) (by omega)]; exact sdec (by unfold winOk; omega))
theorem iWinOk_eq (k s p : Int) (h0 : -9223372036854775808 ≤ p) (h1 : p < 9223372036854775808) : I.isWinDef k s p = some (decide (winOk k s p)) := by
  unfold I.isWinDef
  simp only [in_eq, Option.bind_some, Bool.cond_eq_ite, decide_eq_true_eq, bne_iff_ne, beq_iff_eq, Bool.not_eq_true', decide_eq_false_iff_not]
  repeat' split
  all_goals first
    | exact sfal (by unfold winOk; omega)
    | exact sbool (by unfold winOk; rw [beq_iff_eq]; omega)
    | (rw [w64 (by omega) (by omega)]; exact sdec (by unfold winOk; omega))
def aggKind (a b : Int) : Prop := a = 6 ∧ 1 ≤ b ∧ b ≤ 4 ∨ 1 ≤ a ∧ a ≤ 5 ∧ b = 0
instance (a b : Int) : Decidable (aggKind a b) := by unfold aggKind; exact inferInstance
theorem sAggKind_eq (a b : Int) : S.AggKind a b = some (decide (aggKind a b)) := by
  unfold S.AggKind
  simp only [Bool.cond_eq_ite, decide_eq_true_eq, beq_iff_eq]
  repeat' split
  all_goals first
    | exact sfal (by unfold aggKind; omega)
    | exact sbool (by unfold aggKind; rw [beq_iff_eq]; omega)
    | exact sdec (by unfold aggKind; omega)
theorem iAggKind_eq (a b : Int) : I.isAggKind a b = some (decide (aggKind a b)) := by
  unfold I.isAggKind
  simp only [in_eq, Option.bind_some, Bool.cond_eq_ite, decide_eq_true_eq, beq_iff_eq]
  repeat' split
  all_goals first
    | exact sfal (by unfold aggKind; omega)
    | exact sbool (by unfold aggKind; rw [beq_iff_eq]; omega)
    | exact sdec (by unfold aggKind; omega)
def queryOk (k s p a b : Int) (x y : List (Int × Int)) : Prop := exprOk x ∧ exprOk y ∧ winOk k s p ∧ aggKind a b
instance (k s p a b : Int) (x y : List (Int × Int)) : Decidable (queryOk k s p a b x y) := by unfold queryOk; exact inferInstance
theorem sQueryOk_eq (k s p a b : Int) (x y : List (Int × Int)) (h0 : -9223372036854775808 ≤ p) (h1 : p < 9223372036854775808) : S.QueryOk k s p a b x y = some (decide (queryOk k s p a b x y)) := by
  unfold S.QueryOk
  simp only [sExprOk_eq, sWinOk_eq k s p h0 h1, sAggKind_eq, Option.bind_some, cds]
  exact sdec Iff.rfl
theorem iQueryOk_eq (k s p a b : Int) (x y : List (Int × Int)) (h0 : -9223372036854775808 ≤ p) (h1 : p < 9223372036854775808) (hx : x.length ≤ 1000000000000) (hy : y.length ≤ 1000000000000) : I.isQuery k s p a b x y = some (decide (queryOk k s p a b x y)) := by
  unfold I.isQuery
  simp only [iExprOk_eq x hx, iExprOk_eq y hy, iWinOk_eq k s p h0 h1, iAggKind_eq, Option.bind_some, cds]
  exact sdec Iff.rfl
theorem isSource_eq (a : Int) : I.isSource a = some (decide (0 ≤ a ∧ a ≤ 3)) := by unfold I.isSource; rw [in_eq]; rfl
theorem isTime_eq (a : Int) : I.isTime a = some (decide (0 ≤ a ∧ a ≤ 1000)) := by unfold I.isTime; rw [in_eq]; rfl
theorem isKey_eq (a : Int) : I.isKey a = some (decide (0 ≤ a ∧ a ≤ 15)) := by unfold I.isKey; rw [in_eq]; rfl
theorem l04Src_eq (a : Int) : S.l04Src a = some (decide (0 ≤ a ∧ a ≤ 3)) := by
  unfold S.l04Src; rw [cond_some, cond_and, dand]; congr 2; apply propext; omega
theorem l05Time_eq (a : Int) : S.l05Time a = some (decide (0 ≤ a ∧ a ≤ 1000)) := by unfold S.l05Time; rw [cond_some, cond_and, dand]
theorem l04Key_eq (a : Int) : S.l04Key a = some (decide (0 ≤ a ∧ a ≤ 15)) := by unfold S.l04Key; rw [cond_some, cond_and, dand]
def inI (n : Int) : Prop := -9223372036854775808 ≤ n ∧ n < 9223372036854775808
instance (n : Int) : Decidable (inI n) := by unfold inI; exact inferInstance
def inW (n : Int) : Prop := -170141183460469231731687303715884105728 ≤ n ∧ n < 170141183460469231731687303715884105728
def wd (n : Int) : Int × Int := (IntKind.i64.wrap (n / 18446744073709551616), n % 18446744073709551616)
theorem i64_u64 (n : Int) : IntKind.i64.wrap (IntKind.u64.wrap n) = IntKind.i64.wrap n := by rw [u64_mod, IntKind.wrap_i64, IntKind.wrap_i64]; omega
theorem u64_i64 (n : Int) : IntKind.u64.wrap (IntKind.i64.wrap n) = IntKind.u64.wrap n := by rw [u64_mod, u64_mod, IntKind.wrap_i64]; omega
theorem u64_add (a b : Int) : IntKind.u64.wrap (IntKind.u64.wrap a + IntKind.u64.wrap b) = IntKind.u64.wrap (a + b) := by simp only [u64_mod]; omega
theorem i64_add (a b : Int) : IntKind.i64.wrap (IntKind.i64.wrap a + b) = IntKind.i64.wrap (a + b) := by simp only [IntKind.wrap_i64]; omega
theorem i64_add2 (a b : Int) : IntKind.i64.wrap (a + IntKind.i64.wrap b) = IntKind.i64.wrap (a + b) := by simp only [IntKind.wrap_i64]; omega
theorem i64_range (n : Int) : inI (IntKind.i64.wrap n) := by unfold inI; rw [IntKind.wrap_i64]; omega
theorem wd_range (n : Int) : inI (wd n).1 ∧ 0 ≤ (wd n).2 ∧ (wd n).2 < 18446744073709551616 := ⟨i64_range _, by unfold wd; omega, by unfold wd; omega⟩
theorem wd_of {h l n : Int} (h0 : inI h) (h1 : 0 ≤ l) (h2 : l < 18446744073709551616) (hn : n = h * 18446744073709551616 + l) : (h, l) = wd n := by
  unfold inI at h0
  unfold wd
  have e1 : n / 18446744073709551616 = h := by omega
  have e2 : n % 18446744073709551616 = l := by omega
  rw [e1, e2, w64 h0.1 h0.2]
theorem wd_inj {m n : Int} (hm : inW m) (hn : inW n) (h : wd m = wd n) : m = n := by
  unfold inW at hm hn
  unfold wd at h
  simp only [Prod.mk.injEq, IntKind.wrap_i64] at h
  omega
theorem sWideOf_eq (n : Int) (h : inI n) : S.WideOf n = some (wd n) := by
  unfold inI at h
  unfold S.WideOf wd
  have e2 : IntKind.u64.wrap n = n % 18446744073709551616 := u64_mod n
  by_cases c : n < 0
  · rw [cdp c, e2, show n / 18446744073709551616 = -1 from by omega, w64 (by omega) (by omega)]
  · rw [cdn c, e2, show n / 18446744073709551616 = 0 from by omega, w64 (by omega) (by omega)]
theorem sWideAdd_eq (a b : Int) : S.WideAdd (wd a).1 (wd a).2 (wd b).1 (wd b).2 = some (wd (a + b)) := by
  unfold S.WideAdd wd
  simp only [u64_i64, u64_add, i64_u64]
  have ha := Int.mul_ediv_add_emod a 18446744073709551616
  have hb := Int.mul_ediv_add_emod b 18446744073709551616
  have ha2 := Int.emod_lt_of_pos a (show (0 : Int) < 18446744073709551616 by decide)
  have hb2 := Int.emod_lt_of_pos b (show (0 : Int) < 18446744073709551616 by decide)
  have ha0 := Int.emod_nonneg a (show (18446744073709551616 : Int) ≠ 0 by decide)
  have hb0 := Int.emod_nonneg b (show (18446744073709551616 : Int) ≠ 0 by decide)
  generalize a / 18446744073709551616 = A at *
  generalize a % 18446744073709551616 = p at *
  generalize b / 18446744073709551616 = B at *
  generalize b % 18446744073709551616 = q at *
  have e2 : IntKind.u64.wrap (p + q) = (a + b) % 18446744073709551616 := by rw [u64_mod]; omega
  by_cases c : IntKind.u64.wrap (p + q) < p
  · rw [cdp c, e2]
    rw [u64_mod] at c
    have e1 : (a + b) / 18446744073709551616 = A + B + 1 := by omega
    rw [e1]
    congr 2
    rw [u64_mod, IntKind.wrap_i64, IntKind.wrap_i64]
    omega
  · rw [cdn c, e2]
    rw [u64_mod] at c
    have e1 : (a + b) / 18446744073709551616 = A + B := by omega
    rw [e1]
theorem sWideNeg_eq (a : Int) : S.WideNeg (wd a).1 (wd a).2 = some (wd (-a)) := by
  unfold S.WideNeg
  have e1 : (IntKind.i64.wrap (-1 - (wd a).1), IntKind.u64.wrap (18446744073709551615 - (wd a).2)) = wd (-1 - a) := by
    unfold wd
    simp only [Prod.mk.injEq, u64_mod, IntKind.wrap_i64]
    omega
  have h1 := congrArg Prod.fst e1
  have h2 := congrArg Prod.snd e1
  simp only at h1 h2
  have e3 : wd 1 = (0, 1) := by decide
  have := sWideAdd_eq (-1 - a) 1
  rw [e3] at this
  rw [h1, h2, this, show -1 - a + 1 = -a from by omega]
  rfl
theorem sTimes_l (e : Int → Int → Int → Int → Option (Int × Int)) (c1 c2 : Int) (m : Nat) : ∀ (d x : Nat) (W A : Int), x < 2 ^ d → x < 18446744073709551616 →
    S.l03Times_l0 (d + 1 + m) e (x : Int) c1 c2 (wd W).1 (wd W).2 (wd A).1 (wd A).2 = e c1 c2 (wd (W + (x : Int) * A)).1 (wd (W + (x : Int) * A)).2 := by
  intro d
  induction d with
  | zero =>
    intro x W A hx hx2
    obtain rfl : x = 0 := by simpa using hx
    rw [show 0 + 1 + m = m + 1 from by omega, S.l03Times_l0, cdn (by omega)]
    simp
  | succ d ih =>
    intro x W A hx hx2
    rw [show d + 1 + 1 + m = (d + 1 + m) + 1 from by omega, S.l03Times_l0]
    by_cases c : ¬ 0 < x
    · obtain rfl : x = 0 := by omega
      rw [cdn (by omega)]; simp
    rw [cdp (by omega), cdn (by decide)]
    simp only [sWideAdd_eq, Option.bind_some]
    rw [tmod_nat _ _ (by omega), tdiv_nat _ _ (by omega), u64w (by omega) (by omega)]
    have hq : x / 2 < 2 ^ d := by rw [Nat.pow_succ] at hx; omega
    have hi := fun W' => ih (x / 2) W' (A + A) hq (by omega)
    rw [show (x : Int) / 2 = ((x / 2 : Nat) : Int) from by omega]
    by_cases c2 : (x : Int) % 2 = 1
    · rw [cep c2, cdn (by decide), hi]
      rw [show (x : Int) = 2 * ((x / 2 : Nat) : Int) + 1 from by omega, Int.add_mul, Int.mul_add, Int.mul_assoc, Int.one_mul]
      generalize ((x / 2 : Nat) : Int) * A = Y
      rw [show W + A + (Y + Y) = W + (2 * Y + A) from by omega]
    · rw [cen c2, cdn (by decide), hi]
      rw [show (x : Int) = 2 * ((x / 2 : Nat) : Int) from by omega, Int.mul_add, Int.mul_assoc]
      generalize ((x / 2 : Nat) : Int) * A = Y
      rw [show W + (Y + Y) = W + 2 * Y from by omega]
theorem sTimes_eq (a b : Int) (ha : inI a) (hb : inI b) : S.l03Times a b = some (wd (a * b)) := by
  unfold S.l03Times
  rw [sWideOf_eq a ha, Option.bind_some]
  obtain ⟨m, hm⟩ := fu_ge 64 (by omega)
  have e0 : wd 0 = (0, 0) := by decide
  have key := fun (x : Nat) (A : Int) (hx : x < 18446744073709551616) => sTimes_l (fun y22 y23 y24 y25 => some (y24, y25)) 0 0 m 64 x 0 A (by omega) hx
  simp only [e0] at key
  unfold inI at hb
  by_cases c : b < 0
  · obtain ⟨x, hx⟩ := Int.eq_ofNat_of_zero_le (show 0 ≤ -b from by omega)
    simp only []
    rw [cdp c, sWideNeg_eq, Option.bind_some, hm, show IntKind.u64.wrap (0 - IntKind.u64.wrap b) = (x : Int) from by simp only [u64_mod]; omega]
    refine (key x (-a) (by omega)).trans ?_
    rw [← hx, Int.neg_mul_neg, Int.mul_comm b a, Int.zero_add]
  · obtain ⟨x, hx⟩ := Int.eq_ofNat_of_zero_le (show 0 ≤ b from by omega)
    simp only []
    rw [cdn c, hm, show IntKind.u64.wrap b = (x : Int) from by simp only [u64_mod]; omega]
    refine (key x a (by omega)).trans ?_
    rw [← hx, Int.mul_comm b a, Int.zero_add]
theorem compareInt_eq (a b : Int) : G.cmp.Compare_int a b = some (cmpF a b) := by
  unfold G.cmp.Compare_int G.cmp.isNaN_int cmpF
  simp only [Option.bind_some, bne_self_eq_false, cond_false]
  by_cases h : a < b
  · rw [cdp h, if_pos h]
  · rw [cdn h, if_neg h]
    by_cases h2 : b < a
    · rw [cdp h2, if_pos h2]
    · rw [cdn h2, if_neg h2]
def orF : List Int → Int
  | [] => 0
  | x :: xs => if x ≠ 0 then x else orF xs
theorem orInt_eq (a : List Int) (hn : a.length ≤ 1000000000000) : G.cmp.Or_int a = some (orF a) := by
  unfold G.cmp.Or_int
  obtain ⟨M, hM⟩ := fu_ge a.length hn
  have h1 : ∀ k i : Nat, i + k = a.length → G.cmp.Or_int_l0 (k + 1 + M) (fun y10 y11 => some y10) (fun y12 => some y12) 0 (a.length : Int) (i : Int) a = some (orF (a.drop i)) := by
    intro k
    induction k with
    | zero =>
      intro i hi
      rw [show 0 + 1 + M = M + 1 from by omega, G.cmp.Or_int_l0, cdn (by omega), List.drop_of_length_le (by omega)]; rfl
    | succ k ih =>
      intro i hi
      rw [show k + 1 + 1 + M = (k + 1 + M) + 1 from by omega, G.cmp.Or_int_l0, cdp (by omega), cdp (by omega), drop_at a i 0 (by omega), orF]
      simp only []
      by_cases c : nthI a (i : Int) 0 = 0
      · rw [cnn c, if_neg (by simpa using c), w64 (by omega) (by omega)]
        exact ih (i + 1) (by omega)
      · rw [cnp c, if_pos c]
  rw [hM]
  exact h1 a.length 0 (by omega)
theorem xor_ones_i64 (x : Int) (h : inI x) : Go.bits .xor .i64 (-1) x = -1 - x := by
  unfold inI at h
  show IntKind.i64.wrap (((BitVec.ofInt 64 (-1)) ^^^ (BitVec.ofInt 64 x)).toNat : Int) = -1 - x
  have e : (BitVec.ofInt 64 (-1)) = BitVec.allOnes 64 := by decide
  have e2 : ((BitVec.ofInt 64 x).toNat : Int) = x % 18446744073709551616 := by rw [BitVec.toNat_ofInt]; omega
  rw [e, BitVec.xor_comm, BitVec.xor_allOnes, BitVec.toNat_not, IntKind.wrap_i64]
  omega
theorem xor_ones_u64 (x : Int) (h0 : 0 ≤ x) (h1 : x < 18446744073709551616) : Go.bits .xor .u64 18446744073709551615 x = 18446744073709551615 - x := by
  show IntKind.u64.wrap (((BitVec.ofInt 64 18446744073709551615) ^^^ (BitVec.ofInt 64 x)).toNat : Int) = _
  have e : (BitVec.ofInt 64 18446744073709551615) = BitVec.allOnes 64 := by decide
  have e2 : ((BitVec.ofInt 64 x).toNat : Int) = x % 18446744073709551616 := by rw [BitVec.toNat_ofInt]; omega
  rw [e, BitVec.xor_comm, BitVec.xor_allOnes, BitVec.toNat_not, u64_mod]
  omega
theorem iWideOf_eq (n : Int) (h : inI n) : I.WideOf n = some (wd n) := by
  unfold inI at h
  unfold I.WideOf wd
  rw [cdp (by decide), show (2 : Int) ^ min (Int.toNat 63) (IntKind.bits .i64) = 9223372036854775808 from by decide, Int.fdiv_eq_ediv_of_nonneg _ (by decide), u64_mod, IntKind.wrap_i64]
  congr 2
  omega
theorem iWideAdd_eq (a b : Int) : I.WideAdd (wd a).1 (wd a).2 (wd b).1 (wd b).2 = some (wd (a + b)) := by
  unfold I.WideAdd
  have ha := (wd_range a).2
  have hb := (wd_range b).2
  rw [cdp (by omega)]
  unfold wd
  simp only [i64_add, i64_add2, Int.add_zero]
  have e : a / 18446744073709551616 + b / 18446744073709551616 + (a % 18446744073709551616 + b % 18446744073709551616) / 18446744073709551616 = (a + b) / 18446744073709551616 := by omega
  have e2 : (a % 18446744073709551616 + b % 18446744073709551616) % 18446744073709551616 = (a + b) % 18446744073709551616 := by omega
  rw [e, e2]
theorem iWideNeg_eq (a : Int) : I.WideNeg (wd a).1 (wd a).2 = some (wd (-a)) := by
  unfold I.WideNeg
  have hr := wd_range a
  rw [show (if IntKind.signed .i64 then (-1 : Int) else IntKind.max .i64) = -1 from by decide, show (if IntKind.signed .u64 then (-1 : Int) else IntKind.max .u64) = 18446744073709551615 from by decide]
  simp only []
  rw [xor_ones_i64 _ hr.1, xor_ones_u64 _ hr.2.1 hr.2.2]
  have e1 : (-1 - (wd a).1, 18446744073709551615 - (wd a).2) = wd (-1 - a) := by
    unfold wd
    simp only [Prod.mk.injEq, IntKind.wrap_i64]
    omega
  have h1 := congrArg Prod.fst e1
  have h2 := congrArg Prod.snd e1
  simp only at h1 h2
  have e3 : wd 1 = (0, 1) := by decide
  have := iWideAdd_eq (-1 - a) 1
  rw [e3] at this
  rw [h1, h2, this, show -1 - a + 1 = -a from by omega]
  rfl
theorem and_low (x : Int) (h0 : 0 ≤ x) (h1 : x < 18446744073709551616) : Go.bits .and .u64 x 4294967295 = x % 4294967296 := by
  obtain ⟨n, rfl⟩ := Int.eq_ofNat_of_zero_le h0
  have := bits_and_u64_nat n 4294967295 (by omega) (by omega)
  rw [show (4294967295 : Nat) = 2 ^ 32 - 1 from by decide, Nat.and_two_pow_sub_one_eq_mod] at this
  exact this
theorem mul64_digits (a b : Int) (ha : 0 ≤ a) (ha2 : a < 18446744073709551616) (hb : 0 ≤ b) (hb2 : b < 18446744073709551616) :
    ∃ p q r s : Int, (a / 4294967296) * (b / 4294967296) = p ∧ (a / 4294967296) * (b % 4294967296) = q ∧ (a % 4294967296) * (b / 4294967296) = r ∧ (a % 4294967296) * (b % 4294967296) = s ∧
      a * b = p * 18446744073709551616 + (q + r) * 4294967296 + s ∧ 0 ≤ p ∧ p ≤ 18446744065119617025 ∧ 0 ≤ q ∧ q ≤ 18446744065119617025 ∧ 0 ≤ r ∧ r ≤ 18446744065119617025 ∧ 0 ≤ s ∧ s ≤ 18446744065119617025 := by
  have bd : ∀ x y : Int, 0 ≤ x → x ≤ 4294967295 → 0 ≤ y → y ≤ 4294967295 → 0 ≤ x * y ∧ x * y ≤ 18446744065119617025 := fun x y h1 h2 h3 h4 => ⟨Int.mul_nonneg h1 h3, Int.le_trans (Int.mul_le_mul h2 h4 h3 (by decide)) (by decide)⟩
  have e : a * b = (a / 4294967296 * 4294967296 + a % 4294967296) * (b / 4294967296 * 4294967296 + b % 4294967296) := by rw [Int.ediv_mul_add_emod, Int.ediv_mul_add_emod]
  have h1 := bd (a / 4294967296) (b / 4294967296) (by omega) (by omega) (by omega) (by omega)
  have h2 := bd (a / 4294967296) (b % 4294967296) (by omega) (by omega) (by omega) (by omega)
  have h3 := bd (a % 4294967296) (b / 4294967296) (by omega) (by omega) (by omega) (by omega)
  have h4 := bd (a % 4294967296) (b % 4294967296) (by omega) (by omega) (by omega) (by omega)
  refine ⟨_, _, _, _, rfl, rfl, rfl, rfl, ?_, h1.1, h1.2, h2.1, h2.2, h3.1, h3.2, h4.1, h4.2⟩
  rw [e]
  generalize a / 4294967296 = A
  generalize a % 4294967296 = C
  generalize b / 4294967296 = B
  generalize b % 4294967296 = D
  rw [Int.add_mul, Int.mul_add, Int.mul_add]
  rw [show A * 4294967296 * (B * 4294967296) = A * B * 18446744073709551616 from by rw [Int.mul_assoc, Int.mul_left_comm 4294967296 B, ← Int.mul_assoc, show (4294967296 : Int) * 4294967296 = 18446744073709551616 from by decide]]
  rw [show A * 4294967296 * D = A * D * 4294967296 from by rw [Int.mul_assoc, Int.mul_comm 4294967296 D, ← Int.mul_assoc], show C * (B * 4294967296) = C * B * 4294967296 from by rw [Int.mul_assoc]]
  omega
theorem mul64_eq (a b : Int) (ha : 0 ≤ a) (ha2 : a < 18446744073709551616) (hb : 0 ≤ b) (hb2 : b < 18446744073709551616) : G.bits.Mul64 a b = some (a * b / 18446744073709551616, a * b % 18446744073709551616) := by
  unfold G.bits.Mul64
  have h32 : (2 : Int) ^ min (Int.toNat 32) (IntKind.bits .u64) = 4294967296 := by decide
  have hd : decide ((0 : Int) ≤ 32) = true := by decide
  obtain ⟨p, q, r, s, e1, e2, e3, e4, e5, p0, p1, q0, q1, r0, r1, s0, s1⟩ := mul64_digits a b ha ha2 hb hb2
  have fd : ∀ x : Int, Int.fdiv x 4294967296 = x / 4294967296 := fun x => Int.fdiv_eq_ediv_of_nonneg _ (by decide)
  simp only [hd, cond_true, h32, fd, and_low a ha ha2, and_low b hb hb2, e1, e2, e3, e4]
  rw [u64w q0 (by omega), u64w s0 (by omega), u64w p0 (by omega), u64w r0 (by omega), u64w (n := q + s / 4294967296) (by omega) (by omega), and_low _ (by omega) (by omega), u64w (n := p + (q + s / 4294967296) / 4294967296) (by omega) (by omega), u64w (n := (q + s / 4294967296) % 4294967296 + r) (by omega) (by omega), u64w (by omega) (by omega), u64_mod, e5]
  congr 2
  omega
theorem iTimesW_eq (n m : Int) (hn : inI n) (hm : 0 ≤ m) (hm2 : m < 18446744073709551616) (hm3 : m ≤ 9223372036854775807) : I.wideTimes n m = some (wd (n * m)) := by
  unfold I.wideTimes
  unfold inI at hn
  have em : IntKind.u64.wrap m = m := u64w hm hm2
  have key : ∀ z : Int, 0 ≤ z → z ≤ 9223372036854775808 → (IntKind.i64.wrap (z * m / 18446744073709551616), z * m % 18446744073709551616) = wd (z * m) := fun z h0 h1 => rfl
  simp only [em]
  by_cases c : n < 0
  · rw [cdp c, show IntKind.u64.wrap (0 - IntKind.u64.wrap n) = -n from by simp only [u64_mod]; omega, mul64_eq (-n) m (by omega) (by omega) hm hm2, Option.bind_some, cdp c]
    have h1 : IntKind.i64.wrap (-n * m / 18446744073709551616) = (wd (-n * m)).1 := rfl
    have h2 : -n * m % 18446744073709551616 = (wd (-n * m)).2 := rfl
    simp only []
    rw [h1, h2, iWideNeg_eq, Int.neg_mul, Int.neg_neg]
    rfl
  · rw [cdn c, show IntKind.u64.wrap n = n from u64w (by omega) (by omega), mul64_eq n m (by omega) (by omega) hm hm2, Option.bind_some, cdn c]
    rfl
theorem compareU64_eq (a b : Int) : G.cmp.Compare_uint64 a b = some (cmpF a b) := by
  unfold G.cmp.Compare_uint64 G.cmp.isNaN_uint64 cmpF
  simp only [Option.bind_some, bne_self_eq_false, cond_false]
  by_cases h : a < b
  · rw [cdp h, if_pos h]
  · rw [cdn h, if_neg h]
    by_cases h2 : b < a
    · rw [cdp h2, if_pos h2]
    · rw [cdn h2, if_neg h2]
theorem wd_cmp {a b : Int} (ha : inW a) (hb : inW b) : (if (wd a).1 ≠ (wd b).1 then cmpF (wd a).1 (wd b).1 else cmpF (wd a).2 (wd b).2) = cmpF a b := by
  unfold inW at ha hb
  unfold wd cmpF
  simp only [IntKind.wrap_i64]
  split <;> (repeat' split) <;> first | rfl | omega
theorem cmpF_zero (a b : Int) : cmpF a b = 0 ↔ a = b := by unfold cmpF; split <;> (try split) <;> omega
theorem orF_two (x y : Int) : orF [x, y] = if x ≠ 0 then x else y := by
  by_cases h : x = 0 <;> by_cases h2 : y = 0 <;> simp [orF, h, h2]
theorem iWideCmp_eq {a b : Int} (ha : inW a) (hb : inW b) : I.WideCmp (wd a).1 (wd a).2 (wd b).1 (wd b).2 = some (cmpF a b) := by
  unfold I.WideCmp
  rw [compareInt_eq, compareU64_eq, Option.bind_some, Option.bind_some, orInt_eq _ (by simp), Option.bind_some, ← wd_cmp ha hb, orF_two]
  by_cases h : (wd a).1 = (wd b).1
  · rw [(cmpF_zero _ _).2 h, if_neg (by decide), if_neg (fun q => q h)]
  · rw [if_pos (fun q => h ((cmpF_zero _ _).1 q)), if_pos h]
theorem sWideCmp_eq {a b : Int} (ha : inW a) (hb : inW b) : S.WideCmp (wd a).1 (wd a).2 (wd b).1 (wd b).2 = some (cmpF a b) := by
  rw [← wd_cmp ha hb]
  unfold S.WideCmp cmpF
  by_cases h : (wd a).1 = (wd b).1
  · rw [cnn h, if_neg (by simpa using h)]
    by_cases h2 : (wd a).2 = (wd b).2
    · rw [cnn h2, if_neg (by omega), if_neg (by omega)]
    · rw [cnp h2]
      by_cases h3 : (wd a).2 < (wd b).2
      · rw [cdp h3, if_pos h3]
      · rw [cdn h3, if_neg h3, if_pos (by omega)]
  · rw [cnp h, if_pos h]
    by_cases h3 : (wd a).1 < (wd b).1
    · rw [cdp h3, if_pos h3]
    · rw [cdn h3, if_neg h3, if_pos (by omega)]
def lsum : List Int → Int
  | [] => 0
  | x :: xs => x + lsum xs
theorem lsum_bd {a : List Int} (h : ∀ x ∈ a, inI x) : -9223372036854775808 * (a.length : Int) ≤ lsum a ∧ lsum a ≤ 9223372036854775807 * (a.length : Int) := by
  induction a with
  | nil => simp [lsum]
  | cons x xs ih =>
    have h1 := ih fun y hy => h y (List.mem_cons_of_mem _ hy)
    have h2 := h x List.mem_cons_self
    unfold inI at h2
    simp only [lsum, List.length_cons]
    omega
def maxAt (xs : List Int) : Nat → Nat → Nat → Nat
  | 0, _, a => a
  | k + 1, i, a => maxAt xs k (i + 1) (if nthI xs (a : Int) 0 < nthI xs (i : Int) 0 then i else a)
theorem maxAt_ok (xs : List Int) : ∀ k i a : Nat, i + k = xs.length → a < xs.length → (∀ j : Nat, j < i → nthI xs (j : Int) 0 ≤ nthI xs (a : Int) 0 ∧ (j < a → nthI xs (j : Int) 0 < nthI xs (a : Int) 0)) → (a ≤ i) →
    maxAt xs k i a < xs.length ∧ ∀ j : Nat, j < xs.length → nthI xs (j : Int) 0 ≤ nthI xs ((maxAt xs k i a : Nat) : Int) 0 ∧ (j < maxAt xs k i a → nthI xs (j : Int) 0 < nthI xs ((maxAt xs k i a : Nat) : Int) 0) := by
  intro k
  induction k with
  | zero => intro i a hi ha h _; obtain rfl : i = xs.length := by omega
            exact ⟨ha, h⟩
  | succ k ih =>
    intro i a hi ha h hle
    rw [maxAt]
    by_cases c : nthI xs (a : Int) 0 < nthI xs (i : Int) 0
    · rw [if_pos c]
      refine ih (i + 1) i (by omega) (by omega) (fun j hj => ?_) (by omega)
      rcases Nat.lt_or_ge j i with h' | h'
      · have := (h j h').1; exact ⟨by omega, fun _ => by omega⟩
      · obtain rfl : j = i := by omega
        exact ⟨Int.le_refl _, fun h => by omega⟩
    · rw [if_neg c]
      refine ih (i + 1) a (by omega) ha (fun j hj => ?_) (by omega)
      rcases Nat.lt_or_ge j i with h' | h'
      · exact h j h'
      · obtain rfl : j = i := by omega
        exact ⟨by omega, fun h => by omega⟩
def sel : Nat → List Int → List Int
  | 0, _ => []
  | n + 1, all => if all = [] then [] else nthI all ((maxAt all all.length 0 0 : Nat) : Int) 0 :: sel n (all.take (maxAt all all.length 0 0) ++ all.drop (maxAt all all.length 0 0 + 1))
theorem sel_length : ∀ n all, (sel n all).length ≤ n
  | 0, _ => by simp [sel]
  | n + 1, all => by
    rw [sel]
    split
    · simp
    · have := sel_length n (all.take (maxAt all all.length 0 0) ++ all.drop (maxAt all all.length 0 0 + 1))
      simp only [List.length_cons]; omega
def descB : List Int → Bool
  | [] => true
  | x :: xs => (xs.all fun y => decide (y ≤ x)) && descB xs
theorem sel_eq : ∀ n all, all.length ≤ n → (sel n all = all ↔ descB all = true)
  | 0, [], _ => by simp [sel, descB]
  | 0, x :: xs, h => by simp at h
  | n + 1, [], _ => by simp [sel, descB]
  | n + 1, x :: xs, h => by
    have hm := maxAt_ok (x :: xs) (x :: xs).length 0 0 (by omega) (by simp) (fun j hj => by omega) (by omega)
    have ih := sel_eq n xs (by simp at h; omega)
    rw [sel, if_neg (by simp)]
    generalize maxAt (x :: xs) (x :: xs).length 0 0 = a at *
    have h0 : nthI (x :: xs) ((0 : Nat) : Int) 0 = x := rfl
    have hj : ∀ y ∈ xs, ∃ j : Nat, j + 1 < (x :: xs).length ∧ nthI (x :: xs) ((j + 1 : Nat) : Int) 0 = y := fun y hy => by
      obtain ⟨j, hj, e⟩ := List.getElem_of_mem hy
      refine ⟨j, by simp; omega, ?_⟩
      rw [nthI_nat, List.getD_cons_succ, List.getD_eq_getElem?_getD, List.getElem?_eq_getElem hj, e]; rfl
    rw [descB, Bool.and_eq_true, List.all_eq_true]
    constructor
    · intro e
      injection e with e1 e2
      have ha : a = 0 := by
        rcases Nat.eq_zero_or_pos a with h' | h'
        · exact h'
        · have := (hm.2 0 (by simp)).2 h'
          rw [h0] at this; omega
      subst ha
      refine ⟨fun y hy => ?_, ih.1 (by simpa using e2)⟩
      obtain ⟨j, hj1, hj2⟩ := hj y hy
      have := (hm.2 (j + 1) hj1).1
      rw [hj2, h0] at this
      exact decide_eq_true this
    · rintro ⟨h1, h2⟩
      have ha : a = 0 := by
        rcases Nat.eq_zero_or_pos a with h' | h'
        · exact h'
        · have h3 := (hm.2 0 (by simp)).2 h'
          rw [h0] at h3
          obtain ⟨b, rfl⟩ : ∃ b, a = b + 1 := ⟨a - 1, by omega⟩
          have hb : b < xs.length := by have := hm.1; simp at this; omega
          have e : nthI (x :: xs) ((b + 1 : Nat) : Int) 0 = xs[b] := by
            rw [nthI_nat, List.getD_cons_succ, List.getD_eq_getElem?_getD, List.getElem?_eq_getElem hb]; rfl
          rw [e] at h3
          have := of_decide_eq_true (h1 _ (List.getElem_mem hb))
          omega
      subst ha
      rw [h0]
      simp only [List.take_zero, List.nil_append, List.drop_succ_cons, List.drop_zero, Nat.zero_add]
      rw [ih.2 h2]
theorem sTop_l1 (e : Int → List Int → List Int → Option (List Int)) (m : Nat) (xs acc : List Int) (hx : xs.length ≤ 1000000000000) : ∀ k i a : Nat, i + k = xs.length → a < xs.length → S.TopOf_l1 (k + 1 + m) e (a : Int) (i : Int) xs acc = e ((maxAt xs k i a : Nat) : Int) xs acc := by
  intro k
  induction k with
  | zero =>
    intro i a hi ha
    rw [show 0 + 1 + m = m + 1 from by omega, S.TopOf_l1, cdn (by omega)]; rfl
  | succ k ih =>
    intro i a hi ha
    rw [show k + 1 + 1 + m = (k + 1 + m) + 1 from by omega, S.TopOf_l1, cdp (by omega), cdp (by omega), cdp (by omega), w64 (by omega) (by omega), maxAt]
    simp only []
    by_cases c : nthI xs (a : Int) 0 < nthI xs (i : Int) 0
    · rw [cdp c, if_pos c]; exact ih (i + 1) i (by omega) (by omega)
    · rw [cdn c, if_neg c]; exact ih (i + 1) a (by omega) ha
theorem sTop_l0 (m : Nat) : ∀ (d : Nat) (all out : List Int), out.length + d = 4 → all.length ≤ 1000000000 → S.TopOf_l0 (d + 1 + m) (fun y => some y) all out = some (out ++ sel d all) := by
  intro d
  induction d with
  | zero =>
    intro all out ho ha
    rw [show 0 + 1 + m = m + 1 from by omega, S.TopOf_l0, cdn (by omega)]; simp [sel]
  | succ d ih =>
    intro all out ho ha
    rw [show d + 1 + 1 + m = (d + 1 + m) + 1 from by omega, S.TopOf_l0, cdp (by omega), sel]
    by_cases c : all = []
    · subst c
      rw [cdn (by simp), if_pos rfl]; simp
    · have hp : 0 < all.length := List.length_pos_iff.2 c
      obtain ⟨M, hM⟩ := fu_ge all.length (by omega)
      rw [cdp (by omega), if_neg c, hM]
      refine (sTop_l1 _ M all out (by omega) all.length 0 0 (by omega) hp).trans ?_
      have hm := (maxAt_ok all all.length 0 0 (by omega) hp (fun j hj => by omega) (by omega)).1
      generalize maxAt all all.length 0 0 = a at *
      have e1 : IntKind.i64.wrap ((a : Int) + 1) = ((a + 1 : Nat) : Int) := by rw [w64 (by omega) (by omega)]; omega
      simp only [e1, Int.toNat_natCast, List.nil_append]
      rw [cdp (by omega), cdp (by simp; omega), cdp (by omega), cdp (by omega), cdp (by simp; omega), cdp (by simp; omega)]
      rw [show Int.toNat 0 = 0 from rfl, List.drop_zero, List.take_of_length_le (Nat.le_refl all.length)]
      refine (ih _ _ (by simp; omega) (by simp; omega)).trans ?_
      simp
theorem sTopOf_eq (a b : List Int) (h : a.length + b.length ≤ 1000000000) : S.TopOf a b = some (sel 4 (a ++ b)) := by
  unfold S.TopOf
  obtain ⟨m, hm⟩ := fu_ge 4 (by omega)
  simp only [List.nil_append]
  rw [cdp (by simp; omega), cdp (by omega), hm]
  exact sTop_l0 m 4 (a ++ b) [] rfl (by rw [List.length_append]; omega)
theorem sSame_eq (a b : List Int) (hc : a.length ≤ 1000000000000) : S.l07Same a b = some (decide (a = b)) := by
  unfold S.l07Same
  refine eqTop a b ?_
  intro hl
  refine eqLoop (fun m i => S.l07Same_l0 m (fun y => some y) (some true) i a b) a b (0 : Int) hl hc (fun i m hi => ?_) (fun m => ?_)
  · show S.l07Same_l0 (m + 1) _ _ _ _ _ = bif _ then S.l07Same_l0 m _ _ _ _ _ else _
    rw [S.l07Same_l0, cdp (by omega), cdp (by omega), cdp (by omega), cneI, w64 (by omega) (by omega)]
    rfl
  · show S.l07Same_l0 (m + 1) _ _ _ _ _ = _
    rw [S.l07Same_l0, cdn (by omega)]
def aggOk (N h l mn mx : Int) (top : List Int) : Prop :=
  (N = 0 ∧ h = 0 ∧ l = 0 ∧ mn = 0 ∧ mx = 0 ∧ top.length = 0) ∨
  ((1 ≤ N ∧ N ≤ 1000000) ∧ (top.length : Int) = (if 4 < N then 4 else N) ∧ descB top = true ∧ nthI top 0 0 = mx ∧ mn ≤ nthI top ((top.length - 1 : Nat) : Int) 0 ∧
    if N ≤ 4 then mn = nthI top ((top.length - 1 : Nat) : Int) 0 ∧ h * 18446744073709551616 + l = lsum top
    else lsum top + mn + mn * (N - 5) ≤ h * 18446744073709551616 + l ∧ h * 18446744073709551616 + l ≤ lsum top + mn + nthI top ((top.length - 1 : Nat) : Int) 0 * (N - 5))
instance (N h l mn mx : Int) (top : List Int) : Decidable (aggOk N h l mn mx top) := by unfold aggOk; exact inferInstance
def descI (a : List Int) (i : Nat) : Prop := ∀ j : Nat, i ≤ j → j < a.length → 0 < j → nthI a (j : Int) 0 ≤ nthI a ((j - 1 : Nat) : Int) 0
theorem descB_cons : ∀ (x : Int) (xs : List Int), descB (x :: xs) = true ↔ (∀ y ∈ xs, y ≤ x) ∧ descB xs = true := fun x xs => by
  rw [descB, Bool.and_eq_true, List.all_eq_true]
  simp only [decide_eq_true_eq]
theorem descI_cons (x y : Int) (xs : List Int) : descI (x :: y :: xs) 0 ↔ y ≤ x ∧ descI (y :: xs) 0 := by
  constructor
  · intro h
    refine ⟨h 1 (by omega) (by simp) (by omega), fun j _ hj h0 => ?_⟩
    obtain ⟨i, rfl⟩ : ∃ i, j = i + 1 := ⟨j - 1, by omega⟩
    exact h (i + 2) (by omega) (by simp at hj ⊢; omega) (by omega)
  · rintro ⟨h1, h2⟩ j _ hj h0
    obtain ⟨i, rfl⟩ : ∃ i, j = i + 1 := ⟨j - 1, by omega⟩
    rcases Nat.eq_zero_or_pos i with rfl | hi
    · exact h1
    · have := h2 i (by omega) (by simp at hj ⊢; omega) hi
      obtain ⟨k, rfl⟩ : ∃ k, i = k + 1 := ⟨i - 1, by omega⟩
      exact this
theorem descI_iff : ∀ a : List Int, descI a 0 ↔ descB a = true
  | [] => by simp [descI, descB]
  | [x] => by
    simp only [descB, List.all_nil, Bool.and_self, iff_true]
    intro j _ hj h0; simp at hj; omega
  | x :: y :: xs => by
    rw [descI_cons, descB_cons, descI_iff (y :: xs)]
    constructor
    · rintro ⟨h1, h2⟩
      refine ⟨fun z hz => ?_, h2⟩
      rcases List.mem_cons.1 hz with rfl | hz
      · exact h1
      · have := ((descB_cons y xs).1 h2).1 z hz; omega
    · rintro ⟨h1, h2⟩; exact ⟨h1 y List.mem_cons_self, h2⟩
section
variable (top : List Int) (ht : ∀ x ∈ top, inI x) (hl : top.length ≤ 4)
include ht hl
theorem sAgg_l (e : Int → Int → Int → Int → Int → Int → Int → List Int → Option Bool) (c1 c2 c3 c4 c5 : Int) (m : Nat) : ∀ (d i : Nat) (V : Int), i + d = top.length → S.AggOk_l0 (d + 1 + m) e (i : Int) c1 c2 c3 c4 c5 (wd V).1 (wd V).2 top = e c1 c2 c3 c4 c5 (wd (V + lsum (top.drop i))).1 (wd (V + lsum (top.drop i))).2 top := by
  intro d
  induction d with
  | zero =>
    intro i V hi
    rw [show 0 + 1 + m = m + 1 from by omega, S.AggOk_l0, cdn (by omega), List.drop_of_length_le (by omega)]
    simp [lsum]
  | succ d ih =>
    intro i V hi
    rw [show d + 1 + 1 + m = (d + 1 + m) + 1 from by omega, S.AggOk_l0, cdp (by omega), cdp (by omega), sWideOf_eq _ (ht _ (nthI_mem top i 0 (by omega))), Option.bind_some, sWideAdd_eq, Option.bind_some, w64 (by omega) (by omega)]
    refine (ih (i + 1) _ (by omega)).trans ?_
    rw [drop_at top i 0 (by omega), lsum, Int.add_assoc]
theorem iAgg_l (e0 : Bool → Int → Int → Int → Int → Int → Int → Int → List Int → Option Bool) (e1 : Int → Int → Int → Int → Int → Int → Int → List Int → Option Bool) (c1 c2 c3 c4 c5 : Int) (he : ∀ a b c d e f g h, e0 false a b c d e f g h = some false) (m : Nat) : ∀ (d i : Nat) (V : Int), i + d = top.length →
    (descI top i → I.isAgg_l0 (d + 1 + m) e0 e1 (top.length : Int) (i : Int) c1 c2 c3 c4 c5 (wd V).1 (wd V).2 top = e1 c1 c2 c3 c4 c5 (wd (V - lsum (top.drop i))).1 (wd (V - lsum (top.drop i))).2 top) ∧
    (¬ descI top i → I.isAgg_l0 (d + 1 + m) e0 e1 (top.length : Int) (i : Int) c1 c2 c3 c4 c5 (wd V).1 (wd V).2 top = some false) := by
  intro d
  induction d with
  | zero =>
    intro i V hi
    rw [show 0 + 1 + m = m + 1 from by omega, I.isAgg_l0, cdn (by omega), List.drop_of_length_le (by omega)]
    exact ⟨fun _ => by simp [lsum], fun h => absurd (fun j h1 h2 => by omega) h⟩
  | succ d ih =>
    intro i V hi
    have hx := ht _ (nthI_mem top i 0 (by omega))
    have next : V + -nthI top (i : Int) 0 - lsum (top.drop (i + 1)) = V - lsum (top.drop i) := by
      rw [drop_at top i 0 (by omega), lsum]; omega
    have hgo := ih (i + 1) (V + -nthI top (i : Int) 0) (by omega)
    rw [next] at hgo
    rw [show d + 1 + 1 + m = (d + 1 + m) + 1 from by omega, I.isAgg_l0, cdp (by omega), cdp (by omega)]
    simp only [iWideOf_eq _ hx, Option.bind_some, iWideNeg_eq, iWideAdd_eq]
    rw [w64 (n := (i : Int) + 1) (by omega) (by omega)]
    by_cases c : 0 < i
    · rw [cdp (by omega), w64 (by omega) (by omega), cdp (by omega), show (i : Int) - 1 = ((i - 1 : Nat) : Int) from by omega]
      by_cases c2 : nthI top ((i - 1 : Nat) : Int) 0 < nthI top (i : Int) 0
      · rw [cdp c2, he]
        exact ⟨fun h => by have := h i (Nat.le_refl _) (by omega) c; omega, fun _ => rfl⟩
      · rw [cdn c2]
        refine ⟨fun h => hgo.1 fun j h1 => h j (by omega), fun h => hgo.2 fun h' => h fun j h1 h2 h3 => ?_⟩
        rcases Nat.lt_or_ge i j with h4 | h4
        · exact h' j (by omega) h2 h3
        · obtain rfl : j = i := by omega
          omega
    · rw [cdn (by omega)]
      refine ⟨fun h => hgo.1 fun j h1 => h j (by omega), fun h => hgo.2 fun h' => h fun j h1 h2 h3 => h' j (by omega) h2 h3⟩
end
theorem wd_red (V : Int) (h0 : -340282366920938463463374607431768211456 ≤ V) (h1 : V < 340282366920938463463374607431768211456) : ∃ V3, inW V3 ∧ wd V = wd V3 ∧ (V3 = V ∨ V3 = V - 340282366920938463463374607431768211456 ∨ V3 = V + 340282366920938463463374607431768211456) := by
  have per : ∀ X : Int, wd (X + 340282366920938463463374607431768211456) = wd X := fun X => by
    unfold wd
    simp only [Prod.mk.injEq, IntKind.wrap_i64]
    omega
  unfold inW
  by_cases c : V < -170141183460469231731687303715884105728
  · exact ⟨V + 340282366920938463463374607431768211456, by omega, (per V).symm, .inr (.inr rfl)⟩
  · by_cases c2 : 170141183460469231731687303715884105728 ≤ V
    · refine ⟨V - 340282366920938463463374607431768211456, by omega, ?_, .inr (.inl rfl)⟩
      have := per (V - 340282366920938463463374607431768211456)
      rw [show V - 340282366920938463463374607431768211456 + 340282366920938463463374607431768211456 = V from by omega] at this
      exact this
    · exact ⟨V, by omega, rfl, .inl rfl⟩
theorem cmpF_le (a b : Int) : cmpF a b ≤ 0 ↔ a ≤ b := by unfold cmpF; split <;> (try split) <;> omega
theorem cmpF_ge (a b : Int) : 0 ≤ cmpF a b ↔ b ≤ a := by unfold cmpF; split <;> (try split) <;> omega
theorem many_bd {x n : Int} (hx : inI x) (h0 : 0 ≤ n) (h1 : n ≤ 1000000) : -9223372036854775808000000 ≤ x * n ∧ x * n ≤ 9223372036854775808000000 := by
  have h2 : x.natAbs ≤ 9223372036854775808 := by unfold inI at hx; omega
  have h3 : (x * n).natAbs ≤ 9223372036854775808 * 1000000 := by rw [Int.natAbs_mul]; exact Nat.mul_le_mul h2 (by omega)
  omega
section
variable (N h l mn mx : Int) (top : List Int) (hN : inI N) (hh : inI h) (hl0 : 0 ≤ l) (hl1 : l < 18446744073709551616) (hmn : inI mn) (ht : ∀ x ∈ top, inI x) (hl : top.length ≤ 1000000000)
include hN hh hl0 hl1 hmn ht hl
theorem iAggOk_eq : I.isAgg N h l mn mx top = some (decide (aggOk N h l mn mx top)) := by
  unfold I.isAgg
  by_cases c0 : N = 0
  · rw [cep c0]
    have hz : ∀ x : Int, (x == 0) = decide (x = 0) := fun x => by rw [Bool.eq_iff_iff]; simp
    simp only [hz, Bool.and_true, dand, cds]
    refine sdec ?_
    unfold aggOk
    constructor
    · rintro ⟨⟨h1, h2⟩, h3, h4, h5⟩; exact .inl ⟨c0, h1, h2, h3, h4, by omega⟩
    · rintro (⟨_, h1, h2, h3, h4, h5⟩ | ⟨h1, _⟩)
      · exact ⟨⟨h1, h2⟩, h3, h4, by omega⟩
      · omega
  rw [cen c0, in_eq, Option.bind_some]
  by_cases c1 : ¬ (1 ≤ N ∧ N ≤ 1000000)
  · rw [decide_eq_false c1, Bool.not_false, cond_true]
    exact sfal fun h => by unfold aggOk at h; rcases h with h | h <;> omega
  have c1 := Decidable.not_not.1 c1
  rw [decide_eq_true c1, Bool.not_true, cond_false]
  by_cases c2 : ¬ (top.length : Int) = (if 4 < N then 4 else N)
  · rw [cnp c2]
    exact sfal fun h => by
      unfold aggOk at h
      rcases h with h | h
      · omega
      · exact c2 h.2.1
  have c2 := Decidable.not_not.1 c2
  have hlen : 1 ≤ top.length ∧ top.length ≤ 4 := by split at c2 <;> omega
  rw [cnn c2, cdp (by omega)]
  by_cases c3 : ¬ nthI top 0 0 = mx
  · rw [cnp c3]
    exact sfal fun h => by
      unfold aggOk at h
      rcases h with h | h
      · omega
      · exact c3 h.2.2.2.1
  have c3 := Decidable.not_not.1 c3
  rw [cnn c3]
  obtain ⟨W, hW⟩ : ∃ W, W = h * 18446744073709551616 + l := ⟨_, rfl⟩
  have hw := wd_of hh hl0 hl1 hW
  obtain ⟨m, hm⟩ := fu_ge top.length (by omega)
  rw [hm]
  have hloop := iAgg_l top ht hlen.2 (fun y37 y38 y39 y40 y41 y42 y43 y44 y45 => some y37) (fun y46 y47 y48 y49 y50 y51 y52 y53 =>
    (let v55 : Int := (IntKind.wrap .i64 ((y53.length : Int) - 1))
    (bif decide ((0 : Int) ≤ v55 ∧ v55 < (y53.length : Int)) then
    (let v56 : Int := (nthI y53 v55 (0 : Int))
    (bif (decide (y46 ≤ 4)) then
    (bif (y49 == v56) then
    (some ((y51 == 0) && ((y52 == 0) && true)))
    else
    (some false))
    else
    (let v60 : Int := (IntKind.wrap .i64 ((IntKind.wrap .i64 (y46 - 4)) - 1))
    (Option.bind (I.WideOf y49) fun r61 =>
    (Option.bind (I.WideNeg r61.1 r61.2) fun r62 =>
    (Option.bind (I.WideAdd y51 y52 r62.1 r62.2) fun r63 =>
    (bif (decide (y49 ≤ v56)) then
    (Option.bind (I.wideTimes y49 v60) fun r65 =>
    (Option.bind (I.WideCmp r65.1 r65.2 r63.1 r63.2) fun r66 =>
    (bif (decide (r66 ≤ 0)) then
    (Option.bind (I.wideTimes v56 v60) fun r68 =>
    (Option.bind (I.WideCmp r63.1 r63.2 r68.1 r68.2) fun r69 =>
    (some (decide (r69 ≤ 0)))))
    else
    (some false))))
    else
    (some false))))))))
    else
    none))) N h l mn mx (fun _ _ _ _ _ _ _ _ => rfl) m top.length 0 W (by omega)
  rw [← hw, List.drop_zero] at hloop
  by_cases c4 : ¬ descI top 0
  · refine (hloop.2 c4).trans (sfal fun h => ?_)
    unfold aggOk at h
    rcases h with h | h
    · omega
    · exact c4 ((descI_iff top).2 h.2.2.1)
  have c4 := Classical.not_not.1 c4
  refine (hloop.1 c4).trans ?_
  have hs := lsum_bd ht
  have e1 : IntKind.i64.wrap ((top.length : Int) - 1) = ((top.length - 1 : Nat) : Int) := by rw [w64 (by omega) (by omega)]; omega
  have hlast := ht _ (nthI_mem top (top.length - 1) 0 (by omega))
  have hWr : inW W := by unfold inI at hh; unfold inW; omega
  simp only [e1]
  rw [cdp (by omega)]
  have hA : ∀ (q : Prop), (aggOk N h l mn mx top ↔ mn ≤ nthI top ((top.length - 1 : Nat) : Int) 0 ∧ if N ≤ 4 then mn = nthI top ((top.length - 1 : Nat) : Int) 0 ∧ W = lsum top else lsum top + mn + mn * (N - 5) ≤ W ∧ W ≤ lsum top + mn + nthI top ((top.length - 1 : Nat) : Int) 0 * (N - 5)) := fun q => by
    unfold aggOk
    rw [← hW]
    constructor
    · rintro (h | ⟨_, _, _, _, h5, h6⟩)
      · omega
      · exact ⟨h5, h6⟩
    · rintro ⟨h5, h6⟩
      exact .inr ⟨c1, c2, (descI_iff top).1 c4, c3, h5, h6⟩
  have hA := hA True
  unfold inW at hWr
  by_cases c5 : N ≤ 4
  · rw [cdp c5]
    rw [if_pos c5] at hA
    by_cases c6 : mn = nthI top ((top.length - 1 : Nat) : Int) 0
    · rw [cep c6]
      refine sbool (Iff.trans ?_ hA.symm)
      simp only [Bool.and_true, Bool.and_eq_true, beq_iff_eq]
      obtain ⟨V3, h1, h2, h3⟩ := wd_red (W - lsum top) (by omega) (by omega)
      have e0 : wd 0 = (0, 0) := by decide
      constructor
      · rintro ⟨q1, q2⟩
        have : wd V3 = wd 0 := by rw [← h2, e0]; exact Prod.ext q1 q2
        have := wd_inj h1 (by unfold inW; omega) this
        exact ⟨by omega, c6, by omega⟩
      · rintro ⟨_, _, q⟩
        rw [show W - lsum top = 0 from by omega, e0]; exact ⟨rfl, rfl⟩
    · rw [cen c6]
      exact sfal fun h => c6 (hA.1 h).2.1
  · rw [cdn c5]
    rw [if_neg c5] at hA
    have e2 : IntKind.i64.wrap (IntKind.i64.wrap (N - 4) - 1) = N - 5 := by rw [w64 (n := N - 4) (by omega) (by omega), w64 (by omega) (by omega)]; omega
    simp only [e2]
    rw [iWideOf_eq _ hmn, Option.bind_some, iWideNeg_eq, Option.bind_some, iWideAdd_eq, Option.bind_some]
    by_cases c6 : mn ≤ nthI top ((top.length - 1 : Nat) : Int) 0
    · rw [cdp c6, iTimesW_eq _ _ hmn (by omega) (by omega) (by omega), iTimesW_eq _ _ hlast (by omega) (by omega) (by omega)]
      have b1 := many_bd hmn (show 0 ≤ N - 5 by omega) (by omega)
      have b2 := many_bd hlast (show 0 ≤ N - 5 by omega) (by omega)
      unfold inI at hmn
      obtain ⟨V3, h1, h2, h3⟩ := wd_red (W - lsum top + -mn) (by omega) (by omega)
      generalize mn * (N - 5) = p at *
      generalize nthI top ((top.length - 1 : Nat) : Int) 0 * (N - 5) = q at *
      rw [h2]
      simp only [Option.bind_some]
      rw [iWideCmp_eq (show inW p by unfold inW; omega) h1, Option.bind_some, iWideCmp_eq h1 (show inW q by unfold inW; omega), Option.bind_some, cds]
      refine sdec (Iff.trans ?_ hA.symm)
      rw [cmpF_le, cmpF_le]
      unfold inW at h1
      constructor
      · rintro ⟨q1, q2⟩; exact ⟨c6, by omega, by omega⟩
      · rintro ⟨_, q1, q2⟩; constructor <;> omega
    · rw [cdn c6]
      exact sfal fun h => c6 (hA.1 h).1
theorem sAggOk_eq : S.AggOk N h l mn mx top = some (decide (aggOk N h l mn mx top)) := by
  unfold S.AggOk
  by_cases c1 : N < 0
  · rw [cdp c1]; exact sfal fun h => by unfold aggOk at h; rcases h with h | h <;> omega
  rw [cdn c1]
  by_cases c1b : 1000000 < N
  · rw [cdp c1b]; exact sfal fun h => by unfold aggOk at h; rcases h with h | h <;> omega
  rw [cdn c1b]
  by_cases c2 : ¬ (top.length : Int) = (if 4 < N then 4 else N)
  · rw [cnp c2]
    exact sfal fun h => by
      unfold aggOk at h
      rcases h with h | h
      · rw [if_neg (by omega)] at c2; omega
      · exact c2 h.2.1
  have c2 := Decidable.not_not.1 c2
  rw [cnn c2]
  by_cases c0 : N = 0
  · rw [cep c0]
    have hz : ∀ x : Int, (x == 0) = decide (x = 0) := fun x => by rw [Bool.eq_iff_iff]; simp
    simp only [hz, Bool.and_true, dand, cds]
    refine sdec ?_
    rw [if_neg (by omega)] at c2
    unfold aggOk
    constructor
    · rintro ⟨⟨h1, h2⟩, h3, h4⟩; exact .inl ⟨c0, h1, h2, h3, h4, by omega⟩
    · rintro (⟨_, h1, h2, h3, h4, h5⟩ | ⟨h1, _⟩)
      · exact ⟨⟨h1, h2⟩, h3, h4⟩
      · omega
  rw [cen c0]
  have hlen : 1 ≤ top.length ∧ top.length ≤ 4 := by split at c2 <;> omega
  have hsl := sel_length 4 (top ++ [])
  rw [sTopOf_eq top [] (by simp; omega), Option.bind_some, sSame_eq _ _ (by omega), Option.bind_some, List.append_nil]
  by_cases c4 : ¬ sel 4 top = top
  · rw [decide_eq_false c4, Bool.not_false, cond_true]
    refine sfal fun h => ?_
    unfold aggOk at h
    rcases h with h | h
    · omega
    · exact c4 ((sel_eq 4 top hlen.2).2 h.2.2.1)
  have c4 := Decidable.not_not.1 c4
  rw [decide_eq_true c4, Bool.not_true, cond_false, cdp (by omega)]
  have c4 := (sel_eq 4 top hlen.2).1 c4
  by_cases c3 : ¬ nthI top 0 0 = mx
  · rw [cnp c3]
    exact sfal fun h => by
      unfold aggOk at h
      rcases h with h | h
      · omega
      · exact c3 h.2.2.2.1
  have c3 := Decidable.not_not.1 c3
  have e1 : IntKind.i64.wrap ((top.length : Int) - 1) = ((top.length - 1 : Nat) : Int) := by rw [w64 (by omega) (by omega)]; omega
  rw [cnn c3]
  simp only [e1]
  rw [cdp (by omega)]
  by_cases c6 : nthI top ((top.length - 1 : Nat) : Int) 0 < mn
  · rw [cdp c6]
    exact sfal fun h => by
      unfold aggOk at h
      rcases h with h | h
      · omega
      · have := h.2.2.2.2.1; omega
  rw [cdn c6]
  obtain ⟨W, hW⟩ : ∃ W, W = h * 18446744073709551616 + l := ⟨_, rfl⟩
  have hw := wd_of hh hl0 hl1 hW
  obtain ⟨m, hm⟩ := fu_ge top.length (by omega)
  have hloop := fun e => sAgg_l top ht hlen.2 e N h l mn mx m top.length 0 0 (by omega)
  rw [show wd 0 = (0, 0) from by decide, List.drop_zero, Int.zero_add] at hloop
  rw [hm]
  refine (hloop _).trans ?_
  have hs := lsum_bd ht
  have hlast := ht _ (nthI_mem top (top.length - 1) 0 (by omega))
  have hWr : inW W := by unfold inI at hh; unfold inW; omega
  have hA : aggOk N h l mn mx top ↔ if N ≤ 4 then mn = nthI top ((top.length - 1 : Nat) : Int) 0 ∧ W = lsum top else lsum top + mn + mn * (N - 5) ≤ W ∧ W ≤ lsum top + mn + nthI top ((top.length - 1 : Nat) : Int) 0 * (N - 5) := by
    unfold aggOk
    rw [← hW]
    constructor
    · rintro (h | ⟨_, _, _, _, h5, h6⟩)
      · omega
      · exact h6
    · intro h6
      exact .inr ⟨by omega, c2, c4, c3, by omega, h6⟩
  have e2 : IntKind.i64.wrap (N - (top.length : Int)) = N - (top.length : Int) := w64 (by omega) (by omega)
  have hwr : ∀ X : Int, (h == (wd X).1 && (l == (wd X).2 && true)) = decide (wd W = wd X) := fun X => by
    rw [← hw, Bool.eq_iff_iff]
    simp only [Bool.and_true, Bool.and_eq_true, beq_iff_eq, decide_eq_true_eq, Prod.ext_iff]
  have hcmp : ∀ X : Int, inW X → S.WideCmp h l (wd X).1 (wd X).2 = some (cmpF W X) := fun X hX => by
    have := sWideCmp_eq hWr hX
    rwa [← hw] at this
  simp only [e1, e2, hwr, dup_eq, same_self]
  by_cases c5 : N ≤ 4
  · rw [if_pos c5] at hA
    rw [if_neg (by omega)] at c2
    rw [cep (by omega), cdp (by omega)]
    by_cases c7 : mn = nthI top ((top.length - 1 : Nat) : Int) 0
    · rw [cep c7]
      refine sdec (Iff.trans ?_ hA.symm)
      constructor
      · intro q; exact ⟨c7, wd_inj hWr (by unfold inW; omega) q⟩
      · rintro ⟨_, q⟩; rw [q]
    · rw [cen c7]
      exact sfal fun h => c7 (hA.1 h).1
  · rw [if_neg c5] at hA
    rw [if_pos (by omega)] at c2
    have hl4 : top.length = 4 := by omega
    have e3 : IntKind.i64.wrap (N - (top.length : Int) - 1) = N - 5 := by rw [w64 (by omega) (by omega)]; omega
    have b1 := many_bd hmn (show 0 ≤ N - 5 by omega) (by omega)
    have b2 := many_bd hlast (show 0 ≤ N - 5 by omega) (by omega)
    have ht1 : S.l07Times (N - (top.length : Int)) mn = some (wd (mn * (N - 5) + mn)) := by
      unfold S.l07Times
      rw [sTimes_eq _ _ (by unfold inI; omega) hmn, show (N - (top.length : Int)) * mn = mn * (N - 5) + mn from by rw [show N - (top.length : Int) = (N - 5) + 1 from by omega, Int.add_mul, Int.one_mul, Int.mul_comm]]; rfl
    have hi3 : nthI top 3 0 = nthI top ((top.length - 1 : Nat) : Int) 0 := by rw [hl4]; rfl
    have ht2 : S.l07Times (N - 5) (nthI top 3 0) = some (wd (nthI top ((top.length - 1 : Nat) : Int) 0 * (N - 5))) := by
      unfold S.l07Times
      rw [hi3, sTimes_eq _ _ (by unfold inI; omega) hlast, Int.mul_comm]; rfl
    unfold inI at hmn
    rw [cen (by omega)]
    simp only [ht1, Option.bind_some, sWideAdd_eq, e3]
    rw [cdp (by omega), sWideOf_eq mn (by unfold inI; omega)]
    simp only [Option.bind_some, sWideAdd_eq, ht2]
    generalize mn * (N - 5) = p at *
    generalize nthI top ((top.length - 1 : Nat) : Int) 0 * (N - 5) = q at *
    rw [hcmp _ (by unfold inW; omega), Option.bind_some, hcmp _ (by unfold inW; omega), Option.bind_some, cds]
    refine sdec (Iff.trans ?_ hA.symm)
    rw [cmpF_le, cmpF_ge]
    constructor
    · rintro ⟨q1, q2⟩; constructor <;> omega
    · rintro ⟨q1, q2⟩; constructor <;> omega
end
theorem flagLoop {β : Type} (F : Nat → Bool → Int → Option β) (n : Nat) (ok : Nat → Bool) (E : Bool → Option β) (hn : n ≤ 1000000000000)
    (hs : ∀ (i m : Nat) (f : Bool), i < n → F (m + 1) f (i : Int) = F m (f && ok i) ((i + 1 : Nat) : Int) ∨ f = false ∧ F (m + 1) f (i : Int) = E false)
    (he : ∀ (m : Nat) (f : Bool), F (m + 1) f (n : Int) = E f) (f : Bool) : F fu f 0 = E (f && (List.range n).all ok) := by
  obtain ⟨M, hM⟩ := fu_ge n hn
  have h1 : ∀ k i : Nat, ∀ f, i + k = n → F (k + 1 + M) f (i : Int) = E (f && (List.range' i k).all ok) := by
    intro k
    induction k with
    | zero =>
      intro i f hi
      obtain rfl : i = n := by omega
      rw [show 0 + 1 + M = M + 1 from by omega, he]
      simp
    | succ k ih =>
      intro i f hi
      rw [show k + 1 + 1 + M = (k + 1 + M) + 1 from by omega, List.range'_succ, List.all_cons]
      rcases hs i (k + 1 + M) f (by omega) with h | ⟨rfl, h⟩
      · rw [h, ih (i + 1) _ (by omega), Bool.and_assoc]
      · rw [h]; rfl
  rw [hM, List.range_eq_range']
  exact h1 n 0 f (by omega)
theorem findLoop {β : Type} (F : Nat → Int → Option β) (n : Nat) (ok : Nat → Bool) (E : Nat → Option β) (e : Option β) (hn : n ≤ 1000000000000)
    (hs : ∀ (i m : Nat), i < n → F (m + 1) (i : Int) = bif ok i then E i else F m ((i + 1 : Nat) : Int))
    (he : ∀ m : Nat, F (m + 1) (n : Int) = e) : F fu 0 = match (List.range n).find? ok with | some c => E c | none => e := by
  obtain ⟨M, hM⟩ := fu_ge n hn
  have h1 : ∀ k i : Nat, i + k = n → F (k + 1 + M) (i : Int) = match (List.range' i k).find? ok with | some c => E c | none => e := by
    intro k
    induction k with
    | zero =>
      intro i hi
      obtain rfl : i = n := by omega
      rw [show 0 + 1 + M = M + 1 from by omega, he]
      rfl
    | succ k ih =>
      intro i hi
      rw [show k + 1 + 1 + M = (k + 1 + M) + 1 from by omega, List.range'_succ, List.find?_cons, hs i _ (by omega)]
      cases ok i with
      | true => rfl
      | false => exact ih (i + 1) (by omega)
  rw [hM, List.range_eq_range']
  exact h1 n 0 (by omega)
def bit (x i : Int) : Bool := Go.bits .and .u64 (Int.fdiv x (2 ^ min (Int.toNat i) (IntKind.bits .u64))) 1 == 1
def leB (up : List Int) (a b : Int) : Bool := bit (nthI up a 0) b
def sideB (up : List Int) (a c : Int) (u : Bool) : Bool := bif u then leB up a c else leB up c a
theorem l01Bit_eq (x i : Int) (h0 : 0 ≤ i) (h1 : i < 100) : S.l01Bit x i = some (bit x i) := by
  unfold S.l01Bit bit
  simp only [u64w h0 (show i < 18446744073709551616 by omega)]
  rw [cdp h0]
theorem latLe_eq (n a b : Int) (up : List Int) (ha : 0 ≤ a ∧ a < (up.length : Int)) (hb : 0 ≤ b) : I.Lat_le n a b up = some (leB up a b) := by
  unfold I.Lat_le leB bit
  rw [cdp ha, cdp hb]
theorem l01Side_eq (n a c : Int) (u : Bool) (up : List Int) (hn : up.length ≤ 16) (ha : 0 ≤ a ∧ a < (up.length : Int)) (hc : 0 ≤ c ∧ c < (up.length : Int)) : S.l01Side n a c u up = some (sideB up a c u) := by
  unfold S.l01Side sideB leB
  rw [cdp ha, cdp hc, l01Bit_eq _ _ hc.1 (by omega), l01Bit_eq _ _ ha.1 (by omega)]
  cases u <;> rfl
theorem under_eq (n a c : Int) (u : Bool) (up : List Int) (ha : 0 ≤ a ∧ a < (up.length : Int)) (hc : 0 ≤ c ∧ c < (up.length : Int)) : I.Lat_bound_1 a c u n up = some (sideB up a c u, u, n, up) := by
  unfold I.Lat_bound_1 sideB
  rw [latLe_eq n a c up ha hc.1, latLe_eq n c a up hc ha.1]
  cases u <;> rfl
def okD (up : List Int) (u : Bool) (a b c : Int) (d : Nat) : Bool := !(sideB up a (d : Int) u && sideB up b (d : Int) u && !sideB up c (d : Int) u)
def fitsB (up : List Int) (u : Bool) (a b : Int) (c : Nat) : Bool := sideB up a (c : Int) u && (sideB up b (c : Int) u && (List.range up.length).all (okD up u a b (c : Int)))
def bndF (up : List Int) (u : Bool) (a b : Int) : Int := match (List.range up.length).find? (fitsB up u a b) with | some c => (c : Int) | none => -1
section
variable (up : List Int) (hn : up.length ≤ 16)
include hn
theorem sB1 (e : Int → Int → Bool → Int → Bool → Int → List Int → Option Int) (a b : Int) (u f : Bool) (c : Int) (ha : 0 ≤ a ∧ a < (up.length : Int)) (hb : 0 ≤ b ∧ b < (up.length : Int)) (hc : 0 ≤ c ∧ c < (up.length : Int)) :
    S.l01Bound_l1 fu e a b u c f 0 (up.length : Int) up = e a b u c (f && (List.range up.length).all (okD up u a b c)) (up.length : Int) up := by
  refine flagLoop (fun m f i => S.l01Bound_l1 m e a b u c f i (up.length : Int) up) up.length (okD up u a b c) (fun f => e a b u c f (up.length : Int) up) (by omega) (fun i m f hi => ?_) (fun m f => ?_) f
  · show S.l01Bound_l1 (m + 1) _ _ _ _ _ _ _ _ _ = S.l01Bound_l1 m _ _ _ _ _ _ _ _ _ ∨ _ ∧ S.l01Bound_l1 (m + 1) _ _ _ _ _ _ _ _ _ = _
    have hd : 0 ≤ (i : Int) ∧ (i : Int) < (up.length : Int) := by omega
    rw [S.l01Bound_l1, cdp (by omega)]
    simp only [l01Side_eq _ _ _ u up hn ha hd, l01Side_eq _ _ _ u up hn hb hd, l01Side_eq _ _ _ u up hn hc hd, Option.bind_some]
    rw [w64 (by omega) (by omega)]
    cases f
    · exact .inr ⟨rfl, rfl⟩
    · left
      unfold okD
      cases sideB up a (i : Int) u <;> cases sideB up b (i : Int) u <;> cases sideB up c (i : Int) u <;> rfl
  · show S.l01Bound_l1 (m + 1) _ _ _ _ _ _ _ _ _ = _
    rw [S.l01Bound_l1, cdn (by omega)]
theorem sBound_eq (a b : Int) (u : Bool) (ha : 0 ≤ a ∧ a < (up.length : Int)) (hb : 0 ≤ b ∧ b < (up.length : Int)) : S.l01Bound (up.length : Int) a b u up = some (bndF up u a b) := by
  unfold S.l01Bound bndF
  refine (findLoop (fun m i => S.l01Bound_l0 m (fun y47 => some y47) (some (-1)) a b u i (up.length : Int) up) up.length (fitsB up u a b) (fun c => some (c : Int)) (some (-1)) (by omega) (fun i m hi => ?_) (fun m => ?_)).trans (by split <;> rfl)
  · show S.l01Bound_l0 (m + 1) _ _ _ _ _ _ _ _ = bif _ then _ else S.l01Bound_l0 m _ _ _ _ _ _ _ _
    have hd : 0 ≤ (i : Int) ∧ (i : Int) < (up.length : Int) := by omega
    rw [S.l01Bound_l0, cdp (by omega)]
    simp only [l01Side_eq _ _ _ u up hn ha hd, l01Side_eq _ _ _ u up hn hb hd, Option.bind_some, sB1 up hn _ a b u _ (i : Int) ha hb hd]
    rw [w64 (by omega) (by omega)]
    unfold fitsB
    cases sideB up a (i : Int) u <;> cases sideB up b (i : Int) u <;> rfl
  · show S.l01Bound_l0 (m + 1) _ _ _ _ _ _ _ _ = _
    rw [S.l01Bound_l0, cdn (by omega)]
theorem iB1 (e : Int → Int → Int → Bool → Int → Int → Int → Bool → List Int → Option Int) (a b : Int) (u f : Bool) (c a22 a23 n : Int) (ha : 0 ≤ a ∧ a < (up.length : Int)) (hb : 0 ≤ b ∧ b < (up.length : Int)) (hc : 0 ≤ c ∧ c < (up.length : Int)) :
    I.Lat_bound_l1 fu e a b c f a22 a23 (up.length : Int) 0 n u up = e a b c (f && (List.range up.length).all (okD up u a b c)) a22 a23 n u up := by
  refine flagLoop (fun m f i => I.Lat_bound_l1 m e a b c f a22 a23 (up.length : Int) i n u up) up.length (okD up u a b c) (fun f => e a b c f a22 a23 n u up) (by omega) (fun i m f hi => .inl ?_) (fun m f => ?_) f
  · show I.Lat_bound_l1 (m + 1) _ _ _ _ _ _ _ _ _ _ _ _ = I.Lat_bound_l1 m _ _ _ _ _ _ _ _ _ _ _ _
    have hd : 0 ≤ (i : Int) ∧ (i : Int) < (up.length : Int) := by omega
    rw [I.Lat_bound_l1, cdp (by omega)]
    simp only [under_eq _ _ _ u up ha hd, under_eq _ _ _ u up hb hd, under_eq _ _ _ u up hc hd, Option.bind_some]
    rw [w64 (by omega) (by omega)]
    unfold okD
    cases f <;> cases sideB up a (i : Int) u <;> cases sideB up b (i : Int) u <;> cases sideB up c (i : Int) u <;> rfl
  · show I.Lat_bound_l1 (m + 1) _ _ _ _ _ _ _ _ _ _ _ _ = _
    rw [I.Lat_bound_l1, cdn (by omega)]
theorem iBound_eq (a b : Int) (u : Bool) (ha : 0 ≤ a ∧ a < (up.length : Int)) (hb : 0 ≤ b ∧ b < (up.length : Int)) : I.Lat_bound (up.length : Int) a b u up = some (bndF up u a b) := by
  unfold I.Lat_bound bndF
  refine (findLoop (fun m i => I.Lat_bound_l0 m (fun y47 => some y47) (some (-1)) a b (up.length : Int) i (up.length : Int) u up) up.length (fitsB up u a b) (fun c => some (c : Int)) (some (-1)) (by omega) (fun i m hi => ?_) (fun m => ?_)).trans (by split <;> rfl)
  · show I.Lat_bound_l0 (m + 1) _ _ _ _ _ _ _ _ _ = bif _ then _ else I.Lat_bound_l0 m _ _ _ _ _ _ _ _ _
    have hd : 0 ≤ (i : Int) ∧ (i : Int) < (up.length : Int) := by omega
    rw [I.Lat_bound_l0, cdp (by omega)]
    simp only [under_eq _ _ _ u up ha hd, under_eq _ _ _ u up hb hd, Option.bind_some, iB1 up hn _ a b u _ (i : Int) _ _ _ ha hb hd]
    rw [w64 (by omega) (by omega)]
    unfold fitsB
    cases sideB up a (i : Int) u <;> cases sideB up b (i : Int) u <;> rfl
  · show I.Lat_bound_l0 (m + 1) _ _ _ _ _ _ _ _ _ = _
    rw [I.Lat_bound_l0, cdn (by omega)]
end
theorem cb3 {x y z : Bool} {k : Option Bool} {p : Prop} [Decidable p] (h : p ↔ ¬ (x = true ∧ y = true ∧ z = false)) : (bif x then (bif y then (bif !z then some false else k) else k) else k) = bif decide p then k else some false := by
  by_cases c : p
  · rw [cdp c]
    have := h.1 c
    revert this
    cases x <;> cases y <;> cases z <;> simp
  · rw [cdn c]
    have := fun e => c (h.2 e)
    revert this
    cases x <;> cases y <;> cases z <;> simp
theorem cb2 {x y : Bool} {k : Option Bool} {p : Prop} [Decidable p] (h : p ↔ ¬ (x = true ∧ y = true)) : (bif x then (bif y then some false else k) else k) = bif decide p then k else some false := by
  by_cases c : p
  · rw [cdp c]
    have := h.1 c
    revert this
    cases x <;> cases y <;> simp
  · rw [cdn c]
    have := fun e => c (h.2 e)
    revert this
    cases x <;> cases y <;> simp
def thruP (up : List Int) (a b c : Nat) : Prop := ¬ (leB up a b = true ∧ leB up b c = true ∧ leB up a c = false)
instance (up : List Int) (a b : Nat) : DecidablePred (thruP up a b) := fun c => by unfold thruP; exact inferInstance
def pairP (up : List Int) (a b : Nat) : Prop := (a ≠ b → ¬ (leB up a b = true ∧ leB up b a = true)) ∧ ∀ c, c < up.length → thruP up a b c
instance (up : List Int) (a : Nat) : DecidablePred (pairP up a) := fun b => by unfold pairP; exact inferInstance
def lowP (up : List Int) (a : Nat) : Prop := nthI up (a : Int) 0 < 2 ^ up.length
instance (up : List Int) : DecidablePred (lowP up) := fun a => by unfold lowP; exact inferInstance
def ordP (up : List Int) (a : Nat) : Prop := leB up a a = true ∧ ∀ b, b < up.length → pairP up a b
instance (up : List Int) : DecidablePred (ordP up) := fun a => by unfold ordP; exact inferInstance
def bndP (up : List Int) (a b : Nat) : Prop := 0 ≤ bndF up true a b ∧ 0 ≤ bndF up false a b
instance (up : List Int) (a : Nat) : DecidablePred (bndP up a) := fun b => by unfold bndP; exact inferInstance
def latOk (n : Int) (up : List Int) : Prop := (1 ≤ n ∧ n ≤ 16) ∧ (up.length : Int) = n ∧ (∀ a, a < up.length → lowP up a) ∧ (∀ a, a < up.length → ordP up a) ∧ ∀ a, a < up.length → ∀ b, b < up.length → bndP up a b
instance (n : Int) (up : List Int) : Decidable (latOk n up) := by unfold latOk; exact inferInstance
theorem power_l (e : Int → Option Int) (m : Nat) : ∀ (d : Nat) (x : Int), 0 ≤ x → x * 2 ^ d < 18446744073709551616 → d ≤ 64 → S.l01Power_l0 (d + 1 + m) e (d : Int) x = e (x * 2 ^ d)
  | 0, x, h0, h1, hd => by
    rw [show 0 + 1 + m = m + 1 from by omega, S.l01Power_l0, cdn (by omega)]
    simp
  | d + 1, x, h0, h1, hd => by
    have h2 : x * 2 ^ (d + 1) = 2 * x * 2 ^ d := by rw [Int.pow_succ, Int.mul_comm (2 ^ d) 2, ← Int.mul_assoc, Int.mul_comm x 2]
    have hp : (1 : Int) ≤ 2 ^ d := by have : (0 : Int) < 2 ^ d := Int.pow_pos (by omega); omega
    have h3 : 2 * x ≤ 2 * x * 2 ^ d := by have := Int.mul_le_mul_of_nonneg_left hp (show 0 ≤ 2 * x by omega); omega
    rw [show d + 1 + 1 + m = (d + 1 + m) + 1 from by omega, S.l01Power_l0, cdp (by omega), w64 (by omega) (by omega), u64w (by omega) (by omega), show ((d + 1 : Nat) : Int) - 1 = (d : Int) from by omega, power_l e m d (2 * x) (by omega) (by omega) (by omega), h2]
theorem power_eq (n : Nat) (h : n ≤ 16) : S.l01Power (n : Int) = some (2 ^ n) := by
  unfold S.l01Power
  obtain ⟨m, hm⟩ := fu_ge n (by omega)
  have hp : (2 : Int) ^ n ≤ 2 ^ 16 := by
    have : 2 ^ n ≤ 2 ^ 16 := Nat.pow_le_pow_right (by omega) h
    exact_mod_cast this
  rw [hm, power_l _ m n 1 (by omega) (by omega) (by omega), Int.one_mul]
section
variable (up : List Int) (hn : up.length ≤ 16)
include hn
theorem sLat_l2 (e0 : Bool → Int → Int → Int → List Int → Option Bool) (e1 : Int → Int → Int → List Int → Option Bool) (he : ∀ a b n u, e0 false a b n u = some false) (a b : Nat) (ha : a < up.length) (hb : b < up.length) :
    S.LatOk_l2 fu e0 e1 (a : Int) (b : Int) 0 (up.length : Int) up = if ∀ c, c < up.length → thruP up a b c then e1 a b up.length up else some false := by
  refine allLoopK (fun m i => S.LatOk_l2 m e0 e1 (a : Int) (b : Int) i (up.length : Int) up) up.length (thruP up a b) _ (by omega) (fun i m hi => ?_) (fun m => ?_)
  · show S.LatOk_l2 (m + 1) _ _ _ _ _ _ _ = bif _ then S.LatOk_l2 m _ _ _ _ _ _ _ else _
    have e1' : decide ((0 : Int) ≤ (a : Int) ∧ (a : Int) < (up.length : Int)) = true := decide_eq_true (by omega)
    have e2' : decide ((0 : Int) ≤ (b : Int) ∧ (b : Int) < (up.length : Int)) = true := decide_eq_true (by omega)
    have l1 : ∀ x, S.l01Bit x (i : Int) = some (bit x i) := fun x => l01Bit_eq x _ (by omega) (by omega)
    have l2 : ∀ x, S.l01Bit x (b : Int) = some (bit x b) := fun x => l01Bit_eq x _ (by omega) (by omega)
    rw [S.LatOk_l2, cdp (by omega)]
    simp only [e1', e2', l1, l2, cond_true, Option.bind_some, he]
    rw [w64 (by omega) (by omega)]
    exact cb3 (p := thruP up a b i) Iff.rfl
  · show S.LatOk_l2 (m + 1) _ _ _ _ _ _ _ = _
    rw [S.LatOk_l2, cdn (by omega)]
theorem sLat_l1 (e0 : Bool → Int → Int → List Int → Option Bool) (e1 : Int → Int → List Int → Option Bool) (he : ∀ a n u, e0 false a n u = some false) (a : Nat) (ha : a < up.length) :
    S.LatOk_l1 fu e0 e1 (a : Int) 0 (up.length : Int) up = if ∀ b, b < up.length → pairP up a b then e1 a up.length up else some false := by
  refine allLoopK (fun m i => S.LatOk_l1 m e0 e1 (a : Int) i (up.length : Int) up) up.length (pairP up a) _ (by omega) (fun i m hi => ?_) (fun m => ?_)
  · show S.LatOk_l1 (m + 1) _ _ _ _ _ _ = bif _ then S.LatOk_l1 m _ _ _ _ _ _ else _
    have e1' : decide ((0 : Int) ≤ (a : Int) ∧ (a : Int) < (up.length : Int)) = true := decide_eq_true (by omega)
    have e2' : decide ((0 : Int) ≤ (i : Int) ∧ (i : Int) < (up.length : Int)) = true := decide_eq_true (by omega)
    have l1 : ∀ x, S.l01Bit x (i : Int) = some (bit x i) := fun x => l01Bit_eq x _ (by omega) (by omega)
    have l2 : ∀ x, S.l01Bit x (a : Int) = some (bit x a) := fun x => l01Bit_eq x _ (by omega) (by omega)
    rw [S.LatOk_l1, cdp (by omega)]
    simp only [e1', e2', l1, l2, cond_true, Option.bind_some, he]
    rw [sLat_l2 up hn (fun y32 y33 y34 y35 y36 => e0 y32 y33 y35 y36) _ (fun _ _ _ _ => he _ _ _) a i ha hi]
    rw [w64 (by omega) (by omega)]
    by_cases q : ∀ c, c < up.length → thruP up a i c
    · rw [if_pos q]
      by_cases e : (a : Int) = (i : Int)
      · rw [cnn e, cdp (show pairP up a i from ⟨fun h => absurd (by omega) h, q⟩)]
        rfl
      · rw [cnp e]
        exact cb2 (p := pairP up a i) (x := leB up a i) (y := leB up i a) ⟨fun h => h.1 (by omega), fun h => ⟨fun _ => h, q⟩⟩
    · rw [if_neg q, cdn (fun h : pairP up a i => q h.2)]
      change (bif _ then (bif leB up a i then (bif leB up i a then _ else _) else _) else _) = _
      cases ((a : Int) != (i : Int)) <;> cases leB up a i <;> cases leB up i a <;> rfl
  · show S.LatOk_l1 (m + 1) _ _ _ _ _ _ = _
    rw [S.LatOk_l1, cdn (by omega)]
theorem sLat_l0 (e0 : Bool → Int → List Int → Option Bool) (e1 : Int → List Int → Option Bool) (he : ∀ n u, e0 false n u = some false) :
    S.LatOk_l0 fu e0 e1 0 (up.length : Int) up = if ∀ a, a < up.length → lowP up a ∧ ordP up a then e1 up.length up else some false := by
  refine allLoopK (fun m i => S.LatOk_l0 m e0 e1 i (up.length : Int) up) up.length (fun a => lowP up a ∧ ordP up a) _ (by omega) (fun i m hi => ?_) (fun m => ?_)
  · show S.LatOk_l0 (m + 1) _ _ _ _ _ = bif _ then S.LatOk_l0 m _ _ _ _ _ else _
    have e2' : decide ((0 : Int) ≤ (i : Int) ∧ (i : Int) < (up.length : Int)) = true := decide_eq_true (by omega)
    have l1 : ∀ x, S.l01Bit x (i : Int) = some (bit x i) := fun x => l01Bit_eq x _ (by omega) (by omega)
    rw [S.LatOk_l0, cdp (by omega)]
    simp only [e2', l1, cond_true, Option.bind_some, he, power_eq up.length hn]
    rw [sLat_l1 up hn (fun y62 y63 y64 y65 => e0 y62 y64 y65) _ (fun _ _ _ => he _ _) i hi]
    rw [w64 (by omega) (by omega)]
    change (bif !leB up i i then _ else _) = _
    by_cases c : leB up i i = true
    · rw [c, Bool.not_true, cond_false]
      by_cases c1 : 2 ^ up.length ≤ nthI up (i : Int) 0
      · rw [cdp c1, cdn (fun h : lowP up i ∧ ordP up i => by have := h.1; unfold lowP at this; omega)]
      · rw [cdn c1]
        by_cases q : ∀ b, b < up.length → pairP up i b
        · rw [if_pos q, cdp (show lowP up i ∧ ordP up i from ⟨by unfold lowP; omega, c, q⟩)]
          rfl
        · rw [if_neg q, cdn (fun h : lowP up i ∧ ordP up i => q h.2.2)]
    · rw [Bool.eq_false_iff.2 c, cdn (fun h : lowP up i ∧ ordP up i => c h.2.1)]
      rfl
  · show S.LatOk_l0 (m + 1) _ _ _ _ _ = _
    rw [S.LatOk_l0, cdn (by omega)]
theorem sLat_l4 (e0 : Bool → Int → Int → List Int → Option Bool) (e1 : Int → Int → List Int → Option Bool) (he : ∀ a n u, e0 false a n u = some false) (a : Nat) (ha : a < up.length) :
    S.LatOk_l4 fu e0 e1 (a : Int) 0 (up.length : Int) up = if ∀ b, b < a → bndP up a b then e1 a up.length up else some false := by
  refine allLoopK (fun m i => S.LatOk_l4 m e0 e1 (a : Int) i (up.length : Int) up) a (bndP up a) _ (by omega) (fun i m hi => ?_) (fun m => ?_)
  · show S.LatOk_l4 (m + 1) _ _ _ _ _ _ = bif _ then S.LatOk_l4 m _ _ _ _ _ _ else _
    rw [S.LatOk_l4, cdp (by omega)]
    simp only [sBound_eq up hn (a : Int) (i : Int) _ (by omega) (by omega), Option.bind_some, he]
    rw [w64 (by omega) (by omega)]
    by_cases c1 : bndF up true a i < 0
    · rw [cdp c1, cdn (fun h : bndP up a i => by have := h.1; omega)]
    · rw [cdn c1]
      by_cases c2 : bndF up false a i < 0
      · rw [cdp c2, cdn (fun h : bndP up a i => by have := h.2; omega)]
      · rw [cdn c2, cdp (show bndP up a i from ⟨by omega, by omega⟩)]
        rfl
  · show S.LatOk_l4 (m + 1) _ _ _ _ _ _ = _
    rw [S.LatOk_l4, cdn (by omega)]
theorem sLat_l3 : S.LatOk_l3 fu (fun y => some y) (some true) 0 (up.length : Int) up = some (decide (∀ a, a < up.length → ∀ b, b < a → bndP up a b) && true) := by
  refine allLoop (fun m i => S.LatOk_l3 m (fun y => some y) (some true) i (up.length : Int) up) up.length (fun a => ∀ b, b < a → bndP up a b) true (by omega) (fun i m hi => ?_) (fun m => ?_)
  · show S.LatOk_l3 (m + 1) _ _ _ _ _ = bif _ then S.LatOk_l3 m _ _ _ _ _ else _
    rw [S.LatOk_l3, cdp (by omega)]
    rw [sLat_l4 up hn (fun y89 y90 y91 y92 => some y89) _ (fun _ _ _ => rfl) i hi, w64 (by omega) (by omega)]
    by_cases q : ∀ b, b < i → bndP up i b
    · rw [if_pos q, cdp q]; rfl
    · rw [if_neg q, cdn q]
  · show S.LatOk_l3 (m + 1) _ _ _ _ _ = _
    rw [S.LatOk_l3, cdn (by omega)]
theorem iOrd_l2 (e0 : Bool → Int → Int → Int → Int → Int → Int → List Int → Option Bool) (e1 : Int → Int → Int → Int → Int → Int → List Int → Option Bool) (he : ∀ a b c d e f u, e0 false a b c d e f u = some false) (a b : Nat) (ha : a < up.length) (hb : b < up.length) (x y z w : Int) :
    I.Lat_isOrder_l2 fu e0 e1 (a : Int) (b : Int) x y z w (up.length : Int) 0 (up.length : Int) up = if ∀ c, c < up.length → thruP up a b c then e1 a x y z w up.length up else some false := by
  refine allLoopK (fun m i => I.Lat_isOrder_l2 m e0 e1 (a : Int) (b : Int) x y z w (up.length : Int) i (up.length : Int) up) up.length (thruP up a b) _ (by omega) (fun i m hi => ?_) (fun m => ?_)
  · show I.Lat_isOrder_l2 (m + 1) _ _ _ _ _ _ _ _ _ _ _ _ = bif _ then I.Lat_isOrder_l2 m _ _ _ _ _ _ _ _ _ _ _ _ else _
    rw [I.Lat_isOrder_l2, cdp (by omega)]
    simp only [latLe_eq _ (a : Int) (b : Int) up (by omega) (by omega), latLe_eq _ (b : Int) (i : Int) up (by omega) (by omega), latLe_eq _ (a : Int) (i : Int) up (by omega) (by omega), Option.bind_some, he]
    rw [w64 (by omega) (by omega)]
    exact cb3 (p := thruP up a b i) Iff.rfl
  · show I.Lat_isOrder_l2 (m + 1) _ _ _ _ _ _ _ _ _ _ _ _ = _
    rw [I.Lat_isOrder_l2, cdn (by omega)]
theorem iOrd_l1 (e0 : Bool → Int → Int → Int → List Int → Option Bool) (e1 : Int → Int → Int → List Int → Option Bool) (he : ∀ a b c u, e0 false a b c u = some false) (a : Nat) (ha : a < up.length) (x y : Int) :
    I.Lat_isOrder_l1 fu e0 e1 (a : Int) x y (up.length : Int) 0 (up.length : Int) up = if ∀ b, b < up.length → pairP up a b then e1 x y up.length up else some false := by
  refine allLoopK (fun m i => I.Lat_isOrder_l1 m e0 e1 (a : Int) x y (up.length : Int) i (up.length : Int) up) up.length (pairP up a) _ (by omega) (fun i m hi => ?_) (fun m => ?_)
  · show I.Lat_isOrder_l1 (m + 1) _ _ _ _ _ _ _ _ _ = bif _ then I.Lat_isOrder_l1 m _ _ _ _ _ _ _ _ _ else _
    rw [I.Lat_isOrder_l1, cdp (by omega)]
    simp only [latLe_eq _ (a : Int) (i : Int) up (by omega) (by omega), latLe_eq _ (i : Int) (a : Int) up (by omega) (by omega), Option.bind_some, he]
    rw [iOrd_l2 up hn (fun y36 y37 y38 y39 y40 y41 y42 y43 => e0 y36 y38 y39 y42 y43) _ (fun _ _ _ _ _ _ _ => he _ _ _ _) a i ha hi x y (up.length : Int) (i : Int)]
    rw [w64 (by omega) (by omega)]
    by_cases q : ∀ c, c < up.length → thruP up a i c
    · rw [if_pos q]
      by_cases e : (a : Int) = (i : Int)
      · rw [cnn e, cdp (show pairP up a i from ⟨fun h => absurd (by omega) h, q⟩)]
        rfl
      · rw [cnp e]
        exact cb2 (p := pairP up a i) ⟨fun h => h.1 (by omega), fun h => ⟨fun _ => h, q⟩⟩
    · rw [if_neg q, cdn (fun h : pairP up a i => q h.2)]
      cases ((a : Int) != (i : Int)) <;> cases leB up a i <;> cases leB up i a <;> rfl
  · show I.Lat_isOrder_l1 (m + 1) _ _ _ _ _ _ _ _ _ = _
    rw [I.Lat_isOrder_l1, cdn (by omega)]
theorem iOrd_eq : I.Lat_isOrder (up.length : Int) up = some (decide (∀ a, a < up.length → ordP up a) && true) := by
  unfold I.Lat_isOrder
  refine allLoop (fun m i => I.Lat_isOrder_l0 m (fun y => some y) (some true) (up.length : Int) i (up.length : Int) up) up.length (ordP up) true (by omega) (fun i m hi => ?_) (fun m => ?_)
  · show I.Lat_isOrder_l0 (m + 1) _ _ _ _ _ _ = bif _ then I.Lat_isOrder_l0 m _ _ _ _ _ _ else _
    rw [I.Lat_isOrder_l0, cdp (by omega)]
    simp only [latLe_eq _ (i : Int) (i : Int) up (by omega) (by omega), Option.bind_some]
    rw [iOrd_l1 up hn (fun y84 y85 y86 y87 y88 => some y84) _ (fun _ _ _ _ => rfl) i hi (up.length : Int) (i : Int)]
    rw [w64 (by omega) (by omega)]
    by_cases c : leB up i i = true
    · rw [c, Bool.not_true, cond_false]
      by_cases q : ∀ b, b < up.length → pairP up i b
      · rw [if_pos q, cdp (show ordP up i from ⟨c, q⟩)]
        rfl
      · rw [if_neg q, cdn (fun h : ordP up i => q h.2)]
    · rw [Bool.eq_false_iff.2 c, cdn (fun h : ordP up i => c h.1)]
      rfl
  · show I.Lat_isOrder_l0 (m + 1) _ _ _ _ _ _ = _
    rw [I.Lat_isOrder_l0, cdn (by omega)]
theorem iLat_l2 (e0 : Bool → Int → Int → Int → List Int → Option Bool) (e1 : Int → Int → Int → List Int → Option Bool) (he : ∀ a b n u, e0 false a b n u = some false) (a : Nat) (ha : a < up.length) (x y : Int) :
    I.isLat_l2 fu e0 e1 (a : Int) x y (up.length : Int) 0 (up.length : Int) up = if ∀ b, b < up.length → bndP up a b then e1 x y up.length up else some false := by
  refine allLoopK (fun m i => I.isLat_l2 m e0 e1 (a : Int) x y (up.length : Int) i (up.length : Int) up) up.length (bndP up a) _ (by omega) (fun i m hi => ?_) (fun m => ?_)
  · show I.isLat_l2 (m + 1) _ _ _ _ _ _ _ _ _ = bif _ then I.isLat_l2 m _ _ _ _ _ _ _ _ _ else _
    rw [I.isLat_l2, cdp (by omega)]
    simp only [iBound_eq up hn (a : Int) (i : Int) _ (by omega) (by omega), Option.bind_some, he]
    rw [w64 (by omega) (by omega)]
    by_cases c1 : bndF up true a i < 0
    · rw [cdp c1, cdn (fun h : bndP up a i => by have := h.1; omega)]
    · rw [cdn c1]
      by_cases c2 : bndF up false a i < 0
      · rw [cdp c2, cdn (fun h : bndP up a i => by have := h.2; omega)]
      · rw [cdn c2, cdp (show bndP up a i from ⟨by omega, by omega⟩)]
        rfl
  · show I.isLat_l2 (m + 1) _ _ _ _ _ _ _ _ _ = _
    rw [I.isLat_l2, cdn (by omega)]
theorem iLat_l1 : I.isLat_l1 fu (fun y => some y) (some true) (up.length : Int) 0 (up.length : Int) up = some (decide (∀ a, a < up.length → ∀ b, b < up.length → bndP up a b) && true) := by
  refine allLoop (fun m i => I.isLat_l1 m (fun y => some y) (some true) (up.length : Int) i (up.length : Int) up) up.length (fun a => ∀ b, b < up.length → bndP up a b) true (by omega) (fun i m hi => ?_) (fun m => ?_)
  · show I.isLat_l1 (m + 1) _ _ _ _ _ _ = bif _ then I.isLat_l1 m _ _ _ _ _ _ else _
    rw [I.isLat_l1, cdp (by omega)]
    rw [iLat_l2 up hn (fun y38 y39 y40 y41 y42 => some y38) _ (fun _ _ _ _ => rfl) i hi (up.length : Int) (i : Int), w64 (by omega) (by omega)]
    by_cases q : ∀ b, b < up.length → bndP up i b
    · rw [if_pos q, cdp q]; rfl
    · rw [if_neg q, cdn q]
  · show I.isLat_l1 (m + 1) _ _ _ _ _ _ = _
    rw [I.isLat_l1, cdn (by omega)]
theorem iLat_l0 (hu : ∀ y ∈ up, (Lit.int .u64 y).wf = true) (e0 : Bool → Int → List Int → Option Bool) (e1 : Int → List Int → Option Bool) (he : ∀ n u, e0 false n u = some false) :
    I.isLat_l0 fu e0 e1 (up.length : Int) 0 (up.length : Int) up = if ∀ a, a < up.length → lowP up a then e1 up.length up else some false := by
  refine allLoopK (fun m i => I.isLat_l0 m e0 e1 (up.length : Int) i (up.length : Int) up) up.length (lowP up) _ (by omega) (fun i m hi => ?_) (fun m => ?_)
  · show I.isLat_l0 (m + 1) _ _ _ _ _ _ = bif _ then I.isLat_l0 m _ _ _ _ _ _ else _
    have h0 := (u64_wf (hu _ (nthI_mem up i 0 hi))).1
    rw [I.isLat_l0, cdp (by omega), cdp (show (0 : Int) ≤ (i : Int) ∧ (i : Int) < (up.length : Int) by omega), cdp (show (0 : Int) ≤ (up.length : Int) by omega), he, w64 (by omega) (by omega)]
    have e1 : min (Int.toNat (up.length : Int)) (IntKind.bits .u64) = up.length := by
      rw [Int.toNat_natCast]
      exact Nat.min_eq_left (by have : IntKind.bits .u64 = 64 := rfl; omega)
    have hp : (0 : Int) < 2 ^ up.length := Int.pow_pos (by omega)
    rw [e1, Int.fdiv_eq_ediv_of_nonneg _ (by omega)]
    have hiff : nthI up (i : Int) 0 / 2 ^ up.length = 0 ↔ lowP up i := by
      unfold lowP
      constructor
      · intro h
        by_cases c : nthI up (i : Int) 0 < 2 ^ up.length
        · exact c
        · have := (Int.le_ediv_iff_mul_le hp).2 (show 1 * 2 ^ up.length ≤ nthI up (i : Int) 0 by omega)
          omega
      · intro h
        exact Int.ediv_eq_zero_of_lt h0 h
    by_cases c : lowP up i
    · rw [cnn (hiff.2 c), cdp c]; rfl
    · rw [cnp (fun h => c (hiff.1 h)), cdn c]
  · show I.isLat_l0 (m + 1) _ _ _ _ _ _ = _
    rw [I.isLat_l0, cdn (by omega)]
end
theorem bnd_iff (up : List Int) (u : Bool) (a b : Int) : 0 ≤ bndF up u a b ↔ ∃ c, c < up.length ∧ fitsB up u a b c = true := by
  unfold bndF
  split
  · rename_i c hc
    refine ⟨fun _ => ⟨c, ?_, List.find?_some hc⟩, fun _ => by omega⟩
    exact List.mem_range.1 (List.mem_of_find?_eq_some hc)
  · rename_i hc
    refine ⟨fun h => by omega, ?_⟩
    rintro ⟨c, h1, h2⟩
    exact absurd h2 (List.find?_eq_none.1 hc c (List.mem_range.2 h1))
theorem fits_comm (up : List Int) (u : Bool) (a b : Int) (c : Nat) : fitsB up u a b c = fitsB up u b a c := by
  unfold fitsB
  have : okD up u a b (c : Int) = okD up u b a (c : Int) := by
    funext d
    unfold okD
    rw [Bool.and_comm (sideB up a (d : Int) u)]
  rw [this, ← Bool.and_assoc, Bool.and_comm (sideB up a (c : Int) u), Bool.and_assoc]
theorem bnd_comm (up : List Int) (u : Bool) (a b : Int) (h : 0 ≤ bndF up u a b) : 0 ≤ bndF up u b a := by
  obtain ⟨c, h1, h2⟩ := (bnd_iff up u a b).1 h
  exact (bnd_iff up u b a).2 ⟨c, h1, by rw [fits_comm]; exact h2⟩
theorem bnd_self (up : List Int) (u : Bool) (a : Nat) (ha : a < up.length) (h : leB up a a = true) : 0 ≤ bndF up u a a := by
  refine (bnd_iff up u a a).2 ⟨a, ha, ?_⟩
  have h1 : sideB up a a u = true := by unfold sideB; cases u <;> exact h
  unfold fitsB
  rw [h1, Bool.true_and, Bool.true_and, List.all_eq_true]
  intro d _
  unfold okD
  cases sideB up a (d : Int) u <;> rfl
theorem sLatOk_eq (n : Int) (up : List Int) : S.LatOk n up = some (decide (latOk n up)) := by
  unfold S.LatOk
  by_cases h1 : n < 1
  · rw [cdp h1]; exact sfal fun h => by have := h.1; omega
  rw [cdn h1]
  by_cases h2 : 16 < n
  · rw [cdp h2]; exact sfal fun h => by have := h.1; omega
  rw [cdn h2]
  by_cases h3 : (up.length : Int) ≠ n
  · rw [cnp h3]; exact sfal fun h => h3 h.2.1
  have h3 := Decidable.not_not.1 h3
  subst h3
  have hn : up.length ≤ 16 := by omega
  rw [cnn rfl, sLat_l0 up hn (fun y70 y71 y72 => some y70) _ (fun _ _ => rfl)]
  by_cases h4 : ¬ ∀ a, a < up.length → lowP up a ∧ ordP up a
  · rw [if_neg h4]; exact sfal fun h => h4 fun a ha => ⟨h.2.2.1 a ha, h.2.2.2.1 a ha⟩
  have h4 := Decidable.not_not.1 h4
  rw [if_pos h4, sLat_l3 up hn, Bool.and_true]
  refine sdec ⟨fun h => ⟨by omega, rfl, fun a ha => (h4 a ha).1, fun a ha => (h4 a ha).2, fun a ha b hb => ?_⟩, fun h a ha b hb => h.2.2.2.2 a ha b (by omega)⟩
  rcases Nat.lt_trichotomy a b with q | q | q
  · exact ⟨bnd_comm _ _ _ _ (h b hb a q).1, bnd_comm _ _ _ _ (h b hb a q).2⟩
  · subst q
    exact ⟨bnd_self up true a ha (h4 a ha).2.1, bnd_self up false a ha (h4 a ha).2.1⟩
  · exact h a ha b q
theorem iLatOk_eq (n : Int) (up : List Int) (hu : ∀ y ∈ up, (Lit.int .u64 y).wf = true) : I.isLat n up = some (decide (latOk n up)) := by
  unfold I.isLat
  rw [in_eq, Option.bind_some, cnotb]
  by_cases h1 : ¬ (1 ≤ n ∧ n ≤ 16)
  · rw [cdn h1]; exact sfal fun h => h1 h.1
  have h1 := Decidable.not_not.1 h1
  rw [cdp h1]
  by_cases h3 : (up.length : Int) ≠ n
  · rw [cnp h3]; exact sfal fun h => h3 h.2.1
  have h3 := Decidable.not_not.1 h3
  subst h3
  have hn : up.length ≤ 16 := by omega
  rw [cnn rfl, iLat_l0 up hn hu (fun y14 y15 y16 => some y14) _ (fun _ _ => rfl)]
  by_cases h4 : ¬ ∀ a, a < up.length → lowP up a
  · rw [if_neg h4]; exact sfal fun h => h4 h.2.2.1
  have h4 := Decidable.not_not.1 h4
  rw [if_pos h4, iOrd_eq up hn, Bool.and_true, Option.bind_some, cnotb]
  by_cases h5 : ¬ ∀ a, a < up.length → ordP up a
  · rw [cdn h5]; exact sfal fun h => h5 h.2.2.2.1
  have h5 := Decidable.not_not.1 h5
  rw [cdp h5, iLat_l1 up hn, Bool.and_true]
  exact sdec ⟨fun h => ⟨h1, rfl, h4, h5, h⟩, fun h => h.2.2.2.2⟩
theorem here_eq (n a : Int) (up : List Int) : S.l01Here n a up = some (decide (0 ≤ a ∧ a < n)) := by unfold S.l01Here; rw [cds]
theorem has_eq (n a : Int) (up : List Int) (h : 0 ≤ n ∧ n ≤ 100) : I.Lat_has n a up = some (decide (0 ≤ a ∧ a < n)) := by
  unfold I.Lat_has
  rw [in_eq, w64 (by omega) (by omega)]
  exact sdec (by omega)
def queryP (q : List TQuery) (i : Nat) : Prop := queryOk (nthI q (i : Int) ([], ([], (((0 : Int), ((0 : Int), (0 : Int))), ((0 : Int), (0 : Int)))))).2.2.1.1 (nthI q (i : Int) ([], ([], (((0 : Int), ((0 : Int), (0 : Int))), ((0 : Int), (0 : Int)))))).2.2.1.2.1 (nthI q (i : Int) ([], ([], (((0 : Int), ((0 : Int), (0 : Int))), ((0 : Int), (0 : Int)))))).2.2.1.2.2 (nthI q (i : Int) ([], ([], (((0 : Int), ((0 : Int), (0 : Int))), ((0 : Int), (0 : Int)))))).2.2.2.1 (nthI q (i : Int) ([], ([], (((0 : Int), ((0 : Int), (0 : Int))), ((0 : Int), (0 : Int)))))).2.2.2.2 (nthI q (i : Int) ([], ([], (((0 : Int), ((0 : Int), (0 : Int))), ((0 : Int), (0 : Int)))))).1 (nthI q (i : Int) ([], ([], (((0 : Int), ((0 : Int), (0 : Int))), ((0 : Int), (0 : Int)))))).2.1
instance (q : List TQuery) : DecidablePred (queryP q) := fun i => by unfold queryP; exact inferInstance
def subP (n : Int) (s : List TSub) (i : Nat) : Prop := (0 ≤ (nthI s (i : Int) ((0 : Int), ((0 : Int), (0 : Int)))).1 ∧ (nthI s (i : Int) ((0 : Int), ((0 : Int), (0 : Int)))).1 < n) ∧ (1 ≤ (nthI s (i : Int) ((0 : Int), ((0 : Int), (0 : Int)))).2.1 ∧ (nthI s (i : Int) ((0 : Int), ((0 : Int), (0 : Int)))).2.1 ≤ 50) ∧ 1 ≤ (nthI s (i : Int) ((0 : Int), ((0 : Int), (0 : Int)))).2.2 ∧ (nthI s (i : Int) ((0 : Int), ((0 : Int), (0 : Int)))).2.2 ≤ 50
instance (n : Int) (s : List TSub) : DecidablePred (subP n s) := fun i => by unfold subP; exact inferInstance
def ruleP (n k : Int) (r : List TRule) (i : Nat) : Prop := (0 ≤ (nthI r (i : Int) ((0 : Int), ((0 : Int), ((0 : Int), ((0 : Int), (0 : Int)))))).1 ∧ (nthI r (i : Int) ((0 : Int), ((0 : Int), ((0 : Int), ((0 : Int), (0 : Int)))))).1 < k) ∧ (0 ≤ (nthI r (i : Int) ((0 : Int), ((0 : Int), ((0 : Int), ((0 : Int), (0 : Int)))))).2.1 ∧ (nthI r (i : Int) ((0 : Int), ((0 : Int), ((0 : Int), ((0 : Int), (0 : Int)))))).2.1 < n) ∧ (0 ≤ (nthI r (i : Int) ((0 : Int), ((0 : Int), ((0 : Int), ((0 : Int), (0 : Int)))))).2.2.1 ∧ (nthI r (i : Int) ((0 : Int), ((0 : Int), ((0 : Int), ((0 : Int), (0 : Int)))))).2.2.1 < n) ∧ (1 ≤ (nthI r (i : Int) ((0 : Int), ((0 : Int), ((0 : Int), ((0 : Int), (0 : Int)))))).2.2.2.1 ∧ (nthI r (i : Int) ((0 : Int), ((0 : Int), ((0 : Int), ((0 : Int), (0 : Int)))))).2.2.2.1 ≤ 1000000) ∧ 0 ≤ (nthI r (i : Int) ((0 : Int), ((0 : Int), ((0 : Int), ((0 : Int), (0 : Int)))))).2.2.2.2 ∧ (nthI r (i : Int) ((0 : Int), ((0 : Int), ((0 : Int), ((0 : Int), (0 : Int)))))).2.2.2.2 ≤ 20
instance (n k : Int) (r : List TRule) : DecidablePred (ruleP n k r) := fun i => by unfold ruleP; exact inferInstance
def confOk (n src quo : Int) (up : List Int) (q : List TQuery) (s : List TSub) (r : List TRule) : Prop :=
  latOk n up ∧ (1 ≤ src ∧ src ≤ 4) ∧ (1 ≤ quo ∧ quo ≤ 30) ∧ (1 ≤ q.length ∧ q.length ≤ 4) ∧ (1 ≤ s.length ∧ s.length ≤ 4) ∧ r.length ≤ 3 ∧
    (∀ i, i < q.length → queryP q i) ∧ (∀ i, i < s.length → subP n s i) ∧ ∀ i, i < r.length → ruleP n (q.length : Int) r i
instance (n src quo : Int) (up : List Int) (q : List TQuery) (s : List TSub) (r : List TRule) : Decidable (confOk n src quo up q s r) := by unfold confOk; exact inferInstance
def queryW (q : List TQuery) : Prop := ∀ x ∈ q, (-9223372036854775808 ≤ x.2.2.1.2.2 ∧ x.2.2.1.2.2 < 9223372036854775808) ∧ x.1.length ≤ 1000000000000 ∧ x.2.1.length ≤ 1000000000000
theorem capS_eq (a : Int) : S.l10Cap a = some (decide (1 ≤ a ∧ a ≤ 50)) := by unfold S.l10Cap; rw [cds]
theorem capI_eq (a : Int) : I.isCap a = some (decide (1 ≤ a ∧ a ≤ 50)) := by unfold I.isCap; rw [in_eq]; rfl
theorem l11Query_eq (a b c d : Int) (up : List Int) (q : List TQuery) (s : List TSub) (r : List TRule) : S.l11Query a b c d up q s r = some (decide (0 ≤ a ∧ a < (q.length : Int))) := by unfold S.l11Query; rw [cds]
section
variable (n src quo : Int) (up : List Int) (q : List TQuery) (s : List TSub) (r : List TRule) (hn : 1 ≤ n ∧ n ≤ 16) (hq : 1 ≤ q.length ∧ q.length ≤ 4) (hs : s.length ≤ 4) (hr : r.length ≤ 3) (hw : queryW q)
include hn hq hs hr hw
theorem sConf_l0 (e0 : Bool → Int → Int → Int → List Int → List TQuery → List TSub → List TRule → Option Bool) (e1 : Int → Int → Int → List Int → List TQuery → List TSub → List TRule → Option Bool) (he : ∀ a b c u v w x, e0 false a b c u v w x = some false) :
    S.ConfOk_l0 fu e0 e1 0 n src quo up q s r = if ∀ i, i < q.length → queryP q i then e1 n src quo up q s r else some false := by
  refine allLoopK (fun m i => S.ConfOk_l0 m e0 e1 i n src quo up q s r) q.length (queryP q) _ (by omega) (fun i m hi => ?_) (fun m => ?_)
  · show S.ConfOk_l0 (m + 1) _ _ _ _ _ _ _ _ _ _ = bif _ then S.ConfOk_l0 m _ _ _ _ _ _ _ _ _ _ else _
    have h1 := hw _ (nthI_mem q i ([], ([], (((0 : Int), ((0 : Int), (0 : Int))), ((0 : Int), (0 : Int))))) hi)
    rw [S.ConfOk_l0, cdp (by omega), cdp (show (0 : Int) ≤ (i : Int) ∧ (i : Int) < (q.length : Int) by omega), sQueryOk_eq _ _ _ _ _ _ _ h1.1.1 h1.1.2, Option.bind_some, he, cnotb, w64 (by omega) (by omega)]
    rfl
  · show S.ConfOk_l0 (m + 1) _ _ _ _ _ _ _ _ _ _ = _
    rw [S.ConfOk_l0, cdn (by omega)]
theorem sConf_l1 (e0 : Bool → Int → Int → Int → List Int → List TQuery → List TSub → List TRule → Option Bool) (e1 : Int → Int → Int → List Int → List TQuery → List TSub → List TRule → Option Bool) (he : ∀ a b c u v w x, e0 false a b c u v w x = some false) :
    S.ConfOk_l1 fu e0 e1 0 n src quo up q s r = if ∀ i, i < s.length → subP n s i then e1 n src quo up q s r else some false := by
  refine allLoopK (fun m i => S.ConfOk_l1 m e0 e1 i n src quo up q s r) s.length (subP n s) _ (by omega) (fun i m hi => ?_) (fun m => ?_)
  · show S.ConfOk_l1 (m + 1) _ _ _ _ _ _ _ _ _ _ = bif _ then S.ConfOk_l1 m _ _ _ _ _ _ _ _ _ _ else _
    rw [S.ConfOk_l1, cdp (by omega), cdp (show (0 : Int) ≤ (i : Int) ∧ (i : Int) < (s.length : Int) by omega)]
    simp only [here_eq, capS_eq, Option.bind_some, he]
    rw [w64 (by omega) (by omega), cnotb, cnotb, cnotb]
    by_cases c1 : 0 ≤ (nthI s (i : Int) ((0 : Int), ((0 : Int), (0 : Int)))).1 ∧ (nthI s (i : Int) ((0 : Int), ((0 : Int), (0 : Int)))).1 < n
    · rw [cdp c1]
      by_cases c2 : 1 ≤ (nthI s (i : Int) ((0 : Int), ((0 : Int), (0 : Int)))).2.1 ∧ (nthI s (i : Int) ((0 : Int), ((0 : Int), (0 : Int)))).2.1 ≤ 50
      · rw [cdp c2]
        by_cases c3 : 1 ≤ (nthI s (i : Int) ((0 : Int), ((0 : Int), (0 : Int)))).2.2 ∧ (nthI s (i : Int) ((0 : Int), ((0 : Int), (0 : Int)))).2.2 ≤ 50
        · rw [cdp c3, cdp (show subP n s i from ⟨c1, c2, c3⟩)]; rfl
        · rw [cdn c3, cdn (fun h : subP n s i => c3 h.2.2)]
      · rw [cdn c2, cdn (fun h : subP n s i => c2 h.2.1)]
    · rw [cdn c1, cdn (fun h : subP n s i => c1 h.1)]
  · show S.ConfOk_l1 (m + 1) _ _ _ _ _ _ _ _ _ _ = _
    rw [S.ConfOk_l1, cdn (by omega)]
theorem sConf_l2 : S.ConfOk_l2 fu (fun y => some y) (some true) 0 n src quo up q s r = some (decide (∀ i, i < r.length → ruleP n (q.length : Int) r i) && true) := by
  refine allLoop (fun m i => S.ConfOk_l2 m (fun y => some y) (some true) i n src quo up q s r) r.length (ruleP n (q.length : Int) r) true (by omega) (fun i m hi => ?_) (fun m => ?_)
  · show S.ConfOk_l2 (m + 1) _ _ _ _ _ _ _ _ _ _ = bif _ then S.ConfOk_l2 m _ _ _ _ _ _ _ _ _ _ else _
    rw [S.ConfOk_l2, cdp (by omega), cdp (show (0 : Int) ≤ (i : Int) ∧ (i : Int) < (r.length : Int) by omega)]
    simp only [here_eq, l11Query_eq, Option.bind_some]
    rw [w64 (by omega) (by omega), cnotb, cnotb, cnotb]
    by_cases c1 : 0 ≤ (nthI r (i : Int) ((0 : Int), ((0 : Int), ((0 : Int), ((0 : Int), (0 : Int)))))).1 ∧ (nthI r (i : Int) ((0 : Int), ((0 : Int), ((0 : Int), ((0 : Int), (0 : Int)))))).1 < (q.length : Int)
    · rw [cdp c1]
      by_cases c2 : 0 ≤ (nthI r (i : Int) ((0 : Int), ((0 : Int), ((0 : Int), ((0 : Int), (0 : Int)))))).2.1 ∧ (nthI r (i : Int) ((0 : Int), ((0 : Int), ((0 : Int), ((0 : Int), (0 : Int)))))).2.1 < n
      · rw [cdp c2]
        by_cases c3 : 0 ≤ (nthI r (i : Int) ((0 : Int), ((0 : Int), ((0 : Int), ((0 : Int), (0 : Int)))))).2.2.1 ∧ (nthI r (i : Int) ((0 : Int), ((0 : Int), ((0 : Int), ((0 : Int), (0 : Int)))))).2.2.1 < n
        · rw [cdp c3]
          by_cases c4 : (nthI r (i : Int) ((0 : Int), ((0 : Int), ((0 : Int), ((0 : Int), (0 : Int)))))).2.2.2.1 < 1
          · rw [cdp c4, cdn (fun h : ruleP n (q.length : Int) r i => by have := h.2.2.2.1; omega)]
          rw [cdn c4]
          by_cases c5 : 1000000 < (nthI r (i : Int) ((0 : Int), ((0 : Int), ((0 : Int), ((0 : Int), (0 : Int)))))).2.2.2.1
          · rw [cdp c5, cdn (fun h : ruleP n (q.length : Int) r i => by have := h.2.2.2.1; omega)]
          rw [cdn c5]
          by_cases c6 : (nthI r (i : Int) ((0 : Int), ((0 : Int), ((0 : Int), ((0 : Int), (0 : Int)))))).2.2.2.2 < 0
          · rw [cdp c6, cdn (fun h : ruleP n (q.length : Int) r i => by have := h.2.2.2.2; omega)]
          rw [cdn c6]
          by_cases c7 : 20 < (nthI r (i : Int) ((0 : Int), ((0 : Int), ((0 : Int), ((0 : Int), (0 : Int)))))).2.2.2.2
          · rw [cdp c7, cdn (fun h : ruleP n (q.length : Int) r i => by have := h.2.2.2.2; omega)]
          rw [cdn c7, cdp (show ruleP n (q.length : Int) r i from ⟨c1, c2, c3, by omega, by omega⟩)]
          rfl
        · rw [cdn c3, cdn (fun h : ruleP n (q.length : Int) r i => c3 h.2.2.1)]
      · rw [cdn c2, cdn (fun h : ruleP n (q.length : Int) r i => c2 h.2.1)]
    · rw [cdn c1, cdn (fun h : ruleP n (q.length : Int) r i => c1 h.1)]
  · show S.ConfOk_l2 (m + 1) _ _ _ _ _ _ _ _ _ _ = _
    rw [S.ConfOk_l2, cdn (by omega)]
theorem iConf_l0 (e0 : Bool → Int → Int → Int → List Int → List TQuery → List TSub → List TRule → Option Bool) (e1 : Int → Int → Int → List Int → List TQuery → List TSub → List TRule → Option Bool) (he : ∀ a b c u v w x, e0 false a b c u v w x = some false) :
    I.isConf_l0 fu e0 e1 (q.length : Int) 0 n src quo q up s r = if ∀ i, i < q.length → queryP q i then e1 n src quo up q s r else some false := by
  refine allLoopK (fun m i => I.isConf_l0 m e0 e1 (q.length : Int) i n src quo q up s r) q.length (queryP q) _ (by omega) (fun i m hi => ?_) (fun m => ?_)
  · show I.isConf_l0 (m + 1) _ _ _ _ _ _ _ _ _ _ _ = bif _ then I.isConf_l0 m _ _ _ _ _ _ _ _ _ _ _ else _
    have h1 := hw _ (nthI_mem q i ([], ([], (((0 : Int), ((0 : Int), (0 : Int))), ((0 : Int), (0 : Int))))) hi)
    rw [I.isConf_l0, cdp (by omega), cdp (show (0 : Int) ≤ (i : Int) ∧ (i : Int) < (q.length : Int) by omega), iQueryOk_eq _ _ _ _ _ _ _ h1.1.1 h1.1.2 h1.2.1 h1.2.2, Option.bind_some, he, cnotb, w64 (by omega) (by omega)]
    rfl
  · show I.isConf_l0 (m + 1) _ _ _ _ _ _ _ _ _ _ _ = _
    rw [I.isConf_l0, cdn (by omega)]
theorem iConf_l1 (e0 : Bool → Int → Int → Int → List Int → List TQuery → List TSub → List TRule → Option Bool) (e1 : Int → Int → Int → List Int → List TQuery → List TSub → List TRule → Option Bool) (he : ∀ a b c u v w x, e0 false a b c u v w x = some false) :
    I.isConf_l1 fu e0 e1 (s.length : Int) 0 n src quo s up q r = if ∀ i, i < s.length → subP n s i then e1 n src quo up q s r else some false := by
  refine allLoopK (fun m i => I.isConf_l1 m e0 e1 (s.length : Int) i n src quo s up q r) s.length (subP n s) _ (by omega) (fun i m hi => ?_) (fun m => ?_)
  · show I.isConf_l1 (m + 1) _ _ _ _ _ _ _ _ _ _ _ = bif _ then I.isConf_l1 m _ _ _ _ _ _ _ _ _ _ _ else _
    rw [I.isConf_l1, cdp (by omega), cdp (show (0 : Int) ≤ (i : Int) ∧ (i : Int) < (s.length : Int) by omega)]
    simp only [has_eq n _ up ⟨by omega, by omega⟩, capI_eq, Option.bind_some, he]
    rw [w64 (by omega) (by omega), cnotb, cnotb, cnotb]
    by_cases c1 : 0 ≤ (nthI s (i : Int) ((0 : Int), ((0 : Int), (0 : Int)))).1 ∧ (nthI s (i : Int) ((0 : Int), ((0 : Int), (0 : Int)))).1 < n
    · rw [cdp c1]
      by_cases c2 : 1 ≤ (nthI s (i : Int) ((0 : Int), ((0 : Int), (0 : Int)))).2.1 ∧ (nthI s (i : Int) ((0 : Int), ((0 : Int), (0 : Int)))).2.1 ≤ 50
      · rw [cdp c2]
        by_cases c3 : 1 ≤ (nthI s (i : Int) ((0 : Int), ((0 : Int), (0 : Int)))).2.2 ∧ (nthI s (i : Int) ((0 : Int), ((0 : Int), (0 : Int)))).2.2 ≤ 50
        · rw [cdp c3, cdp (show subP n s i from ⟨c1, c2, c3⟩)]; rfl
        · rw [cdn c3, cdn (fun h : subP n s i => c3 h.2.2)]
      · rw [cdn c2, cdn (fun h : subP n s i => c2 h.2.1)]
    · rw [cdn c1, cdn (fun h : subP n s i => c1 h.1)]
  · show I.isConf_l1 (m + 1) _ _ _ _ _ _ _ _ _ _ _ = _
    rw [I.isConf_l1, cdn (by omega)]
theorem iConf_l2 : I.isConf_l2 fu (fun y => some y) (some true) (r.length : Int) 0 n src quo r up q s = some (decide (∀ i, i < r.length → ruleP n (q.length : Int) r i) && true) := by
  refine allLoop (fun m i => I.isConf_l2 m (fun y => some y) (some true) (r.length : Int) i n src quo r up q s) r.length (ruleP n (q.length : Int) r) true (by omega) (fun i m hi => ?_) (fun m => ?_)
  · show I.isConf_l2 (m + 1) _ _ _ _ _ _ _ _ _ _ _ = bif _ then I.isConf_l2 m _ _ _ _ _ _ _ _ _ _ _ else _
    rw [I.isConf_l2, cdp (by omega), cdp (show (0 : Int) ≤ (i : Int) ∧ (i : Int) < (r.length : Int) by omega)]
    simp only [has_eq n _ up ⟨by omega, by omega⟩, in_eq, Option.bind_some]
    rw [w64 (n := (i : Int) + 1) (by omega) (by omega), w64 (n := (q.length : Int) - 1) (by omega) (by omega), cnotb, cnotb, cnotb, cnotb, cnotb]
    by_cases c1 : 0 ≤ (nthI r (i : Int) ((0 : Int), ((0 : Int), ((0 : Int), ((0 : Int), (0 : Int)))))).1 ∧ (nthI r (i : Int) ((0 : Int), ((0 : Int), ((0 : Int), ((0 : Int), (0 : Int)))))).1 ≤ (q.length : Int) - 1
    · rw [cdp c1]
      by_cases c2 : 0 ≤ (nthI r (i : Int) ((0 : Int), ((0 : Int), ((0 : Int), ((0 : Int), (0 : Int)))))).2.1 ∧ (nthI r (i : Int) ((0 : Int), ((0 : Int), ((0 : Int), ((0 : Int), (0 : Int)))))).2.1 < n
      · rw [cdp c2]
        by_cases c3 : 0 ≤ (nthI r (i : Int) ((0 : Int), ((0 : Int), ((0 : Int), ((0 : Int), (0 : Int)))))).2.2.1 ∧ (nthI r (i : Int) ((0 : Int), ((0 : Int), ((0 : Int), ((0 : Int), (0 : Int)))))).2.2.1 < n
        · rw [cdp c3]
          by_cases c4 : 1 ≤ (nthI r (i : Int) ((0 : Int), ((0 : Int), ((0 : Int), ((0 : Int), (0 : Int)))))).2.2.2.1 ∧ (nthI r (i : Int) ((0 : Int), ((0 : Int), ((0 : Int), ((0 : Int), (0 : Int)))))).2.2.2.1 ≤ 1000000
          · rw [cdp c4]
            by_cases c5 : 0 ≤ (nthI r (i : Int) ((0 : Int), ((0 : Int), ((0 : Int), ((0 : Int), (0 : Int)))))).2.2.2.2 ∧ (nthI r (i : Int) ((0 : Int), ((0 : Int), ((0 : Int), ((0 : Int), (0 : Int)))))).2.2.2.2 ≤ 20
            · rw [cdp c5, cdp (show ruleP n (q.length : Int) r i from ⟨by omega, c2, c3, c4, c5⟩)]; rfl
            · rw [cdn c5, cdn (fun h : ruleP n (q.length : Int) r i => c5 h.2.2.2.2)]
          · rw [cdn c4, cdn (fun h : ruleP n (q.length : Int) r i => c4 h.2.2.2.1)]
        · rw [cdn c3, cdn (fun h : ruleP n (q.length : Int) r i => c3 h.2.2.1)]
      · rw [cdn c2, cdn (fun h : ruleP n (q.length : Int) r i => c2 h.2.1)]
    · rw [cdn c1, cdn (fun h : ruleP n (q.length : Int) r i => c1 ⟨h.1.1, by have := h.1.2; omega⟩)]
  · show I.isConf_l2 (m + 1) _ _ _ _ _ _ _ _ _ _ _ = _
    rw [I.isConf_l2, cdn (by omega)]
end
theorem sConfOk_eq (n src quo : Int) (up : List Int) (q : List TQuery) (s : List TSub) (r : List TRule) (hw : queryW q) : S.ConfOk n src quo up q s r = some (decide (confOk n src quo up q s r)) := by
  unfold S.ConfOk
  rw [sLatOk_eq, Option.bind_some, cnotb]
  by_cases c1 : ¬ latOk n up
  · rw [cdn c1]; exact sfal fun h => c1 h.1
  have c1 := Decidable.not_not.1 c1
  rw [cdp c1]
  by_cases c2 : src < 1
  · rw [cdp c2]; exact sfal fun h => by have := h.2.1; omega
  rw [cdn c2]
  by_cases c3 : 4 < src
  · rw [cdp c3]; exact sfal fun h => by have := h.2.1; omega
  rw [cdn c3]
  by_cases c4 : quo < 1
  · rw [cdp c4]; exact sfal fun h => by have := h.2.2.1; omega
  rw [cdn c4]
  by_cases c5 : 30 < quo
  · rw [cdp c5]; exact sfal fun h => by have := h.2.2.1; omega
  rw [cdn c5]
  by_cases c6 : (q.length : Int) < 1
  · rw [cdp c6]; exact sfal fun h => by have := h.2.2.2.1; omega
  rw [cdn c6]
  by_cases c7 : 4 < (q.length : Int)
  · rw [cdp c7]; exact sfal fun h => by have := h.2.2.2.1; omega
  rw [cdn c7]
  by_cases c8 : (s.length : Int) < 1
  · rw [cdp c8]; exact sfal fun h => by have := h.2.2.2.2.1; omega
  rw [cdn c8]
  by_cases c9 : 4 < (s.length : Int)
  · rw [cdp c9]; exact sfal fun h => by have := h.2.2.2.2.1; omega
  rw [cdn c9]
  by_cases c10 : 3 < (r.length : Int)
  · rw [cdp c10]; exact sfal fun h => by have := h.2.2.2.2.2.1; omega
  rw [cdn c10, sConf_l0 n src quo up q s r c1.1 (by omega) (by omega) (by omega) hw (fun y35 y36 y37 y38 y39 y40 y41 y42 => some y35) _ (fun _ _ _ _ _ _ _ => rfl)]
  by_cases c11 : ¬ ∀ i, i < q.length → queryP q i
  · rw [if_neg c11]; exact sfal fun h => c11 h.2.2.2.2.2.2.1
  have c11 := Decidable.not_not.1 c11
  rw [if_pos c11, sConf_l1 n src quo up q s r c1.1 (by omega) (by omega) (by omega) hw (fun y35 y36 y37 y38 y39 y40 y41 y42 => some y35) _ (fun _ _ _ _ _ _ _ => rfl)]
  by_cases c12 : ¬ ∀ i, i < s.length → subP n s i
  · rw [if_neg c12]; exact sfal fun h => c12 h.2.2.2.2.2.2.2.1
  have c12 := Decidable.not_not.1 c12
  rw [if_pos c12, sConf_l2 n src quo up q s r c1.1 (by omega) (by omega) (by omega) hw, Bool.and_true]
  exact sdec ⟨fun h => ⟨c1, by omega, by omega, by omega, by omega, by omega, c11, c12, h⟩, fun h => h.2.2.2.2.2.2.2.2⟩
theorem iConfOk_eq (n src quo : Int) (up : List Int) (q : List TQuery) (s : List TSub) (r : List TRule) (hw : queryW q) (hu : ∀ y ∈ up, (Lit.int .u64 y).wf = true) : I.isConf n src quo up q s r = some (decide (confOk n src quo up q s r)) := by
  unfold I.isConf
  rw [iLatOk_eq n up hu]
  simp only [in_eq, Option.bind_some, cnotb]
  by_cases c1 : ¬ latOk n up
  · rw [cdn c1]; exact sfal fun h => c1 h.1
  have c1 := Decidable.not_not.1 c1
  rw [cdp c1]
  by_cases c2 : ¬ (1 ≤ src ∧ src ≤ 4)
  · rw [cdn c2]; exact sfal fun h => c2 h.2.1
  have c2 := Decidable.not_not.1 c2
  rw [cdp c2]
  by_cases c4 : ¬ (1 ≤ quo ∧ quo ≤ 30)
  · rw [cdn c4]; exact sfal fun h => c4 h.2.2.1
  have c4 := Decidable.not_not.1 c4
  rw [cdp c4]
  by_cases c6 : ¬ (1 ≤ (q.length : Int) ∧ (q.length : Int) ≤ 4)
  · rw [cdn c6]; exact sfal fun h => by have := h.2.2.2.1; omega
  have c6 := Decidable.not_not.1 c6
  rw [cdp c6]
  by_cases c8 : ¬ (1 ≤ (s.length : Int) ∧ (s.length : Int) ≤ 4)
  · rw [cdn c8]; exact sfal fun h => by have := h.2.2.2.2.1; omega
  have c8 := Decidable.not_not.1 c8
  rw [cdp c8]
  by_cases c10 : 3 < (r.length : Int)
  · rw [cdp c10]; exact sfal fun h => by have := h.2.2.2.2.2.1; omega
  rw [cdn c10, iConf_l0 n src quo up q s r c1.1 (by omega) (by omega) (by omega) hw (fun y35 y36 y37 y38 y39 y40 y41 y42 => some y35) _ (fun _ _ _ _ _ _ _ => rfl)]
  by_cases c11 : ¬ ∀ i, i < q.length → queryP q i
  · rw [if_neg c11]; exact sfal fun h => c11 h.2.2.2.2.2.2.1
  have c11 := Decidable.not_not.1 c11
  rw [if_pos c11, iConf_l1 n src quo up q s r c1.1 (by omega) (by omega) (by omega) hw (fun y35 y36 y37 y38 y39 y40 y41 y42 => some y35) _ (fun _ _ _ _ _ _ _ => rfl)]
  by_cases c12 : ¬ ∀ i, i < s.length → subP n s i
  · rw [if_neg c12]; exact sfal fun h => c12 h.2.2.2.2.2.2.2.1
  have c12 := Decidable.not_not.1 c12
  rw [if_pos c12, iConf_l2 n src quo up q s r c1.1 (by omega) (by omega) (by omega) hw, Bool.and_true]
  exact sdec ⟨fun h => ⟨c1, c2, c4, by omega, by omega, by omega, c11, c12, h⟩, fun h => h.2.2.2.2.2.2.2.2⟩
def cellOk (c : TCell) : Prop := (0 ≤ c.1 ∧ c.1 ≤ 3) ∧ (0 ≤ c.2.1 ∧ c.2.1 ≤ 15) ∧ (0 ≤ c.2.2.2.2.1 ∧ c.2.2.2.2.1 ≤ 15) ∧ (0 ≤ c.2.2.1 ∧ c.2.2.1 < c.2.2.2.1 ∧ c.2.2.2.1 ≤ 1100) ∧ aggOk c.2.2.2.2.2.1 c.2.2.2.2.2.2.1.1 c.2.2.2.2.2.2.1.2 c.2.2.2.2.2.2.2.1 c.2.2.2.2.2.2.2.2.1 c.2.2.2.2.2.2.2.2.2 ∧ 0 < c.2.2.2.2.2.1
instance (c : TCell) : Decidable (cellOk c) := by unfold cellOk; exact inferInstance
theorem l06Win_eq (a b : Int) : S.l06Win a b = some (decide (0 ≤ a ∧ a < b ∧ b ≤ 1100)) := by unfold S.l06Win; simp only [cds]
theorem isWin_eq (a b : Int) : I.isWin a b = some (decide (0 ≤ a ∧ a < b ∧ b ≤ 1100)) := by unfold I.isWin; simp only [cds]
theorem isId_eq (a : Int) : I.isId a = some (decide (0 ≤ a ∧ a ≤ 3)) := by unfold I.isId; rw [in_eq]; rfl
theorem isCellPlace_eq (a b c : Int) : I.isCellPlace a b c = some (decide ((0 ≤ a ∧ a ≤ 3) ∧ (0 ≤ b ∧ b ≤ 15) ∧ (0 ≤ c ∧ c ≤ 15))) := by
  unfold I.isCellPlace; simp only [isId_eq, isKey_eq, in_eq, Option.bind_some, cds]
theorem agg_wf {c : TCell} (h : bCell c) (hl : c.2.2.2.2.2.2.2.2.2.length ≤ 1000000000) : S.AggOk c.2.2.2.2.2.1 c.2.2.2.2.2.2.1.1 c.2.2.2.2.2.2.1.2 c.2.2.2.2.2.2.2.1 c.2.2.2.2.2.2.2.2.1 c.2.2.2.2.2.2.2.2.2 = some (decide (aggOk c.2.2.2.2.2.1 c.2.2.2.2.2.2.1.1 c.2.2.2.2.2.2.1.2 c.2.2.2.2.2.2.2.1 c.2.2.2.2.2.2.2.2.1 c.2.2.2.2.2.2.2.2.2)) ∧ I.isAgg c.2.2.2.2.2.1 c.2.2.2.2.2.2.1.1 c.2.2.2.2.2.2.1.2 c.2.2.2.2.2.2.2.1 c.2.2.2.2.2.2.2.2.1 c.2.2.2.2.2.2.2.2.2 = some (decide (aggOk c.2.2.2.2.2.1 c.2.2.2.2.2.2.1.1 c.2.2.2.2.2.2.1.2 c.2.2.2.2.2.2.2.1 c.2.2.2.2.2.2.2.2.1 c.2.2.2.2.2.2.2.2.2)) := by
  obtain ⟨_, _, _, _, _, h6, ⟨h7, h8⟩, h9, h10, h11⟩ := h
  have q8 : 0 ≤ c.2.2.2.2.2.2.1.2 ∧ c.2.2.2.2.2.2.1.2 < 18446744073709551616 := u64_wf h8
  have qt : ∀ x ∈ c.2.2.2.2.2.2.2.2.2, inI x := fun x hx => i64_wf (h11.2 x hx)
  exact ⟨sAggOk_eq _ _ _ _ _ _ (i64_wf h6) (i64_wf h7) q8.1 q8.2 (i64_wf h9) qt hl, iAggOk_eq _ _ _ _ _ _ (i64_wf h6) (i64_wf h7) q8.1 q8.2 (i64_wf h9) qt hl⟩
theorem sCellOk_eq (c : TCell) (h : bCell c) (hl : c.2.2.2.2.2.2.2.2.2.length ≤ 1000000000) : S.CellOk c.1 c.2.1 c.2.2.1 c.2.2.2.1 c.2.2.2.2.1 c.2.2.2.2.2.1 c.2.2.2.2.2.2.1.1 c.2.2.2.2.2.2.1.2 c.2.2.2.2.2.2.2.1 c.2.2.2.2.2.2.2.2.1 c.2.2.2.2.2.2.2.2.2 = some (decide (cellOk c)) := by
  unfold S.CellOk
  simp only [l04Key_eq, l06Win_eq, (agg_wf h hl).1, Option.bind_some, cds]
  refine sdec ?_
  unfold cellOk
  by_cases hA : aggOk c.2.2.2.2.2.1 c.2.2.2.2.2.2.1.1 c.2.2.2.2.2.2.1.2 c.2.2.2.2.2.2.2.1 c.2.2.2.2.2.2.2.2.1 c.2.2.2.2.2.2.2.2.2 <;> simp only [hA, and_true, true_and, false_and, and_false] <;> omega
theorem iCellOk_eq (c : TCell) (h : bCell c) (hl : c.2.2.2.2.2.2.2.2.2.length ≤ 1000000000) : I.isCell c.1 c.2.1 c.2.2.1 c.2.2.2.1 c.2.2.2.2.1 c.2.2.2.2.2.1 c.2.2.2.2.2.2.1.1 c.2.2.2.2.2.2.1.2 c.2.2.2.2.2.2.2.1 c.2.2.2.2.2.2.2.2.1 c.2.2.2.2.2.2.2.2.2 = some (decide (cellOk c)) := by
  unfold I.isCell I.Cell_win
  simp only [isCellPlace_eq, isWin_eq, (agg_wf h hl).2, Option.bind_some, cds]
  refine sdec ?_
  unfold cellOk
  by_cases hA : aggOk c.2.2.2.2.2.1 c.2.2.2.2.2.2.1.1 c.2.2.2.2.2.2.1.2 c.2.2.2.2.2.2.2.1 c.2.2.2.2.2.2.2.2.1 c.2.2.2.2.2.2.2.2.2 <;> simp only [hA, and_true, true_and, false_and, and_false] <;> omega
def cellLt (a b : TCell) : Prop :=
  if a.1 ≠ b.1 then a.1 < b.1 else if a.2.1 ≠ b.2.1 then a.2.1 < b.2.1 else if a.2.2.1 ≠ b.2.2.1 then a.2.2.1 < b.2.2.1 else if a.2.2.2.1 ≠ b.2.2.2.1 then a.2.2.2.1 < b.2.2.2.1 else a.2.2.2.2.1 < b.2.2.2.2.1
instance (a b : TCell) : Decidable (cellLt a b) := by unfold cellLt; exact inferInstance
theorem sLess_eq (a b : TCell) : S.l09Less a.1 a.2.1 a.2.2.1 a.2.2.2.1 a.2.2.2.2.1 a.2.2.2.2.2.1 a.2.2.2.2.2.2.1.1 a.2.2.2.2.2.2.1.2 a.2.2.2.2.2.2.2.1 a.2.2.2.2.2.2.2.2.1 b.1 b.2.1 b.2.2.1 b.2.2.2.1 b.2.2.2.2.1 b.2.2.2.2.2.1 b.2.2.2.2.2.2.1.1 b.2.2.2.2.2.2.1.2 b.2.2.2.2.2.2.2.1 b.2.2.2.2.2.2.2.2.1 a.2.2.2.2.2.2.2.2.2 b.2.2.2.2.2.2.2.2.2 = some (decide (cellLt a b)) := by
  unfold S.l09Less
  simp only [Bool.cond_eq_ite, bne_iff_ne]
  repeat' split
  all_goals exact sdec (by unfold cellLt; simp_all)
theorem orF_four (x y z w : Int) : orF [x, y, z, w] = if x ≠ 0 then x else if y ≠ 0 then y else if z ≠ 0 then z else w := by
  by_cases h : x = 0 <;> by_cases h2 : y = 0 <;> by_cases h3 : z = 0 <;> by_cases h4 : w = 0 <;> simp [orF, h, h2, h3, h4]
theorem cmpF_neg (a b : Int) : cmpF a b < 0 ↔ a < b := by unfold cmpF; split <;> (try split) <;> omega
def cellCmp (a b : TCell) : Int := orF [orF [cmpF a.1 b.1, cmpF a.2.1 b.2.1, cmpF a.2.2.1 b.2.2.1, cmpF a.2.2.2.1 b.2.2.2.1], cmpF a.2.2.2.2.1 b.2.2.2.2.1]
theorem iCompareCells_eq (a b : TCell) : I.compareCells a.1 a.2.1 a.2.2.1 a.2.2.2.1 a.2.2.2.2.1 a.2.2.2.2.2.1 a.2.2.2.2.2.2.1.1 a.2.2.2.2.2.2.1.2 a.2.2.2.2.2.2.2.1 a.2.2.2.2.2.2.2.2.1 b.1 b.2.1 b.2.2.1 b.2.2.2.1 b.2.2.2.2.1 b.2.2.2.2.2.1 b.2.2.2.2.2.2.1.1 b.2.2.2.2.2.2.1.2 b.2.2.2.2.2.2.2.1 b.2.2.2.2.2.2.2.2.1 a.2.2.2.2.2.2.2.2.2 b.2.2.2.2.2.2.2.2.2 = some (cellCmp a b) := by
  unfold I.compareCells I.compareSeats cellCmp
  rw [compareInt_eq, compareInt_eq, compareInt_eq, compareInt_eq, compareInt_eq]
  simp only [Option.bind_some]
  rw [orInt_eq _ (by simp)]
  simp only [Option.bind_some]
  rw [orInt_eq _ (by simp)]
  rfl
theorem cellCmp_neg (a b : TCell) : cellCmp a b < 0 ↔ cellLt a b := by
  unfold cellCmp cellLt
  rw [orF_two, orF_four]
  by_cases c1 : a.1 = b.1 <;> by_cases c2 : a.2.1 = b.2.1 <;> by_cases c3 : a.2.2.1 = b.2.2.1 <;> by_cases c4 : a.2.2.2.1 = b.2.2.2.1 <;> simp [c1, c2, c3, c4, cmpF_zero, cmpF_neg]
abbrev cellD : TCell := ((0 : Int), ((0 : Int), ((0 : Int), ((0 : Int), ((0 : Int), ((0 : Int), (((0 : Int), (0 : Int)), ((0 : Int), ((0 : Int), [])))))))))
def cellsP (a : List TCell) (i : Nat) : Prop := cellOk (nthI a (i : Int) cellD) ∧ (i = 0 ∨ cellLt (nthI a ((i - 1 : Nat) : Int) cellD) (nthI a (i : Int) cellD))
instance (a : List TCell) : DecidablePred (cellsP a) := fun i => by unfold cellsP; exact inferInstance
def cellsOk (a : List TCell) : Prop := (∀ j, j < a.length → cellsP a j) ∧ a.length ≤ 10000
instance (a : List TCell) : Decidable (cellsOk a) := by unfold cellsOk; exact inferInstance
section
variable (a : List TCell) (hw : ∀ x ∈ a, bCell x) (hc : cCellS a ≤ 1000000000)
include hw hc
theorem cell_len {x : TCell} (h : x ∈ a) : x.2.2.2.2.2.2.2.2.2.length ≤ 1000000000 := Nat.le_trans (cCellS_mem h) hc
theorem sCellsOk_eq : S.CellsOk a = some (decide (cellsOk a)) := by
  have hn : a.length ≤ 1000000000 := by unfold cCellS at hc; omega
  unfold S.CellsOk
  by_cases h : 10000 < a.length
  · rw [cdp (by omega)]; exact sfal fun q => by have := q.2; omega
  rw [cdn (by omega)]
  refine (allLoop (fun m i => S.CellsOk_l0 m (fun y => some y) (some true) i a) a.length (cellsP a) true (by omega) (fun i m hi => ?_) (fun m => ?_)).trans ?_
  · show S.CellsOk_l0 (m + 1) _ _ _ _ = bif _ then S.CellsOk_l0 m _ _ _ _ else _
    have hx := nthI_mem a i cellD hi
    have hdec : decide ((0 : Int) ≤ (i : Int) ∧ (i : Int) < (a.length : Int)) = true := decide_eq_true (by omega)
    rw [S.CellsOk_l0, cdp (by omega)]
    simp only [hdec, cond_true]
    rw [sCellOk_eq (nthI a (i : Int) cellD) (hw _ hx) (cell_len a hw hc hx), Option.bind_some]
    by_cases c1 : cellOk (nthI a (i : Int) cellD)
    · rw [decide_eq_true c1, Bool.not_true, cond_false]
      by_cases c2 : 0 < i
      · have hd2 : decide ((0 : Int) ≤ ((i - 1 : Nat) : Int) ∧ ((i - 1 : Nat) : Int) < (a.length : Int)) = true := decide_eq_true (by omega)
        have e1 : IntKind.i64.wrap ((i : Int) - 1) = ((i - 1 : Nat) : Int) := by rw [w64 (by omega) (by omega)]; omega
        rw [cdp (by omega)]
        simp only [e1, hd2, cond_true]
        rw [sLess_eq (nthI a ((i - 1 : Nat) : Int) cellD) (nthI a (i : Int) cellD), Option.bind_some, w64 (by omega) (by omega)]
        by_cases c3 : cellLt (nthI a ((i - 1 : Nat) : Int) cellD) (nthI a (i : Int) cellD)
        · rw [decide_eq_true c3, cdp (show cellsP a i from ⟨c1, .inr c3⟩)]; rfl
        · rw [decide_eq_false c3, cdn (fun q : cellsP a i => q.2.elim (by omega) c3)]; rfl
      · rw [cdn (by omega), w64 (by omega) (by omega), cdp (show cellsP a i from ⟨c1, .inl (by omega)⟩)]; rfl
    · rw [decide_eq_false c1, Bool.not_false, cond_true, cdn (fun q : cellsP a i => c1 q.1)]
  · show S.CellsOk_l0 (m + 1) _ _ _ _ = _
    rw [S.CellsOk_l0, cdn (by omega)]
  · rw [Bool.and_true]; exact sdec ⟨fun q => ⟨q, by omega⟩, fun q => q.1⟩
theorem iCellsOk_eq : I.areCells a = some (decide (cellsOk a)) := by
  have hn : a.length ≤ 1000000000 := by unfold cCellS at hc; omega
  unfold I.areCells
  refine (allLoop (fun m i => I.areCells_l0 m (fun y z => some y) (fun y => some (decide ((y.length : Int) ≤ 10000))) (a.length : Int) i a) a.length (cellsP a) (decide ((a.length : Int) ≤ 10000)) (by omega) (fun i m hi => ?_) (fun m => ?_)).trans ?_
  · show I.areCells_l0 (m + 1) _ _ _ _ _ = bif _ then I.areCells_l0 m _ _ _ _ _ else _
    have hx := nthI_mem a i cellD hi
    have hdec : decide ((0 : Int) ≤ (i : Int) ∧ (i : Int) < (a.length : Int)) = true := decide_eq_true (by omega)
    rw [I.areCells_l0, cdp (by omega)]
    simp only [hdec, cond_true]
    rw [iCellOk_eq (nthI a (i : Int) cellD) (hw _ hx) (cell_len a hw hc hx), Option.bind_some]
    by_cases c1 : cellOk (nthI a (i : Int) cellD)
    · rw [decide_eq_true c1, Bool.not_true, cond_false]
      by_cases c2 : 0 < i
      · have hd2 : decide ((0 : Int) ≤ ((i - 1 : Nat) : Int) ∧ ((i - 1 : Nat) : Int) < (a.length : Int)) = true := decide_eq_true (by omega)
        have e1 : IntKind.i64.wrap ((i : Int) - 1) = ((i - 1 : Nat) : Int) := by rw [w64 (by omega) (by omega)]; omega
        rw [cdp (by omega)]
        simp only [e1, hd2, cond_true]
        rw [iCompareCells_eq (nthI a ((i - 1 : Nat) : Int) cellD) (nthI a (i : Int) cellD), Option.bind_some, w64 (by omega) (by omega)]
        have hneg := cellCmp_neg (nthI a ((i - 1 : Nat) : Int) cellD) (nthI a (i : Int) cellD)
        by_cases c3 : cellLt (nthI a ((i - 1 : Nat) : Int) cellD) (nthI a (i : Int) cellD)
        · have := hneg.2 c3
          rw [cdn (by omega), cdp (show cellsP a i from ⟨c1, .inr c3⟩)]; rfl
        · have : ¬ _ := fun q => c3 (hneg.1 q)
          rw [cdp (by omega), cdn (fun q : cellsP a i => q.2.elim (by omega) c3)]
      · rw [cdn (by omega), w64 (by omega) (by omega), cdp (show cellsP a i from ⟨c1, .inl (by omega)⟩)]; rfl
    · rw [decide_eq_false c1, Bool.not_false, cond_true, cdn (fun q : cellsP a i => c1 q.1)]
  · show I.areCells_l0 (m + 1) _ _ _ _ _ = _
    rw [I.areCells_l0, cdn (by omega)]
  · rw [dand]; exact sdec ⟨fun q => ⟨q.1, by omega⟩, fun q => ⟨q.1, by have := q.2; omega⟩⟩
end
def rightP (p : TPunct) : Prop := (0 ≤ p.1 ∧ p.1 ≤ 3) ∧ (0 ≤ p.2.1 ∧ p.2.1 ≤ 4) ∧ (0 ≤ p.2.2.1 ∧ p.2.2.1 ≤ 15) ∧ p.2.2.1 % (if p.2.1 = 0 then 16 else if p.2.1 = 1 then 8 else if p.2.1 = 2 then 4 else if p.2.1 = 3 then 2 else 1) = 0
instance (p : TPunct) : Decidable (rightP p) := by unfold rightP; exact inferInstance
def punctLt (a b : TPunct) : Prop := if a.1 ≠ b.1 then a.1 < b.1 else if a.2.1 ≠ b.2.1 then a.2.1 < b.2.1 else a.2.2.1 < b.2.2.1
instance (a b : TPunct) : Decidable (punctLt a b) := by unfold punctLt; exact inferInstance
theorem l04Src_eq' (a : Int) : S.l04Src a = some (decide (0 ≤ a ∧ a < 4)) := by unfold S.l04Src; simp only [cds]
theorem l04Bits_eq' (a : Int) : S.l04Bits a = some (decide (0 ≤ a ∧ a ≤ 4)) := by unfold S.l04Bits; simp only [cds]
theorem l04Key_eq' (a : Int) : S.l04Key a = some (decide (0 ≤ a ∧ a ≤ 15)) := by unfold S.l04Key; simp only [cds]
theorem isSource_eq' (a : Int) : I.isSource a = some (decide (0 ≤ a ∧ a ≤ 3)) := by unfold I.isSource; rw [in_eq]; rfl
theorem isKey_eq' (a : Int) : I.isKey a = some (decide (0 ≤ a ∧ a ≤ 15)) := by unfold I.isKey; rw [in_eq]; rfl
theorem pow4_l (e : Int → Option Int) (m : Nat) : ∀ (d : Nat) (x : Int), 0 ≤ x → x * 2 ^ d ≤ 1000 → d ≤ 10 → S.l04Pow_l0 (d + 1 + m) e (d : Int) x = e (x * 2 ^ d)
  | 0, x, h0, h1, hd => by
    rw [show 0 + 1 + m = m + 1 from by omega, S.l04Pow_l0, cdn (by omega)]
    simp
  | d + 1, x, h0, h1, hd => by
    have h2 : x * 2 ^ (d + 1) = 2 * x * 2 ^ d := by rw [Int.pow_succ, Int.mul_comm (2 ^ d) 2, ← Int.mul_assoc, Int.mul_comm x 2]
    have hp : (1 : Int) ≤ 2 ^ d := by have : (0 : Int) < 2 ^ d := Int.pow_pos (by omega); omega
    have h3 : 2 * x ≤ 2 * x * 2 ^ d := by have := Int.mul_le_mul_of_nonneg_left hp (show 0 ≤ 2 * x by omega); omega
    rw [show d + 1 + 1 + m = (d + 1 + m) + 1 from by omega, S.l04Pow_l0, cdp (by omega), w64 (by omega) (by omega), w64 (by omega) (by omega), show ((d + 1 : Nat) : Int) - 1 = (d : Int) from by omega, pow4_l e m d (2 * x) (by omega) (by omega) (by omega), h2]
theorem pow4_eq (n : Nat) (h : n ≤ 4) : S.l04Pow (n : Int) = some (2 ^ n) := by
  unfold S.l04Pow
  obtain ⟨m, hm⟩ := fu_ge n (by omega)
  have hp : (2 : Int) ^ n ≤ 2 ^ 4 := by
    have : 2 ^ n ≤ 2 ^ 4 := Nat.pow_le_pow_right (by omega) h
    exact_mod_cast this
  rw [hm, pow4_l _ m n 1 (by omega) (by omega) (by omega), Int.one_mul]
theorem sRight_eq (p : TPunct) : S.l04Right p.1 p.2.1 p.2.2.1 p.2.2.2 = some (decide (rightP p)) := by
  obtain ⟨a, b, k, l⟩ := p
  unfold S.l04Right
  simp only [l04Src_eq', l04Bits_eq', l04Key_eq', Option.bind_some, dup_eq, same_self]
  by_cases h1 : 0 ≤ a ∧ a < 4
  · by_cases h2 : 0 ≤ b ∧ b ≤ 4
    · by_cases h3 : 0 ≤ k ∧ k ≤ 15
      · rw [decide_eq_true h1, cond_true, decide_eq_true h2, cond_true, decide_eq_true h3, cond_true, w64 (by omega) (by omega)]
        obtain ⟨c, hc⟩ : ∃ c : Nat, 4 - b = (c : Int) := ⟨(4 - b).toNat, by omega⟩
        have hc4 : c ≤ 4 := by omega
        rw [hc, pow4_eq c hc4, Option.bind_some]
        have hb : b = 4 - (c : Int) := by omega
        subst hb
        have key : ∀ d : Nat, d ≤ 4 → ((2 : Int) ^ d = if (4 : Int) - (d : Int) = 0 then 16 else if (4 : Int) - (d : Int) = 1 then 8 else if (4 : Int) - (d : Int) = 2 then 4 else if (4 : Int) - (d : Int) = 3 then 2 else 1) := by
          intro d hd
          match d, hd with
          | 0, _ => rfl
          | 1, _ => rfl
          | 2, _ => rfl
          | 3, _ => rfl
          | 4, _ => rfl
        have hpos : (0 : Int) < 2 ^ c := Int.pow_pos (by omega)
        rw [cdn (by omega), tmod_nat _ _ h3.1, key c hc4]
        refine congrArg some ?_
        rw [Bool.eq_iff_iff]
        simp only [beq_iff_eq, decide_eq_true_eq]
        exact ⟨fun h => ⟨⟨h1.1, by show a ≤ 3; omega⟩, h2, h3, h⟩, fun h => h.2.2.2⟩
      · rw [decide_eq_true h1, cond_true, decide_eq_true h2, cond_true, decide_eq_false h3, cond_false, decide_eq_false (fun h : rightP (a, b, k, l) => h3 h.2.2.1)]
    · rw [decide_eq_true h1, cond_true, decide_eq_false h2, cond_false, decide_eq_false (fun h : rightP (a, b, k, l) => h2 h.2.1)]
  · rw [decide_eq_false h1, cond_false, decide_eq_false (fun h : rightP (a, b, k, l) => h1 ⟨h.1.1, by have : a ≤ 3 := h.1.2; omega⟩)]
theorem iPunct_eq (n : Int) (p : TPunct) (up : List Int) (hn : 0 ≤ n ∧ n ≤ 100) : I.isPunct n p.1 p.2.1 p.2.2.1 p.2.2.2 up = some (decide (rightP p ∧ (0 ≤ p.2.2.2 ∧ p.2.2.2 < n))) := by
  obtain ⟨a, b, k, l⟩ := p
  unfold I.isPunct I.Punct_isPlace I.Punct_front
  simp only [isSource_eq', isKey_eq', in_eq, has_eq n _ up hn, Option.bind_some, dup_eq, same_self]
  by_cases h1 : 0 ≤ a ∧ a ≤ 3
  · by_cases h2 : 0 ≤ b ∧ b ≤ 4
    · by_cases h3 : 0 ≤ k ∧ k ≤ 15
      · rw [decide_eq_true h1, cond_true, decide_eq_true h2, cond_true, decide_eq_true h3, Option.bind_some, cond_true, w64 (n := 4 - b) (by omega) (by omega)]
        rw [cdp (by omega), Option.bind_some, cdp (by omega)]
        have core : ∀ w : Int, (w = 16 ∨ w = 8 ∨ w = 4 ∨ w = 2 ∨ w = 1) → (2 : Int) ^ min (Int.toNat (4 - b)) (IntKind.bits .i64) = w → (w = if b = 0 then 16 else if b = 1 then 8 else if b = 2 then 4 else if b = 3 then 2 else 1) →
            (bif (IntKind.wrap .i64 (Int.fdiv k (2 ^ min (Int.toNat (4 - b)) (IntKind.bits .i64)) * 2 ^ min (Int.toNat (4 - b)) (IntKind.bits .i64)) == k) then (some (decide (0 ≤ l ∧ l < n))) else (some false)) = some (decide (rightP (a, b, k, l) ∧ (0 ≤ l ∧ l < n))) := by
          intro w hw he hif
          rw [he, Int.fdiv_eq_ediv_of_nonneg _ (by omega)]
          have hle : k / w * w ≤ k ∧ 0 ≤ k / w * w := by rcases hw with rfl | rfl | rfl | rfl | rfl <;> omega
          rw [w64 (by omega) (by omega)]
          by_cases hk : k / w * w = k
          · rw [cep hk]
            refine sdec ⟨fun h => ⟨⟨h1, h2, h3, ?_⟩, h⟩, fun h => h.2⟩
            show k % (if b = 0 then 16 else if b = 1 then 8 else if b = 2 then 4 else if b = 3 then 2 else 1) = 0
            rw [← hif]
            rcases hw with rfl | rfl | rfl | rfl | rfl <;> omega
          · rw [cen hk, decide_eq_false]
            intro h
            have h4 : k % (if b = 0 then 16 else if b = 1 then 8 else if b = 2 then 4 else if b = 3 then 2 else 1) = 0 := h.1.2.2.2
            rw [← hif] at h4
            apply hk
            rcases hw with rfl | rfl | rfl | rfl | rfl <;> omega
        have hb : b = 0 ∨ b = 1 ∨ b = 2 ∨ b = 3 ∨ b = 4 := by omega
        rcases hb with rfl | rfl | rfl | rfl | rfl
        · exact core 16 (by omega) rfl rfl
        · exact core 8 (by omega) rfl rfl
        · exact core 4 (by omega) rfl rfl
        · exact core 2 (by omega) rfl rfl
        · exact core 1 (by omega) rfl rfl
      · rw [decide_eq_true h1, cond_true, decide_eq_true h2, cond_true, decide_eq_false h3, Option.bind_some, cond_false, decide_eq_false (fun h : rightP (a, b, k, l) ∧ _ => h3 h.1.2.2.1)]
    · rw [decide_eq_true h1, cond_true, decide_eq_false h2, cond_false, Option.bind_some, cond_false, decide_eq_false (fun h : rightP (a, b, k, l) ∧ _ => h2 h.1.2.1)]
  · rw [decide_eq_false h1, cond_false, Option.bind_some, cond_false, decide_eq_false (fun h : rightP (a, b, k, l) ∧ _ => h1 h.1.1)]
theorem sPunctLess_eq (a b : TPunct) : S.l04Less a.1 a.2.1 a.2.2.1 a.2.2.2 b.1 b.2.1 b.2.2.1 b.2.2.2 = some (decide (punctLt a b)) := by
  unfold S.l04Less
  simp only [Bool.cond_eq_ite, bne_iff_ne]
  repeat' split
  all_goals exact sdec (by unfold punctLt; simp_all)
theorem orF_three (x y z : Int) : orF [x, y, z] = if x ≠ 0 then x else if y ≠ 0 then y else z := by
  by_cases h : x = 0 <;> by_cases h2 : y = 0 <;> by_cases h3 : z = 0 <;> simp [orF, h, h2, h3]
def punctCmp (a b : TPunct) : Int := orF [cmpF a.1 b.1, cmpF a.2.1 b.2.1, cmpF a.2.2.1 b.2.2.1]
theorem iComparePuncts_eq (a b : TPunct) : I.comparePuncts a.1 a.2.1 a.2.2.1 a.2.2.2 b.1 b.2.1 b.2.2.1 b.2.2.2 = some (punctCmp a b) := by
  unfold I.comparePuncts punctCmp
  rw [compareInt_eq, compareInt_eq, compareInt_eq]
  simp only [Option.bind_some]
  rw [orInt_eq _ (by simp)]
  rfl
theorem punctCmp_neg (a b : TPunct) : punctCmp a b < 0 ↔ punctLt a b := by
  unfold punctCmp punctLt
  rw [orF_three]
  by_cases c1 : a.1 = b.1 <;> by_cases c2 : a.2.1 = b.2.1 <;> simp [c1, c2, cmpF_zero, cmpF_neg]
abbrev punctD : TPunct := ((0 : Int), ((0 : Int), ((0 : Int), (0 : Int))))
def polP (n : Int) (a : List TPunct) (i : Nat) : Prop := (rightP (nthI a (i : Int) punctD) ∧ (0 ≤ (nthI a (i : Int) punctD).2.2.2 ∧ (nthI a (i : Int) punctD).2.2.2 < n)) ∧ (i = 0 ∨ punctLt (nthI a ((i - 1 : Nat) : Int) punctD) (nthI a (i : Int) punctD))
instance (n : Int) (a : List TPunct) : DecidablePred (polP n a) := fun i => by unfold polP; exact inferInstance
def policyOk (n : Int) (a : List TPunct) : Prop := (∀ j, j < a.length → polP n a j) ∧ a.length ≤ 12
instance (n : Int) (a : List TPunct) : Decidable (policyOk n a) := by unfold policyOk; exact inferInstance
theorem sPolicy_eq (n : Int) (up : List Int) (a : List TPunct) (hl : latOk n up) (hn : a.length ≤ 1048576) : S.PolicyOk n up a = some (decide (policyOk n a)) := by
  unfold S.PolicyOk
  rw [sLatOk_eq, Option.bind_some, decide_eq_true hl, Bool.not_true, cond_false]
  by_cases h : 12 < a.length
  · rw [cdp (by omega)]; exact sfal fun q => by have := q.2; omega
  rw [cdn (by omega)]
  refine (allLoop (fun m i => S.PolicyOk_l0 m (fun y20 => some y20) (some true) i n a up) a.length (polP n a) true (by omega) (fun i m hi => ?_) (fun m => ?_)).trans ?_
  · show S.PolicyOk_l0 (m + 1) _ _ _ _ _ _ = bif _ then S.PolicyOk_l0 m _ _ _ _ _ _ else _
    have hdec : decide ((0 : Int) ≤ (i : Int) ∧ (i : Int) < (a.length : Int)) = true := decide_eq_true (by omega)
    rw [S.PolicyOk_l0, cdp (by omega)]
    simp only [hdec, cond_true, here_eq, dup_eq, Option.bind_some]
    rw [sRight_eq (nthI a (i : Int) punctD), Option.bind_some]
    by_cases c0 : 0 ≤ (nthI a (i : Int) punctD).2.2.2 ∧ (nthI a (i : Int) punctD).2.2.2 < n
    · rw [decide_eq_true c0, Bool.not_true, cond_false]
      by_cases c1 : rightP (nthI a (i : Int) punctD)
      · rw [decide_eq_true c1, Bool.not_true, cond_false]
        by_cases c2 : 0 < i
        · have hd2 : decide ((0 : Int) ≤ ((i - 1 : Nat) : Int) ∧ ((i - 1 : Nat) : Int) < (a.length : Int)) = true := decide_eq_true (by omega)
          have e1 : IntKind.i64.wrap ((i : Int) - 1) = ((i - 1 : Nat) : Int) := by rw [w64 (by omega) (by omega)]; omega
          rw [cdp (by omega)]
          simp only [e1, hd2, cond_true]
          rw [sPunctLess_eq (nthI a ((i - 1 : Nat) : Int) punctD) (nthI a (i : Int) punctD), Option.bind_some, w64 (by omega) (by omega)]
          by_cases c3 : punctLt (nthI a ((i - 1 : Nat) : Int) punctD) (nthI a (i : Int) punctD)
          · rw [decide_eq_true c3, cdp (show polP n a i from ⟨⟨c1, c0⟩, .inr c3⟩)]; rfl
          · rw [decide_eq_false c3, cdn (fun q : polP n a i => q.2.elim (by omega) c3)]; rfl
        · rw [cdn (by omega), w64 (by omega) (by omega), cdp (show polP n a i from ⟨⟨c1, c0⟩, .inl (by omega)⟩)]; rfl
      · rw [decide_eq_false c1, Bool.not_false, cond_true, cdn (fun q : polP n a i => c1 q.1.1)]
    · rw [decide_eq_false c0, Bool.not_false, cond_true, cdn (fun q : polP n a i => c0 q.1.2)]
  · show S.PolicyOk_l0 (m + 1) _ _ _ _ _ _ = _
    rw [S.PolicyOk_l0, cdn (by omega)]
  · rw [Bool.and_true]; exact sdec ⟨fun q => ⟨q, by omega⟩, fun q => q.1⟩
theorem iPolicy_eq (n : Int) (up : List Int) (a : List TPunct) (hl : 0 ≤ n ∧ n ≤ 100) (hn : a.length ≤ 1048576) : I.isPolicy n up a = some (decide (policyOk n a)) := by
  unfold I.isPolicy
  refine (allLoop (fun m i => I.isPolicy_l0 m (fun y18 y19 => some y18) (fun y20 => some (decide ((y20.length : Int) ≤ 12))) (a.length : Int) i n a up) a.length (polP n a) (decide ((a.length : Int) ≤ 12)) (by omega) (fun i m hi => ?_) (fun m => ?_)).trans ?_
  · show I.isPolicy_l0 (m + 1) _ _ _ _ _ _ _ = bif _ then I.isPolicy_l0 m _ _ _ _ _ _ _ else _
    have hdec : decide ((0 : Int) ≤ (i : Int) ∧ (i : Int) < (a.length : Int)) = true := decide_eq_true (by omega)
    rw [I.isPolicy_l0, cdp (by omega)]
    simp only [hdec, cond_true]
    rw [iPunct_eq n (nthI a (i : Int) punctD) up hl, Option.bind_some]
    by_cases c1 : rightP (nthI a (i : Int) punctD) ∧ (0 ≤ (nthI a (i : Int) punctD).2.2.2 ∧ (nthI a (i : Int) punctD).2.2.2 < n)
    · rw [decide_eq_true c1, Bool.not_true, cond_false]
      by_cases c2 : 0 < i
      · have hd2 : decide ((0 : Int) ≤ ((i - 1 : Nat) : Int) ∧ ((i - 1 : Nat) : Int) < (a.length : Int)) = true := decide_eq_true (by omega)
        have e1 : IntKind.i64.wrap ((i : Int) - 1) = ((i - 1 : Nat) : Int) := by rw [w64 (by omega) (by omega)]; omega
        rw [cdp (by omega)]
        simp only [e1, hd2, cond_true]
        rw [iComparePuncts_eq (nthI a ((i - 1 : Nat) : Int) punctD) (nthI a (i : Int) punctD), Option.bind_some, w64 (by omega) (by omega)]
        have hneg := punctCmp_neg (nthI a ((i - 1 : Nat) : Int) punctD) (nthI a (i : Int) punctD)
        by_cases c3 : punctLt (nthI a ((i - 1 : Nat) : Int) punctD) (nthI a (i : Int) punctD)
        · have := hneg.2 c3
          rw [cdn (by omega), cdp (show polP n a i from ⟨c1, .inr c3⟩)]; rfl
        · have : ¬ punctCmp (nthI a ((i - 1 : Nat) : Int) punctD) (nthI a (i : Int) punctD) < 0 := fun h => c3 (hneg.1 h)
          rw [cdp (by omega), cdn (fun q : polP n a i => q.2.elim (by omega) c3)]
      · rw [cdn (by omega), w64 (by omega) (by omega), cdp (show polP n a i from ⟨c1, .inl (by omega)⟩)]; rfl
    · rw [decide_eq_false c1, Bool.not_false, cond_true, cdn (fun q : polP n a i => c1 q.1)]
  · show I.isPolicy_l0 (m + 1) _ _ _ _ _ _ _ = _
    rw [I.isPolicy_l0, cdn (by omega)]
  · rw [dand]
    exact sdec ⟨fun q => ⟨q.1, by omega⟩, fun q => ⟨q.1, by have := q.2; omega⟩⟩
theorem accLoop {σ γ : Type} (F : Nat → Int → σ → Option γ) (n : Nat) (P : Nat → σ → Prop) (f : σ → Nat → σ) (E : σ → Option γ) (hn : n ≤ 1000000000000)
    (hs : ∀ (i m : Nat) (s : σ), i < n → P i s → F (m + 1) (i : Int) s = F m ((i + 1 : Nat) : Int) (f s i)) (hP : ∀ i s, i < n → P i s → P (i + 1) (f s i)) (he : ∀ (m : Nat) (s : σ), P n s → F (m + 1) (n : Int) s = E s) (s : σ) (h : P 0 s) :
    F fu 0 s = E ((List.range n).foldl f s) ∧ P n ((List.range n).foldl f s) := by
  obtain ⟨M, hM⟩ := fu_ge n hn
  have h1 : ∀ k i : Nat, ∀ s : σ, i + k = n → P i s → F (k + 1 + M) (i : Int) s = E ((List.range' i k).foldl f s) ∧ P n ((List.range' i k).foldl f s) := by
    intro k
    induction k with
    | zero =>
      intro i s hi hp
      obtain rfl : i = n := by omega
      rw [show 0 + 1 + M = M + 1 from by omega]
      exact ⟨he _ _ hp, hp⟩
    | succ k ih =>
      intro i s hi hp
      rw [show k + 1 + 1 + M = (k + 1 + M) + 1 from by omega, hs i _ s (by omega) hp, List.range'_succ, List.foldl_cons]
      exact ih (i + 1) (f s i) (by omega) (hP i s (by omega) hp)
  rw [hM, List.range_eq_range']
  exact h1 n 0 s (by omega) h
abbrev markD : TMark := ((0 : Int), false)
def stepL (x : Int) (k : TMark) : Int := bif !k.2 then (bif decide (x < 0) then k.1 else (bif decide (k.1 < x) then k.1 else x)) else x
def leastF (l : List TMark) : Int := (List.range l.length).foldl (fun (x : Int) (i : Nat) => stepL x (nthI l (i : Int) markD)) (-1)
def mostF (l : List TMark) (x : Int) : Int := (List.range l.length).foldl (fun (x : Int) (i : Nat) => max x (nthI l (i : Int) markD).1) x
def timesP (l : List TMark) (i : Nat) : Prop := 0 ≤ (nthI l (i : Int) markD).1 ∧ (nthI l (i : Int) markD).1 ≤ 1000
instance (l : List TMark) : DecidablePred (timesP l) := fun i => by unfold timesP; exact inferInstance
theorem l05Time_eq' (a : Int) : S.l05Time a = some (decide (0 ≤ a ∧ a ≤ 1000)) := by unfold S.l05Time; simp only [cds]
theorem isTime_eq' (a : Int) : I.isTime a = some (decide (0 ≤ a ∧ a ≤ 1000)) := by unfold I.isTime; rw [in_eq]; rfl
theorem sLeast_eq (g : Int) (l : List TMark) (hn : l.length ≤ 1048576) (ht : ∀ i, i < l.length → timesP l i) : S.MarksLeast g l = some (leastF l) := by
  unfold S.MarksLeast
  refine (accLoop (fun m i (x : Int) => S.MarksLeast_l0 m (fun y18 => some y18) x (decide (x < 0)) i g l) l.length (fun _ _ => True) (fun (x : Int) (i : Nat) => stepL x (nthI l (i : Int) markD)) (fun x => some x) (by omega) (fun i m x hi _ => ?_) (fun _ _ _ _ => trivial) (fun m x _ => ?_) (-1) trivial).1
  · show S.MarksLeast_l0 (m + 1) _ _ _ _ _ _ = S.MarksLeast_l0 m _ _ _ _ _ _
    have hdec : decide ((0 : Int) ≤ (i : Int) ∧ (i : Int) < (l.length : Int)) = true := decide_eq_true (by omega)
    have h0 := (ht i hi).1
    rw [S.MarksLeast_l0, cdp (by omega)]
    simp only [hdec, cond_true]
    rw [w64 (by omega) (by omega)]
    unfold stepL
    have hd : decide ((nthI l (i : Int) markD).1 < 0) = false := decide_eq_false (by omega)
    cases (nthI l (i : Int) markD).2
    · simp only [Bool.not_false, cond_true]
      by_cases c : x < 0
      · simp only [decide_eq_true c, cond_true, hd]
        rfl
      · simp only [decide_eq_false c, cond_false]
        by_cases c2 : (nthI l (i : Int) markD).1 < x
        · simp only [decide_eq_true c2, cond_true, hd]
          rfl
        · simp only [decide_eq_false c2, cond_false, decide_eq_false c]
          rfl
    · simp only [Bool.not_true, cond_false]
      rfl
  · show S.MarksLeast_l0 (m + 1) _ _ _ _ _ _ = _
    rw [S.MarksLeast_l0, cdn (by omega)]
theorem iLeast_eq (g : Int) (l : List TMark) (hn : l.length ≤ 1048576) : I.Marks_least g l = some (leastF l) := by
  unfold I.Marks_least
  refine (accLoop (fun m i (x : Int) => I.Marks_least_l0 m (fun y18 => some y18) x (l.length : Int) i l) l.length (fun _ _ => True) (fun (x : Int) (i : Nat) => stepL x (nthI l (i : Int) markD)) (fun x => some x) (by omega) (fun i m x hi _ => ?_) (fun _ _ _ _ => trivial) (fun m x _ => ?_) (-1) trivial).1
  · show I.Marks_least_l0 (m + 1) _ _ _ _ _ = I.Marks_least_l0 m _ _ _ _ _
    have hdec : decide ((0 : Int) ≤ (i : Int) ∧ (i : Int) < (l.length : Int)) = true := decide_eq_true (by omega)
    rw [I.Marks_least_l0, cdp (by omega)]
    simp only [hdec, cond_true]
    rw [w64 (by omega) (by omega)]
    unfold stepL
    cases (nthI l (i : Int) markD).2
    · simp only [Bool.not_false, cond_true]
      by_cases c : x < 0
      · simp only [decide_eq_true c, cond_true]
        rfl
      · simp only [decide_eq_false c, cond_false]
        by_cases c2 : (nthI l (i : Int) markD).1 < x
        · simp only [decide_eq_true c2, cond_true]
          rfl
        · simp only [decide_eq_false c2, cond_false]
          rfl
    · simp only [Bool.not_true, cond_false]
      rfl
  · show I.Marks_least_l0 (m + 1) _ _ _ _ _ = _
    rw [I.Marks_least_l0, cdn (by omega)]
theorem checkLoop {σ : Type} (F : Nat → Int → σ → Option Bool) (n : Nat) (p : Nat → Prop) [DecidablePred p] (f : σ → Nat → σ) (E : σ → Option Bool) (hn : n ≤ 1000000000000)
    (hs : ∀ (i m : Nat) (s : σ), i < n → F (m + 1) (i : Int) s = bif decide (p i) then F m ((i + 1 : Nat) : Int) (f s i) else some false) (he : ∀ (m : Nat) (s : σ), F (m + 1) (n : Int) s = E s) (s : σ) :
    F fu 0 s = if ∀ j, j < n → p j then E ((List.range n).foldl f s) else some false := by
  obtain ⟨M, hM⟩ := fu_ge n hn
  have h1 : ∀ k i : Nat, ∀ s : σ, i + k = n → (∀ j, j < i → p j) → F (k + 1 + M) (i : Int) s = if ∀ j, j < n → p j then E ((List.range' i k).foldl f s) else some false := by
    intro k
    induction k with
    | zero =>
      intro i s hi hp
      obtain rfl : i = n := by omega
      rw [show 0 + 1 + M = M + 1 from by omega, he, if_pos hp]
      rfl
    | succ k ih =>
      intro i s hi hp
      rw [show k + 1 + 1 + M = (k + 1 + M) + 1 from by omega, hs i _ s (by omega)]
      by_cases c : p i
      · rw [cdp c, List.range'_succ, List.foldl_cons]
        refine ih (i + 1) _ (by omega) fun j hj => ?_
        rcases Nat.lt_or_ge j i with h | h
        · exact hp j h
        · obtain rfl : j = i := by omega
          exact c
      · rw [cdn c, if_neg fun h => c (h i (by omega))]
  rw [hM, List.range_eq_range']
  exact h1 n 0 s (by omega) fun j hj => by omega
def marksOk (g : Int) (l : List TMark) : Prop := (1 ≤ l.length ∧ l.length ≤ 4) ∧ (0 ≤ g ∧ g ≤ 1000) ∧ (∀ i, i < l.length → timesP l i) ∧ leastF l ≤ g ∧ g ≤ mostF l (-1)
instance (g : Int) (l : List TMark) : Decidable (marksOk g l) := by unfold marksOk; exact inferInstance
theorem foldl_max2 (f : Nat → Int) : ∀ (l : List Nat) (x y : Int), x ≤ y → (∃ i ∈ l, y ≤ f i) → l.foldl (fun (x : Int) (i : Nat) => max x (f i)) x = l.foldl (fun (x : Int) (i : Nat) => max x (f i)) y
  | [], x, y, _, h => by obtain ⟨i, hi, _⟩ := h; cases hi
  | a :: l, x, y, hxy, h => by
    rw [List.foldl_cons, List.foldl_cons]
    obtain ⟨i, hi, hy⟩ := h
    rcases List.mem_cons.1 hi with rfl | hi
    · rw [show max x (f i) = max y (f i) from by omega]
    · by_cases c : y ≤ f a
      · rw [show max x (f a) = max y (f a) from by omega]
      · exact foldl_max2 f l _ _ (by omega) ⟨i, hi, by omega⟩
theorem most_zero {l : List TMark} (h1 : 1 ≤ l.length) (ht : ∀ i, i < l.length → timesP l i) : mostF l (-1) = mostF l 0 := by
  unfold mostF
  exact foldl_max2 (fun i : Nat => (nthI l (i : Int) markD).1) _ _ _ (by omega) ⟨0, List.mem_range.2 (by omega), (ht 0 (by omega)).1⟩
theorem sMarks_eq (g : Int) (l : List TMark) : S.MarksOk g l = some (decide (marksOk g l)) := by
  unfold S.MarksOk
  by_cases c1 : (l.length : Int) < 1
  · rw [cdp c1, decide_eq_false (fun h : marksOk g l => by have := h.1.1; omega)]
  by_cases c2 : (4 : Int) < (l.length : Int)
  · rw [cdn c1, cdp c2, decide_eq_false (fun h : marksOk g l => by have := h.1.2; omega)]
  rw [cdn c1, cdn c2, l05Time_eq', Option.bind_some]
  by_cases c3 : 0 ≤ g ∧ g ≤ 1000
  · rw [decide_eq_true c3, Bool.not_true, cond_false]
    refine (checkLoop (fun m i (x : Int) => S.MarksOk_l0 m _ _ x i g l) l.length (timesP l) (fun (x : Int) (i : Nat) => max x (nthI l (i : Int) markD).1) (fun x => (Option.bind (S.MarksLeast g l) fun r24 => (bif (decide (r24 ≤ g)) then (some (decide (g ≤ x))) else (some false)))) (by omega) (fun i m x hi => ?_) (fun m x => ?_) 0).trans ?_
    · show S.MarksOk_l0 (m + 1) _ _ _ _ _ _ = bif _ then S.MarksOk_l0 m _ _ _ _ _ _ else some false
      have hdec : decide ((0 : Int) ≤ (i : Int) ∧ (i : Int) < (l.length : Int)) = true := decide_eq_true (by omega)
      rw [S.MarksOk_l0, cdp (by omega)]
      simp only [hdec, cond_true, l05Time_eq', Option.bind_some]
      rw [w64 (by omega) (by omega)]
      have e : (if (nthI l (i : Int) markD).1 > x then (nthI l (i : Int) markD).1 else x) = max x (nthI l (i : Int) markD).1 := by split <;> omega
      unfold timesP
      by_cases c : 0 ≤ (nthI l (i : Int) markD).1 ∧ (nthI l (i : Int) markD).1 ≤ 1000
      · rw [decide_eq_true c, Bool.not_true, cond_false, cond_true, ← e]
        rfl
      · rw [decide_eq_false c, Bool.not_false, cond_true, cond_false]
    · show S.MarksOk_l0 (m + 1) _ _ _ _ _ _ = _
      rw [S.MarksOk_l0, cdn (by omega)]
    · by_cases ht : ∀ j, j < l.length → timesP l j
      · rw [if_pos ht, sLeast_eq g l (by omega) ht, Option.bind_some]
        have hm := most_zero (l := l) (by omega) ht
        by_cases c4 : leastF l ≤ g
        · rw [cdp c4]
          exact sdec ⟨fun h => ⟨⟨by omega, by omega⟩, c3, ht, c4, by rw [hm]; exact h⟩, fun h => by have := h.2.2.2.2; rw [hm] at this; exact this⟩
        · rw [cdn c4, decide_eq_false (fun h : marksOk g l => c4 h.2.2.2.1)]
      · rw [if_neg ht, decide_eq_false (fun h : marksOk g l => ht h.2.2.1)]
  · rw [decide_eq_false c3, Bool.not_false, cond_true, decide_eq_false (fun h : marksOk g l => c3 h.2.1)]
theorem iMarks_eq (g : Int) (l : List TMark) (hn : l.length ≤ 1048576) : I.areMarks g l = some (decide (marksOk g l)) := by
  unfold I.areMarks
  refine (checkLoop (fun m i (x : Int) => I.areMarks_l0 m _ _ x (l.length : Int) i g l) l.length (timesP l) (fun (x : Int) (i : Nat) => max x (nthI l (i : Int) markD).1) (fun x => (bif decide (1 ≤ (l.length : Int) ∧ (l.length : Int) ≤ 4) then (bif decide (0 ≤ g ∧ g ≤ 1000) then some (decide (leastF l ≤ g ∧ g ≤ x)) else some false) else some false)) (by omega) (fun i m x hi => ?_) (fun m x => ?_) (-1)).trans ?_
  · show I.areMarks_l0 (m + 1) _ _ _ _ _ _ _ = bif _ then I.areMarks_l0 m _ _ _ _ _ _ _ else some false
    have hdec : decide ((0 : Int) ≤ (i : Int) ∧ (i : Int) < (l.length : Int)) = true := decide_eq_true (by omega)
    rw [I.areMarks_l0, cdp (by omega)]
    simp only [hdec, cond_true, isTime_eq', Option.bind_some]
    rw [w64 (by omega) (by omega)]
    have e : (if (nthI l (i : Int) markD).1 > x then (nthI l (i : Int) markD).1 else x) = max x (nthI l (i : Int) markD).1 := by split <;> omega
    unfold timesP
    by_cases c : 0 ≤ (nthI l (i : Int) markD).1 ∧ (nthI l (i : Int) markD).1 ≤ 1000
    · rw [decide_eq_true c, Bool.not_true, cond_false, cond_true, ← e]
      rfl
    · rw [decide_eq_false c, Bool.not_false, cond_true, cond_false]
  · show I.areMarks_l0 (m + 1) _ _ _ _ _ _ _ = _
    rw [I.areMarks_l0, cdn (by omega)]
    simp only [in_eq, isTime_eq', iLeast_eq g l hn, Option.bind_some, dup_eq]
  · by_cases ht : ∀ j, j < l.length → timesP l j
    · rw [if_pos ht]
      by_cases c1 : 1 ≤ (l.length : Int) ∧ (l.length : Int) ≤ 4
      · rw [cdp c1]
        by_cases c3 : 0 ≤ g ∧ g ≤ 1000
        · rw [cdp c3]
          exact sdec ⟨fun h => ⟨⟨by omega, by omega⟩, c3, ht, h.1, h.2⟩, fun h => ⟨h.2.2.2.1, h.2.2.2.2⟩⟩
        · rw [cdn c3, decide_eq_false (fun h : marksOk g l => c3 h.2.1)]
      · rw [cdn c1, decide_eq_false (fun h : marksOk g l => c1 (by have := h.1; omega))]
    · rw [if_neg ht, decide_eq_false (fun h : marksOk g l => ht h.2.2.1)]
theorem l10Count_eq (a : Int) : S.l10Count a = some (decide (0 ≤ a ∧ a ≤ 1000000)) := by unfold S.l10Count; rw [cond_some, cond_and, dand]
theorem l04Bits_eq (a : Int) : S.l04Bits a = some (decide (0 ≤ a ∧ a ≤ 4)) := by unfold S.l04Bits; rw [cond_some, cond_and, dand]
def paneOk (p : TPane) : Prop := (0 ≤ p.1 ∧ p.1 ≤ 3) ∧ (0 ≤ p.2.1 ∧ p.2.1 ≤ 15) ∧ (0 ≤ p.2.2.1 ∧ p.2.2.1 < p.2.2.2.1 ∧ p.2.2.2.1 ≤ 1100) ∧ (0 ≤ p.2.2.2.2.1 ∧ p.2.2.2.2.1 ≤ 15) ∧ (1 ≤ p.2.2.2.2.2.1 ∧ p.2.2.2.2.2.1 ≤ 1000000) ∧ p.2.2.2.2.2.2.1.length ≤ 4 ∧ (((p.2.2.2.2.2.2.1.length : Int) == 0) == p.2.2.2.2.2.2.2) = true
instance (p : TPane) : Decidable (paneOk p) := by unfold paneOk; exact inferInstance
theorem sPaneOk_eq (p : TPane) : S.PaneOk p.1 p.2.1 p.2.2.1 p.2.2.2.1 p.2.2.2.2.1 p.2.2.2.2.2.1 p.2.2.2.2.2.2.2 p.2.2.2.2.2.2.1 = some (decide (paneOk p)) := by
  unfold S.PaneOk
  simp only [l04Key_eq, l06Win_eq, Option.bind_some, Bool.cond_eq_ite, decide_eq_true_eq, Bool.not_eq_true', decide_eq_false_iff_not]
  repeat' split
  all_goals first
    | exact sfal (by unfold paneOk; omega)
    | (refine sbool ?_; unfold paneOk; generalize (((p.2.2.2.2.2.2.1.length : Int) == 0) == p.2.2.2.2.2.2.2) = q; cases q <;> simp only [and_true, and_false, Bool.false_eq_true, true_iff, iff_self] <;> omega)
theorem iPaneOk_eq (p : TPane) : I.isPane p.1 p.2.1 p.2.2.1 p.2.2.2.1 p.2.2.2.2.1 p.2.2.2.2.2.1 p.2.2.2.2.2.2.2 p.2.2.2.2.2.2.1 = some (decide (paneOk p)) := by
  unfold I.isPane
  simp only [isId_eq, isKey_eq, isWin_eq, in_eq, Option.bind_some, Bool.cond_eq_ite, decide_eq_true_eq]
  repeat' split
  all_goals first
    | exact sfal (by unfold paneOk; omega)
    | (refine sbool ?_; unfold paneOk; generalize (((p.2.2.2.2.2.2.1.length : Int) == 0) == p.2.2.2.2.2.2.2) = q; cases q <;> simp only [and_true, and_false, Bool.false_eq_true, true_iff, iff_self] <;> omega)
theorem l10Cap_eq (a : Int) : S.l10Cap a = some (decide (1 ≤ a ∧ a ≤ 50)) := by unfold S.l10Cap; simp only [cds]
theorem isCap_eq (a : Int) : I.isCap a = some (decide (1 ≤ a ∧ a ≤ 50)) := by unfold I.isCap; rw [in_eq]; rfl
theorem l10Rule_eq (a : Int) : S.l10Rule a = some (decide (-1 ≤ a ∧ a ≤ 15)) := by unfold S.l10Rule; simp only [cds]
theorem isRule_eq (a : Int) : I.isRuleNumber a = some (decide (-1 ≤ a ∧ a ≤ 15)) := by unfold I.isRuleNumber; rw [in_eq]; rfl
def itemP (nx : Int) (a : List TItem) (i : Nat) : Prop := (nthI a (i : Int) ((0 : Int), ((0 : Int), ((0 : Int), ((0 : Int), ((0 : Int), ((0 : Int), ((0 : Int), ((0 : Int), ([], false)))))))))).1 = nx - (a.length : Int) + (i : Int) ∧ (-1 ≤ (nthI a (i : Int) ((0 : Int), ((0 : Int), ((0 : Int), ((0 : Int), ((0 : Int), ((0 : Int), ((0 : Int), ((0 : Int), ([], false)))))))))).2.1 ∧ (nthI a (i : Int) ((0 : Int), ((0 : Int), ((0 : Int), ((0 : Int), ((0 : Int), ((0 : Int), ((0 : Int), ((0 : Int), ([], false)))))))))).2.1 ≤ 15) ∧ paneOk (nthI a (i : Int) ((0 : Int), ((0 : Int), ((0 : Int), ((0 : Int), ((0 : Int), ((0 : Int), ((0 : Int), ((0 : Int), ([], false)))))))))).2.2
instance (nx : Int) (a : List TItem) : DecidablePred (itemP nx a) := fun i => by unfold itemP; exact inferInstance
def recP (nx : Int) (a : List TRec) (i : Nat) : Prop := (nthI a (i : Int) ((0 : Int), ((0 : Int), (0 : Int)))).1 = nx - (a.length : Int) + (i : Int) ∧ (-1 ≤ (nthI a (i : Int) ((0 : Int), ((0 : Int), (0 : Int)))).2.1 ∧ (nthI a (i : Int) ((0 : Int), ((0 : Int), (0 : Int)))).2.1 ≤ 15) ∧ (0 ≤ (nthI a (i : Int) ((0 : Int), ((0 : Int), (0 : Int)))).2.2 ∧ (nthI a (i : Int) ((0 : Int), ((0 : Int), (0 : Int)))).2.2 ≤ 15)
instance (nx : Int) (a : List TRec) : DecidablePred (recP nx a) := fun i => by unfold recP; exact inferInstance
def bothP (a : List TItem) (b : List TRec) (i : Nat) : Prop := (nthI a ((a.length - 1 - i : Nat) : Int) ((0 : Int), ((0 : Int), ((0 : Int), ((0 : Int), ((0 : Int), ((0 : Int), ((0 : Int), ((0 : Int), ([], false)))))))))).2.1 = (nthI b ((b.length - 1 - i : Nat) : Int) ((0 : Int), ((0 : Int), (0 : Int)))).2.1 ∧ (nthI a ((a.length - 1 - i : Nat) : Int) ((0 : Int), ((0 : Int), ((0 : Int), ((0 : Int), ((0 : Int), ((0 : Int), ((0 : Int), ((0 : Int), ([], false)))))))))).2.2.2.2.2.2.1 = (nthI b ((b.length - 1 - i : Nat) : Int) ((0 : Int), ((0 : Int), (0 : Int)))).2.2
instance (a : List TItem) (b : List TRec) : DecidablePred (bothP a b) := fun i => by unfold bothP; exact inferInstance
def boxOk (c u nx g : Int) (a : List TItem) (b : List TRec) : Prop :=
  (1 ≤ c ∧ c ≤ 50) ∧ (1 ≤ u ∧ u ≤ 50) ∧ (0 ≤ nx ∧ nx ≤ 1000000) ∧ (0 ≤ g ∧ g ≤ 1000000) ∧ (a.length : Int) ≤ c ∧ (b.length : Int) ≤ u ∧ (a.length : Int) ≤ nx ∧ (b.length : Int) ≤ nx ∧
  (∀ i, i < a.length → itemP nx a i) ∧ (∀ i, i < b.length → recP nx b i) ∧ (∀ i, i < min a.length b.length → bothP a b i)
instance (c u nx g : Int) (a : List TItem) (b : List TRec) : Decidable (boxOk c u nx g a b) := by unfold boxOk; exact inferInstance
section
variable (c u nx g : Int) (a : List TItem) (b : List TRec) (ha : a.length ≤ 50) (hb : b.length ≤ 50) (hx : 0 ≤ nx ∧ nx ≤ 1000000)
include ha hb hx
theorem iBox_l0 (e0 : Bool → Int → Int → Int → Int → List TItem → List TRec → Option Bool) (e1 : Int → Int → Int → Int → List TItem → List TRec → Option Bool) (he : ∀ x y z w v s, e0 false x y z w v s = some false) :
    I.isBox_l0 fu e0 e1 (a.length : Int) 0 c u nx g a b = if ∀ i, i < a.length → itemP nx a i then e1 c u nx g a b else some false := by
  refine allLoopK (fun m i => I.isBox_l0 m e0 e1 (a.length : Int) i c u nx g a b) a.length (itemP nx a) _ (by omega) (fun i m hi => ?_) (fun m => ?_)
  · show I.isBox_l0 (m + 1) _ _ _ _ _ _ _ _ _ _ = bif _ then I.isBox_l0 m _ _ _ _ _ _ _ _ _ _ else _
    have hdec : decide ((0 : Int) ≤ (i : Int) ∧ (i : Int) < (a.length : Int)) = true := decide_eq_true (by omega)
    have e2 : IntKind.i64.wrap (IntKind.i64.wrap (nx - (a.length : Int)) + (i : Int)) = nx - (a.length : Int) + (i : Int) := by rw [w64 (n := nx - (a.length : Int)) (by omega) (by omega), w64 (by omega) (by omega)]
    have hp := iPaneOk_eq (nthI a (i : Int) ((0 : Int), ((0 : Int), ((0 : Int), ((0 : Int), ((0 : Int), ((0 : Int), ((0 : Int), ((0 : Int), ([], false)))))))))).2.2
    rw [I.isBox_l0, cdp (by omega)]
    simp only [hdec, cond_true, e2, isRule_eq, hp, Option.bind_some, he]
    rw [w64 (by omega) (by omega), cneI, cnotb, cnotb]
    by_cases q1 : (nthI a (i : Int) ((0 : Int), ((0 : Int), ((0 : Int), ((0 : Int), ((0 : Int), ((0 : Int), ((0 : Int), ((0 : Int), ([], false)))))))))).1 = nx - (a.length : Int) + (i : Int) <;> by_cases q2 : -1 ≤ (nthI a (i : Int) ((0 : Int), ((0 : Int), ((0 : Int), ((0 : Int), ((0 : Int), ((0 : Int), ((0 : Int), ((0 : Int), ([], false)))))))))).2.1 ∧ (nthI a (i : Int) ((0 : Int), ((0 : Int), ((0 : Int), ((0 : Int), ((0 : Int), ((0 : Int), ((0 : Int), ((0 : Int), ([], false)))))))))).2.1 ≤ 15 <;> by_cases q3 : paneOk (nthI a (i : Int) ((0 : Int), ((0 : Int), ((0 : Int), ((0 : Int), ((0 : Int), ((0 : Int), ((0 : Int), ((0 : Int), ([], false)))))))))).2.2 <;>
      simp only [q1, q2, q3, itemP, decide_true, decide_false, cond_true, cond_false, and_self, and_true, true_and, and_false, false_and] <;> rfl
  · show I.isBox_l0 (m + 1) _ _ _ _ _ _ _ _ _ _ = _
    rw [I.isBox_l0, cdn (by omega)]
theorem iBox_l1 (e0 : Bool → Int → Int → Int → Int → List TItem → List TRec → Option Bool) (e1 : Int → Int → Int → Int → List TItem → List TRec → Option Bool) (he : ∀ x y z w v s, e0 false x y z w v s = some false) :
    I.isBox_l1 fu e0 e1 (b.length : Int) 0 c u nx g b a = if ∀ i, i < b.length → recP nx b i then e1 c u nx g a b else some false := by
  refine allLoopK (fun m i => I.isBox_l1 m e0 e1 (b.length : Int) i c u nx g b a) b.length (recP nx b) _ (by omega) (fun i m hi => ?_) (fun m => ?_)
  · show I.isBox_l1 (m + 1) _ _ _ _ _ _ _ _ _ _ = bif _ then I.isBox_l1 m _ _ _ _ _ _ _ _ _ _ else _
    have hdec : decide ((0 : Int) ≤ (i : Int) ∧ (i : Int) < (b.length : Int)) = true := decide_eq_true (by omega)
    have e2 : IntKind.i64.wrap (IntKind.i64.wrap (nx - (b.length : Int)) + (i : Int)) = nx - (b.length : Int) + (i : Int) := by rw [w64 (n := nx - (b.length : Int)) (by omega) (by omega), w64 (by omega) (by omega)]
    rw [I.isBox_l1, cdp (by omega)]
    simp only [hdec, cond_true, e2, isRule_eq, in_eq, Option.bind_some, he]
    rw [w64 (by omega) (by omega), cneI, cnotb, cnotb]
    by_cases q1 : (nthI b (i : Int) ((0 : Int), ((0 : Int), (0 : Int)))).1 = nx - (b.length : Int) + (i : Int) <;> by_cases q2 : -1 ≤ (nthI b (i : Int) ((0 : Int), ((0 : Int), (0 : Int)))).2.1 ∧ (nthI b (i : Int) ((0 : Int), ((0 : Int), (0 : Int)))).2.1 ≤ 15 <;> by_cases q3 : 0 ≤ (nthI b (i : Int) ((0 : Int), ((0 : Int), (0 : Int)))).2.2 ∧ (nthI b (i : Int) ((0 : Int), ((0 : Int), (0 : Int)))).2.2 ≤ 15 <;>
      simp only [q1, q2, q3, recP, decide_true, decide_false, cond_true, cond_false, and_self, and_true, true_and, and_false, false_and] <;> rfl
  · show I.isBox_l1 (m + 1) _ _ _ _ _ _ _ _ _ _ = _
    rw [I.isBox_l1, cdn (by omega)]
theorem iBox_l2 (n : Nat) (hn : n = min a.length b.length) : I.isBox_l2 fu (fun y => some y) (some true) (n : Int) 0 c u nx g a b = some (decide (∀ i, i < n → bothP a b i)) := by
  refine (allLoop (fun m i => I.isBox_l2 m (fun y => some y) (some true) (n : Int) i c u nx g a b) n (bothP a b) true (by omega) (fun i m hi => ?_) (fun m => ?_)).trans (by rw [Bool.and_true])
  · show I.isBox_l2 (m + 1) _ _ _ _ _ _ _ _ _ _ = bif _ then I.isBox_l2 m _ _ _ _ _ _ _ _ _ _ else _
    have e2 : IntKind.i64.wrap (IntKind.i64.wrap ((a.length : Int) - 1) - (i : Int)) = ((a.length - 1 - i : Nat) : Int) := by rw [w64 (n := (a.length : Int) - 1) (by omega) (by omega), w64 (by omega) (by omega)]; omega
    have e3 : IntKind.i64.wrap (IntKind.i64.wrap ((b.length : Int) - 1) - (i : Int)) = ((b.length - 1 - i : Nat) : Int) := by rw [w64 (n := (b.length : Int) - 1) (by omega) (by omega), w64 (by omega) (by omega)]; omega
    have hd1 : decide ((0 : Int) ≤ ((a.length - 1 - i : Nat) : Int) ∧ ((a.length - 1 - i : Nat) : Int) < (a.length : Int)) = true := decide_eq_true (by omega)
    have hd2 : decide ((0 : Int) ≤ ((b.length - 1 - i : Nat) : Int) ∧ ((b.length - 1 - i : Nat) : Int) < (b.length : Int)) = true := decide_eq_true (by omega)
    rw [I.isBox_l2, cdp (by omega)]
    simp only [e2, e3, hd1, hd2, cond_true, dup_eq]
    rw [w64 (by omega) (by omega), cneI, cneI]
    by_cases q1 : (nthI a ((a.length - 1 - i : Nat) : Int) ((0 : Int), ((0 : Int), ((0 : Int), ((0 : Int), ((0 : Int), ((0 : Int), ((0 : Int), ((0 : Int), ([], false)))))))))).2.1 = (nthI b ((b.length - 1 - i : Nat) : Int) ((0 : Int), ((0 : Int), (0 : Int)))).2.1 <;> by_cases q2 : (nthI a ((a.length - 1 - i : Nat) : Int) ((0 : Int), ((0 : Int), ((0 : Int), ((0 : Int), ((0 : Int), ((0 : Int), ((0 : Int), ((0 : Int), ([], false)))))))))).2.2.2.2.2.2.1 = (nthI b ((b.length - 1 - i : Nat) : Int) ((0 : Int), ((0 : Int), (0 : Int)))).2.2 <;>
      simp only [q1, q2, bothP, decide_true, decide_false, cond_true, cond_false, and_self, and_true, true_and, and_false, false_and] <;> rfl
  · show I.isBox_l2 (m + 1) _ _ _ _ _ _ _ _ _ _ = _
    rw [I.isBox_l2, cdn (by omega)]
theorem sBox_l0 (e0 : Bool → Int → Int → Int → Int → List TItem → List TRec → Option Bool) (e1 : Int → Int → Int → Int → List TItem → List TRec → Option Bool) (he : ∀ x y z w v s, e0 false x y z w v s = some false) :
    S.BoxOk_l0 fu e0 e1 0 c u nx g a b = if ∀ i, i < a.length → (itemP nx a i ∧ 0 ≤ (nthI a (i : Int) ((0 : Int), ((0 : Int), ((0 : Int), ((0 : Int), ((0 : Int), ((0 : Int), ((0 : Int), ((0 : Int), ([], false)))))))))).1) then e1 c u nx g a b else some false := by
  refine allLoopK (fun m i => S.BoxOk_l0 m e0 e1 i c u nx g a b) a.length (fun i => itemP nx a i ∧ 0 ≤ (nthI a (i : Int) ((0 : Int), ((0 : Int), ((0 : Int), ((0 : Int), ((0 : Int), ((0 : Int), ((0 : Int), ((0 : Int), ([], false)))))))))).1) _ (by omega) (fun i m hi => ?_) (fun m => ?_)
  · show S.BoxOk_l0 (m + 1) _ _ _ _ _ _ _ _ _ = bif _ then S.BoxOk_l0 m _ _ _ _ _ _ _ _ _ else _
    have hdec : decide ((0 : Int) ≤ (i : Int) ∧ (i : Int) < (a.length : Int)) = true := decide_eq_true (by omega)
    have e2 : IntKind.i64.wrap (IntKind.i64.wrap (nx - (a.length : Int)) + (i : Int)) = nx - (a.length : Int) + (i : Int) := by rw [w64 (n := nx - (a.length : Int)) (by omega) (by omega), w64 (by omega) (by omega)]
    have hp := sPaneOk_eq (nthI a (i : Int) ((0 : Int), ((0 : Int), ((0 : Int), ((0 : Int), ((0 : Int), ((0 : Int), ((0 : Int), ((0 : Int), ([], false)))))))))).2.2
    rw [S.BoxOk_l0, cdp (by omega)]
    simp only [hdec, cond_true, e2, l10Rule_eq, hp, Option.bind_some, he]
    rw [w64 (by omega) (by omega), cneI, cnotb, cnotb]
    by_cases q1 : (nthI a (i : Int) ((0 : Int), ((0 : Int), ((0 : Int), ((0 : Int), ((0 : Int), ((0 : Int), ((0 : Int), ((0 : Int), ([], false)))))))))).1 = nx - (a.length : Int) + (i : Int)
    · rw [cdp q1]
      by_cases q0 : (nthI a (i : Int) ((0 : Int), ((0 : Int), ((0 : Int), ((0 : Int), ((0 : Int), ((0 : Int), ((0 : Int), ((0 : Int), ([], false)))))))))).1 < 0
      · rw [cdp q0, cdn (fun q : itemP nx a i ∧ 0 ≤ (nthI a (i : Int) ((0 : Int), ((0 : Int), ((0 : Int), ((0 : Int), ((0 : Int), ((0 : Int), ((0 : Int), ((0 : Int), ([], false)))))))))).1 => by omega)]
      rw [cdn q0]
      by_cases q2 : -1 ≤ (nthI a (i : Int) ((0 : Int), ((0 : Int), ((0 : Int), ((0 : Int), ((0 : Int), ((0 : Int), ((0 : Int), ((0 : Int), ([], false)))))))))).2.1 ∧ (nthI a (i : Int) ((0 : Int), ((0 : Int), ((0 : Int), ((0 : Int), ((0 : Int), ((0 : Int), ((0 : Int), ((0 : Int), ([], false)))))))))).2.1 ≤ 15
      · rw [cdp q2]
        by_cases q3 : paneOk (nthI a (i : Int) ((0 : Int), ((0 : Int), ((0 : Int), ((0 : Int), ((0 : Int), ((0 : Int), ((0 : Int), ((0 : Int), ([], false)))))))))).2.2
        · rw [cdp q3, cdp (show itemP nx a i ∧ 0 ≤ (nthI a (i : Int) ((0 : Int), ((0 : Int), ((0 : Int), ((0 : Int), ((0 : Int), ((0 : Int), ((0 : Int), ((0 : Int), ([], false)))))))))).1 from ⟨⟨q1, q2, q3⟩, by omega⟩)]; rfl
        · rw [cdn q3, cdn (fun q : itemP nx a i ∧ 0 ≤ (nthI a (i : Int) ((0 : Int), ((0 : Int), ((0 : Int), ((0 : Int), ((0 : Int), ((0 : Int), ((0 : Int), ((0 : Int), ([], false)))))))))).1 => q3 q.1.2.2)]
      · rw [cdn q2, cdn (fun q : itemP nx a i ∧ 0 ≤ (nthI a (i : Int) ((0 : Int), ((0 : Int), ((0 : Int), ((0 : Int), ((0 : Int), ((0 : Int), ((0 : Int), ((0 : Int), ([], false)))))))))).1 => q2 q.1.2.1)]
    · rw [cdn q1, cdn (fun q : itemP nx a i ∧ 0 ≤ (nthI a (i : Int) ((0 : Int), ((0 : Int), ((0 : Int), ((0 : Int), ((0 : Int), ((0 : Int), ((0 : Int), ((0 : Int), ([], false)))))))))).1 => q1 q.1.1)]
  · show S.BoxOk_l0 (m + 1) _ _ _ _ _ _ _ _ _ = _
    rw [S.BoxOk_l0, cdn (by omega)]
def meetP (a : List TItem) (r : TRec) (k : Nat) : Prop := (nthI a (k : Int) ((0 : Int), ((0 : Int), ((0 : Int), ((0 : Int), ((0 : Int), ((0 : Int), ((0 : Int), ((0 : Int), ([], false)))))))))).1 = r.1 → (nthI a (k : Int) ((0 : Int), ((0 : Int), ((0 : Int), ((0 : Int), ((0 : Int), ((0 : Int), ((0 : Int), ((0 : Int), ([], false)))))))))).2.1 = r.2.1 ∧ (nthI a (k : Int) ((0 : Int), ((0 : Int), ((0 : Int), ((0 : Int), ((0 : Int), ((0 : Int), ((0 : Int), ((0 : Int), ([], false)))))))))).2.2.2.2.2.2.1 = r.2.2
instance (a : List TItem) (r : TRec) : DecidablePred (meetP a r) := fun i => by unfold meetP; exact inferInstance
theorem sBox_l2 (e0 : Bool → Int → Int → Int → Int → Int → List TItem → List TRec → Option Bool) (e1 : Int → Int → Int → Int → Int → List TItem → List TRec → Option Bool) (he : ∀ t x y z w v s, e0 false t x y z w v s = some false) (t : Int) (r : TRec) :
    S.BoxOk_l2 fu e0 e1 t 0 c u nx g r.1 r.2.1 r.2.2 a b = if ∀ k, k < a.length → meetP a r k then e1 t c u nx g a b else some false := by
  refine allLoopK (fun m i => S.BoxOk_l2 m e0 e1 t i c u nx g r.1 r.2.1 r.2.2 a b) a.length (meetP a r) _ (by omega) (fun i m hi => ?_) (fun m => ?_)
  · show S.BoxOk_l2 (m + 1) _ _ _ _ _ _ _ _ _ _ _ _ _ = bif _ then S.BoxOk_l2 m _ _ _ _ _ _ _ _ _ _ _ _ _ else _
    have hdec : decide ((0 : Int) ≤ (i : Int) ∧ (i : Int) < (a.length : Int)) = true := decide_eq_true (by omega)
    rw [S.BoxOk_l2, cdp (by omega)]
    simp only [hdec, cond_true, he]
    rw [w64 (by omega) (by omega), cneI, cneI]
    by_cases q0 : (nthI a (i : Int) ((0 : Int), ((0 : Int), ((0 : Int), ((0 : Int), ((0 : Int), ((0 : Int), ((0 : Int), ((0 : Int), ([], false)))))))))).1 = r.1
    · rw [cep q0]
      by_cases q1 : (nthI a (i : Int) ((0 : Int), ((0 : Int), ((0 : Int), ((0 : Int), ((0 : Int), ((0 : Int), ((0 : Int), ((0 : Int), ([], false)))))))))).2.1 = r.2.1 <;> by_cases q2 : (nthI a (i : Int) ((0 : Int), ((0 : Int), ((0 : Int), ((0 : Int), ((0 : Int), ((0 : Int), ((0 : Int), ((0 : Int), ([], false)))))))))).2.2.2.2.2.2.1 = r.2.2 <;>
        simp only [q0, q1, q2, meetP, decide_true, decide_false, cond_true, cond_false, and_self, and_true, true_and, and_false, false_and, true_implies] <;> rfl
    · rw [cen q0, cdp (show meetP a r i from fun q => absurd q q0)]; rfl
  · show S.BoxOk_l2 (m + 1) _ _ _ _ _ _ _ _ _ _ _ _ _ = _
    rw [S.BoxOk_l2, cdn (by omega)]
theorem sBox_l1 : S.BoxOk_l1 fu (fun y => some y) (some true) 0 c u nx g a b = some (decide (∀ i, i < b.length → (recP nx b i ∧ 0 ≤ (nthI b (i : Int) ((0 : Int), ((0 : Int), (0 : Int)))).1 ∧ ∀ k, k < a.length → meetP a (nthI b (i : Int) ((0 : Int), ((0 : Int), (0 : Int)))) k))) := by
  refine (allLoop (fun m i => S.BoxOk_l1 m (fun y => some y) (some true) i c u nx g a b) b.length (fun i => recP nx b i ∧ 0 ≤ (nthI b (i : Int) ((0 : Int), ((0 : Int), (0 : Int)))).1 ∧ ∀ k, k < a.length → meetP a (nthI b (i : Int) ((0 : Int), ((0 : Int), (0 : Int)))) k) true (by omega) (fun i m hi => ?_) (fun m => ?_)).trans (by rw [Bool.and_true])
  · show S.BoxOk_l1 (m + 1) _ _ _ _ _ _ _ _ _ = bif _ then S.BoxOk_l1 m _ _ _ _ _ _ _ _ _ else _
    have hdec : decide ((0 : Int) ≤ (i : Int) ∧ (i : Int) < (b.length : Int)) = true := decide_eq_true (by omega)
    have e2 : IntKind.i64.wrap (IntKind.i64.wrap (nx - (b.length : Int)) + (i : Int)) = nx - (b.length : Int) + (i : Int) := by rw [w64 (n := nx - (b.length : Int)) (by omega) (by omega), w64 (by omega) (by omega)]
    rw [S.BoxOk_l1, cdp (by omega)]
    simp only [hdec, cond_true, e2, l10Rule_eq, Option.bind_some]
    rw [sBox_l2 c u nx g a b ha hb hx (fun y80 y81 y82 y83 y84 y85 y86 y87 => some y80) _ (fun _ _ _ _ _ _ _ => rfl) (i : Int) (nthI b (i : Int) ((0 : Int), ((0 : Int), (0 : Int))))]
    rw [w64 (by omega) (by omega), cneI, cnotb]
    by_cases q1 : (nthI b (i : Int) ((0 : Int), ((0 : Int), (0 : Int)))).1 = nx - (b.length : Int) + (i : Int)
    · rw [cdp q1]
      by_cases q0 : (nthI b (i : Int) ((0 : Int), ((0 : Int), (0 : Int)))).1 < 0
      · rw [cdp q0, cdn (fun q : recP nx b i ∧ 0 ≤ (nthI b (i : Int) ((0 : Int), ((0 : Int), (0 : Int)))).1 ∧ ∀ k, k < a.length → meetP a (nthI b (i : Int) ((0 : Int), ((0 : Int), (0 : Int)))) k => by have := q.2.1; omega)]
      rw [cdn q0]
      by_cases q2 : -1 ≤ (nthI b (i : Int) ((0 : Int), ((0 : Int), (0 : Int)))).2.1 ∧ (nthI b (i : Int) ((0 : Int), ((0 : Int), (0 : Int)))).2.1 ≤ 15
      · rw [cdp q2]
        by_cases q4 : (nthI b (i : Int) ((0 : Int), ((0 : Int), (0 : Int)))).2.2 < 0
        · rw [cdp q4, cdn (fun q : recP nx b i ∧ 0 ≤ (nthI b (i : Int) ((0 : Int), ((0 : Int), (0 : Int)))).1 ∧ ∀ k, k < a.length → meetP a (nthI b (i : Int) ((0 : Int), ((0 : Int), (0 : Int)))) k => by have := q.1.2.2; omega)]
        rw [cdn q4]
        by_cases q5 : 16 ≤ (nthI b (i : Int) ((0 : Int), ((0 : Int), (0 : Int)))).2.2
        · rw [cdp q5, cdn (fun q : recP nx b i ∧ 0 ≤ (nthI b (i : Int) ((0 : Int), ((0 : Int), (0 : Int)))).1 ∧ ∀ k, k < a.length → meetP a (nthI b (i : Int) ((0 : Int), ((0 : Int), (0 : Int)))) k => by have := q.1.2.2; omega)]
        rw [cdn q5]
        by_cases q3 : ∀ k, k < a.length → meetP a (nthI b (i : Int) ((0 : Int), ((0 : Int), (0 : Int)))) k
        · rw [if_pos q3, cdp (show recP nx b i ∧ 0 ≤ (nthI b (i : Int) ((0 : Int), ((0 : Int), (0 : Int)))).1 ∧ ∀ k, k < a.length → meetP a (nthI b (i : Int) ((0 : Int), ((0 : Int), (0 : Int)))) k from ⟨⟨q1, q2, by omega⟩, by omega, q3⟩)]; rfl
        · rw [if_neg q3, cdn (fun q : recP nx b i ∧ 0 ≤ (nthI b (i : Int) ((0 : Int), ((0 : Int), (0 : Int)))).1 ∧ ∀ k, k < a.length → meetP a (nthI b (i : Int) ((0 : Int), ((0 : Int), (0 : Int)))) k => q3 q.2.2)]
      · rw [cdn q2, cdn (fun q : recP nx b i ∧ 0 ≤ (nthI b (i : Int) ((0 : Int), ((0 : Int), (0 : Int)))).1 ∧ ∀ k, k < a.length → meetP a (nthI b (i : Int) ((0 : Int), ((0 : Int), (0 : Int)))) k => q2 q.1.2.1)]
    · rw [cdn q1, cdn (fun q : recP nx b i ∧ 0 ≤ (nthI b (i : Int) ((0 : Int), ((0 : Int), (0 : Int)))).1 ∧ ∀ k, k < a.length → meetP a (nthI b (i : Int) ((0 : Int), ((0 : Int), (0 : Int)))) k => q1 q.1.1)]
  · show S.BoxOk_l1 (m + 1) _ _ _ _ _ _ _ _ _ = _
    rw [S.BoxOk_l1, cdn (by omega)]
end
theorem box_iff (nx : Int) (a : List TItem) (b : List TRec) (hx : 0 ≤ nx) :
    ((∀ i, i < a.length → (itemP nx a i ∧ 0 ≤ (nthI a (i : Int) ((0 : Int), ((0 : Int), ((0 : Int), ((0 : Int), ((0 : Int), ((0 : Int), ((0 : Int), ((0 : Int), ([], false)))))))))).1)) ∧ ∀ i, i < b.length → (recP nx b i ∧ 0 ≤ (nthI b (i : Int) ((0 : Int), ((0 : Int), (0 : Int)))).1 ∧ ∀ k, k < a.length → meetP a (nthI b (i : Int) ((0 : Int), ((0 : Int), (0 : Int)))) k)) ↔
    ((a.length : Int) ≤ nx ∧ (b.length : Int) ≤ nx ∧ (∀ i, i < a.length → itemP nx a i) ∧ (∀ i, i < b.length → recP nx b i) ∧ ∀ i, i < min a.length b.length → bothP a b i) := by
  constructor
  · rintro ⟨h1, h2⟩
    refine ⟨?_, ?_, fun i hi => (h1 i hi).1, fun i hi => (h2 i hi).1, fun i hi => ?_⟩
    · by_cases c : a.length = 0
      · omega
      · have q := h1 0 (by omega)
        have := q.1.1; have := q.2; omega
    · by_cases c : b.length = 0
      · omega
      · have q := h2 0 (by omega)
        have := q.1.1; have := q.2.1; omega
    · have qa := (h1 (a.length - 1 - i) (by omega)).1.1
      have qb := h2 (b.length - 1 - i) (by omega)
      have qb1 := qb.1.1
      exact qb.2.2 (a.length - 1 - i) (by omega) (by omega)
  · rintro ⟨h1, h2, h3, h4, h5⟩
    refine ⟨fun i hi => ⟨h3 i hi, ?_⟩, fun i hi => ⟨h4 i hi, ?_, fun k hk q => ?_⟩⟩
    · have := (h3 i hi).1; omega
    · have := (h4 i hi).1; omega
    · have qa := (h3 k hk).1
      have qb := (h4 i hi).1
      have := h5 (a.length - 1 - k) (by omega)
      unfold bothP at this
      rw [show a.length - 1 - (a.length - 1 - k) = k from by omega, show b.length - 1 - (a.length - 1 - k) = i from by omega] at this
      exact this
theorem iBoxOk_eq (c u nx g : Int) (a : List TItem) (b : List TRec) : I.isBox c u nx g a b = some (decide (boxOk c u nx g a b)) := by
  unfold I.isBox
  simp only [isCap_eq, in_eq, Option.bind_some, cnotb]
  by_cases p1 : ¬ (1 ≤ c ∧ c ≤ 50)
  · rw [cdn p1]; exact sfal fun h => p1 h.1
  have p1 := Decidable.not_not.1 p1
  rw [cdp p1]
  by_cases p2 : ¬ (1 ≤ u ∧ u ≤ 50)
  · rw [cdn p2]; exact sfal fun h => p2 h.2.1
  have p2 := Decidable.not_not.1 p2
  rw [cdp p2]
  by_cases p3 : ¬ (0 ≤ nx ∧ nx ≤ 1000000)
  · rw [cdn p3]; exact sfal fun h => p3 h.2.2.1
  have p3 := Decidable.not_not.1 p3
  rw [cdp p3]
  by_cases p4 : ¬ (0 ≤ g ∧ g ≤ 1000000)
  · rw [cdn p4]; exact sfal fun h => p4 h.2.2.2.1
  have p4 := Decidable.not_not.1 p4
  rw [cdp p4]
  by_cases p5 : c < (a.length : Int)
  · rw [cdp p5]; exact sfal fun h => by have := h.2.2.2.2.1; omega
  rw [cdn p5]
  by_cases p6 : u < (b.length : Int)
  · rw [cdp p6]; exact sfal fun h => by have := h.2.2.2.2.2.1; omega
  rw [cdn p6]
  by_cases p7 : nx < (a.length : Int)
  · rw [cdp p7]; exact sfal fun h => by have := h.2.2.2.2.2.2.1; omega
  rw [cdn p7]
  by_cases p8 : nx < (b.length : Int)
  · rw [cdp p8]; exact sfal fun h => by have := h.2.2.2.2.2.2.2.1; omega
  rw [cdn p8, iBox_l0 c u nx g a b (by omega) (by omega) p3 (fun y36 y37 y38 y39 y40 y41 y42 => some y36) _ (fun _ _ _ _ _ _ => rfl)]
  by_cases p9 : ¬ ∀ i, i < a.length → itemP nx a i
  · rw [if_neg p9]; exact sfal fun h => p9 h.2.2.2.2.2.2.2.2.1
  have p9 := Decidable.not_not.1 p9
  rw [if_pos p9, iBox_l1 c u nx g a b (by omega) (by omega) p3 (fun y66 y67 y68 y69 y70 y71 y72 => some y66) _ (fun _ _ _ _ _ _ => rfl)]
  by_cases p10 : ¬ ∀ i, i < b.length → recP nx b i
  · rw [if_neg p10]; exact sfal fun h => p10 h.2.2.2.2.2.2.2.2.2.1
  have p10 := Decidable.not_not.1 p10
  rw [if_pos p10]
  rw [show (if (b.length : Int) < (a.length : Int) then (b.length : Int) else (a.length : Int)) = ((min a.length b.length : Nat) : Int) from by split <;> omega, iBox_l2 c u nx g a b (by omega) (by omega) p3 _ rfl]
  exact sdec ⟨fun q => ⟨p1, p2, p3, p4, by omega, by omega, by omega, by omega, p9, p10, q⟩, fun h => h.2.2.2.2.2.2.2.2.2.2⟩
theorem sBoxOk_eq (c u nx g : Int) (a : List TItem) (b : List TRec) : S.BoxOk c u nx g a b = some (decide (boxOk c u nx g a b)) := by
  unfold S.BoxOk
  simp only [l10Cap_eq, l10Count_eq, Option.bind_some, cnotb]
  by_cases p1 : ¬ (1 ≤ c ∧ c ≤ 50)
  · rw [cdn p1]; exact sfal fun h => p1 h.1
  have p1 := Decidable.not_not.1 p1
  rw [cdp p1]
  by_cases p2 : ¬ (1 ≤ u ∧ u ≤ 50)
  · rw [cdn p2]; exact sfal fun h => p2 h.2.1
  have p2 := Decidable.not_not.1 p2
  rw [cdp p2]
  by_cases p3 : ¬ (0 ≤ nx ∧ nx ≤ 1000000)
  · rw [cdn p3]; exact sfal fun h => p3 h.2.2.1
  have p3 := Decidable.not_not.1 p3
  rw [cdp p3]
  by_cases p4 : ¬ (0 ≤ g ∧ g ≤ 1000000)
  · rw [cdn p4]; exact sfal fun h => p4 h.2.2.2.1
  have p4 := Decidable.not_not.1 p4
  rw [cdp p4]
  by_cases p5 : c < (a.length : Int)
  · rw [cdp p5]; exact sfal fun h => by have := h.2.2.2.2.1; omega
  rw [cdn p5]
  by_cases p6 : u < (b.length : Int)
  · rw [cdp p6]; exact sfal fun h => by have := h.2.2.2.2.2.1; omega
  rw [cdn p6, sBox_l0 c u nx g a b (by omega) (by omega) p3 (fun y32 y33 y34 y35 y36 y37 y38 => some y32) _ (fun _ _ _ _ _ _ => rfl)]
  have hi := box_iff nx a b p3.1
  by_cases p9 : ¬ ∀ i, i < a.length → (itemP nx a i ∧ 0 ≤ (nthI a (i : Int) ((0 : Int), ((0 : Int), ((0 : Int), ((0 : Int), ((0 : Int), ((0 : Int), ((0 : Int), ((0 : Int), ([], false)))))))))).1)
  · rw [if_neg p9]
    exact sfal fun h => p9 fun i hi => ⟨h.2.2.2.2.2.2.2.2.1 i hi, by have := (h.2.2.2.2.2.2.2.2.1 i hi).1; have := h.2.2.2.2.2.2.1; omega⟩
  have p9 := Decidable.not_not.1 p9
  rw [if_pos p9, sBox_l1 c u nx g a b (by omega) (by omega) p3]
  refine sdec ⟨fun q => ?_, fun h => ?_⟩
  · obtain ⟨h1, h2, h3, h4, h5⟩ := hi.1 ⟨p9, q⟩
    exact ⟨p1, p2, p3, p4, by omega, by omega, h1, h2, h3, h4, h5⟩
  · exact (hi.2 h.2.2.2.2.2.2).2
abbrev EK : Type := Int → Int → Int → Int → Int → Int → Int → List Int → List TQuery → List TSub → List TRule → List TPunct → List TMark → List TCell → List Int → List Int → List TBox → Option Bool
abbrev boxD : TBox := ((0 : Int), ((0 : Int), ((0 : Int), ((0 : Int), ([], [])))))
abbrev ruleD : TRule := ((0 : Int), ((0 : Int), ((0 : Int), ((0 : Int), (0 : Int)))))
abbrev subD : TSub := ((0 : Int), ((0 : Int), (0 : Int)))
def eng0 (src : Int) (pol : List TPunct) (i : Nat) : Prop := (nthI pol (i : Int) punctD).1 < src
instance (src : Int) (pol : List TPunct) : DecidablePred (eng0 src pol) := fun i => by unfold eng0; exact inferInstance
def eng1 (n : Int) (q : List TQuery) (ce : List TCell) (i : Nat) : Prop := (0 ≤ (nthI ce (i : Int) cellD).1 ∧ (nthI ce (i : Int) cellD).1 < (q.length : Int)) ∧ (0 ≤ (nthI ce (i : Int) cellD).2.2.2.2.1 ∧ (nthI ce (i : Int) cellD).2.2.2.2.1 < n)
instance (n : Int) (q : List TQuery) (ce : List TCell) : DecidablePred (eng1 n q ce) := fun i => by unfold eng1; exact inferInstance
def eng2 (quo : Int) (tk : List Int) (i : Nat) : Prop := 0 ≤ nthI tk (i : Int) 0 ∧ nthI tk (i : Int) 0 ≤ quo
instance (quo : Int) (tk : List Int) : DecidablePred (eng2 quo tk) := fun i => by unfold eng2; exact inferInstance
def eng3 (r : List TRule) (sp : List Int) (i : Nat) : Prop := 0 ≤ nthI sp (i : Int) 0 ∧ nthI sp (i : Int) 0 ≤ (nthI r (i : Int) ruleD).2.2.2.2
instance (r : List TRule) (sp : List Int) : DecidablePred (eng3 r sp) := fun i => by unfold eng3; exact inferInstance
def eng4 (s : List TSub) (bx : List TBox) (i : Nat) : Prop := boxOk (nthI bx (i : Int) boxD).1 (nthI bx (i : Int) boxD).2.1 (nthI bx (i : Int) boxD).2.2.1 (nthI bx (i : Int) boxD).2.2.2.1 (nthI bx (i : Int) boxD).2.2.2.2.1 (nthI bx (i : Int) boxD).2.2.2.2.2 ∧ (nthI bx (i : Int) boxD).1 = (nthI s (i : Int) subD).2.1 ∧ (nthI bx (i : Int) boxD).2.1 = (nthI s (i : Int) subD).2.2
instance (s : List TSub) (bx : List TBox) : DecidablePred (eng4 s bx) := fun i => by unfold eng4; exact inferInstance
section
variable (n src quo gl : Int) (up : List Int) (q : List TQuery) (s : List TSub) (r : List TRule) (pol : List TPunct) (mk : List TMark) (ce : List TCell) (tk sp : List Int) (bx : List TBox)

theorem sEng_l0 (e0 : Bool → EK) (e1 : EK) (he : ∀ x0 x1 x2 x3 x4 x5 x6 x7 x8 x9 x10 x11 x12 x13 x14 x15 x16, e0 false x0 x1 x2 x3 x4 x5 x6 x7 x8 x9 x10 x11 x12 x13 x14 x15 x16 = some false) (hn : pol.length ≤ 1048576) : S.EngOk_l0 fu e0 e1 0 n src quo gl n src quo up q s r pol mk ce tk sp bx = if ∀ i, i < pol.length → eng0 src pol i then e1 n src quo gl n src quo up q s r pol mk ce tk sp bx else some false := by
  refine allLoopK (fun m i => S.EngOk_l0 m e0 e1 i n src quo gl n src quo up q s r pol mk ce tk sp bx) pol.length (eng0 src pol) _ (by omega) (fun i m hi => ?_) (fun m => ?_)
  · show S.EngOk_l0 (m + 1) _ _ _ _ _ _ _ _ _ _ _ _ _ _ _ _ _ _ _ _ = bif _ then S.EngOk_l0 m _ _ _ _ _ _ _ _ _ _ _ _ _ _ _ _ _ _ _ _ else _
    have hdec : decide ((0 : Int) ≤ (i : Int) ∧ (i : Int) < (pol.length : Int)) = true := decide_eq_true (by omega)
    rw [S.EngOk_l0, cdp (by omega)]
    simp only [hdec, cond_true, he]
    rw [w64 (by omega) (by omega)]
    by_cases c : src ≤ (nthI pol (i : Int) punctD).1
    · rw [cdp c, cdn (show ¬ eng0 src pol i by unfold eng0; omega)]
    · rw [cdn c, cdp (show eng0 src pol i by unfold eng0; omega)]
      rfl
  · show S.EngOk_l0 (m + 1) _ _ _ _ _ _ _ _ _ _ _ _ _ _ _ _ _ _ _ _ = _
    rw [S.EngOk_l0, cdn (by omega)]

theorem sEng_l1 (e0 : Bool → EK) (e1 : EK) (he : ∀ x0 x1 x2 x3 x4 x5 x6 x7 x8 x9 x10 x11 x12 x13 x14 x15 x16, e0 false x0 x1 x2 x3 x4 x5 x6 x7 x8 x9 x10 x11 x12 x13 x14 x15 x16 = some false) (hn : ce.length ≤ 1048576) : S.EngOk_l1 fu e0 e1 0 n src quo gl n src quo up q s r pol mk ce tk sp bx = if ∀ i, i < ce.length → eng1 n q ce i then e1 n src quo gl n src quo up q s r pol mk ce tk sp bx else some false := by
  refine allLoopK (fun m i => S.EngOk_l1 m e0 e1 i n src quo gl n src quo up q s r pol mk ce tk sp bx) ce.length (eng1 n q ce) _ (by omega) (fun i m hi => ?_) (fun m => ?_)
  · show S.EngOk_l1 (m + 1) _ _ _ _ _ _ _ _ _ _ _ _ _ _ _ _ _ _ _ _ = bif _ then S.EngOk_l1 m _ _ _ _ _ _ _ _ _ _ _ _ _ _ _ _ _ _ _ _ else _
    have hdec : decide ((0 : Int) ≤ (i : Int) ∧ (i : Int) < (ce.length : Int)) = true := decide_eq_true (by omega)
    rw [S.EngOk_l1, cdp (by omega)]
    simp only [hdec, cond_true, l11Query_eq, here_eq, he, dup_eq, same_self, Option.bind_some]
    rw [w64 (by omega) (by omega)]
    by_cases c : 0 ≤ (nthI ce (i : Int) cellD).1 ∧ (nthI ce (i : Int) cellD).1 < (q.length : Int)
    · rw [decide_eq_true c, Bool.not_true, cond_false]
      by_cases c2 : 0 ≤ (nthI ce (i : Int) cellD).2.2.2.2.1 ∧ (nthI ce (i : Int) cellD).2.2.2.2.1 < n
      · rw [decide_eq_true c2, Bool.not_true, cond_false, cdp (show eng1 n q ce i from ⟨c, c2⟩)]
        rfl
      · rw [decide_eq_false c2, Bool.not_false, cond_true, cdn (show ¬ eng1 n q ce i from fun h => c2 h.2)]
    · rw [decide_eq_false c, Bool.not_false, cond_true, cdn (show ¬ eng1 n q ce i from fun h => c h.1)]
  · show S.EngOk_l1 (m + 1) _ _ _ _ _ _ _ _ _ _ _ _ _ _ _ _ _ _ _ _ = _
    rw [S.EngOk_l1, cdn (by omega)]

theorem sEng_l2 (e0 : Bool → EK) (e1 : EK) (he : ∀ x0 x1 x2 x3 x4 x5 x6 x7 x8 x9 x10 x11 x12 x13 x14 x15 x16, e0 false x0 x1 x2 x3 x4 x5 x6 x7 x8 x9 x10 x11 x12 x13 x14 x15 x16 = some false) (hn : tk.length ≤ 1048576) : S.EngOk_l2 fu e0 e1 0 n src quo gl n src quo up q s r pol mk ce tk sp bx = if ∀ i, i < tk.length → eng2 quo tk i then e1 n src quo gl n src quo up q s r pol mk ce tk sp bx else some false := by
  refine allLoopK (fun m i => S.EngOk_l2 m e0 e1 i n src quo gl n src quo up q s r pol mk ce tk sp bx) tk.length (eng2 quo tk) _ (by omega) (fun i m hi => ?_) (fun m => ?_)
  · show S.EngOk_l2 (m + 1) _ _ _ _ _ _ _ _ _ _ _ _ _ _ _ _ _ _ _ _ = bif _ then S.EngOk_l2 m _ _ _ _ _ _ _ _ _ _ _ _ _ _ _ _ _ _ _ _ else _
    have hdec : decide ((0 : Int) ≤ (i : Int) ∧ (i : Int) < (tk.length : Int)) = true := decide_eq_true (by omega)
    rw [S.EngOk_l2, cdp (by omega)]
    simp only [hdec, cond_true, he, dup_eq, same_self]
    rw [w64 (by omega) (by omega)]
    by_cases c : nthI tk (i : Int) 0 < 0
    · rw [cdp c, cdn (show ¬ eng2 quo tk i by unfold eng2; omega)]
    · rw [cdn c]
      by_cases c2 : quo < nthI tk (i : Int) 0
      · rw [cdp c2, cdn (show ¬ eng2 quo tk i by unfold eng2; omega)]
      · rw [cdn c2, cdp (show eng2 quo tk i by unfold eng2; omega)]
        rfl
  · show S.EngOk_l2 (m + 1) _ _ _ _ _ _ _ _ _ _ _ _ _ _ _ _ _ _ _ _ = _
    rw [S.EngOk_l2, cdn (by omega)]

theorem sEng_l3 (hr : sp.length = r.length) (e0 : Bool → EK) (e1 : EK) (he : ∀ x0 x1 x2 x3 x4 x5 x6 x7 x8 x9 x10 x11 x12 x13 x14 x15 x16, e0 false x0 x1 x2 x3 x4 x5 x6 x7 x8 x9 x10 x11 x12 x13 x14 x15 x16 = some false) (hn : sp.length ≤ 1048576) : S.EngOk_l3 fu e0 e1 0 n src quo gl n src quo up q s r pol mk ce tk sp bx = if ∀ i, i < sp.length → eng3 r sp i then e1 n src quo gl n src quo up q s r pol mk ce tk sp bx else some false := by
  refine allLoopK (fun m i => S.EngOk_l3 m e0 e1 i n src quo gl n src quo up q s r pol mk ce tk sp bx) sp.length (eng3 r sp) _ (by omega) (fun i m hi => ?_) (fun m => ?_)
  · show S.EngOk_l3 (m + 1) _ _ _ _ _ _ _ _ _ _ _ _ _ _ _ _ _ _ _ _ = bif _ then S.EngOk_l3 m _ _ _ _ _ _ _ _ _ _ _ _ _ _ _ _ _ _ _ _ else _
    have hdec : decide ((0 : Int) ≤ (i : Int) ∧ (i : Int) < (sp.length : Int)) = true := decide_eq_true (by omega)
    rw [S.EngOk_l3, cdp (by omega)]
    have hdec2 : decide ((0 : Int) ≤ (i : Int) ∧ (i : Int) < (r.length : Int)) = true := decide_eq_true (by omega)
    simp only [hdec, hdec2, cond_true, he, dup_eq, same_self]
    rw [w64 (by omega) (by omega)]
    by_cases c : nthI sp (i : Int) 0 < 0
    · rw [cdp c, cdn (show ¬ eng3 r sp i by unfold eng3; omega)]
    · rw [cdn c]
      by_cases c2 : (nthI r (i : Int) ruleD).2.2.2.2 < nthI sp (i : Int) 0
      · rw [cdp c2, cdn (show ¬ eng3 r sp i by unfold eng3; omega)]
      · rw [cdn c2, cdp (show eng3 r sp i by unfold eng3; omega)]
        rfl
  · show S.EngOk_l3 (m + 1) _ _ _ _ _ _ _ _ _ _ _ _ _ _ _ _ _ _ _ _ = _
    rw [S.EngOk_l3, cdn (by omega)]

theorem sEng_l4 (hs : bx.length = s.length) (e0 : Bool → Option Bool) (e1 : Option Bool) (he : e0 false = some false) (hn : bx.length ≤ 1048576) : S.EngOk_l4 fu e0 e1 0 n src quo gl n src quo up q s r pol mk ce tk sp bx = if ∀ i, i < bx.length → eng4 s bx i then e1 else some false := by
  refine allLoopK (fun m i => S.EngOk_l4 m e0 e1 i n src quo gl n src quo up q s r pol mk ce tk sp bx) bx.length (eng4 s bx) _ (by omega) (fun i m hi => ?_) (fun m => ?_)
  · show S.EngOk_l4 (m + 1) _ _ _ _ _ _ _ _ _ _ _ _ _ _ _ _ _ _ _ _ = bif _ then S.EngOk_l4 m _ _ _ _ _ _ _ _ _ _ _ _ _ _ _ _ _ _ _ _ else _
    have hdec : decide ((0 : Int) ≤ (i : Int) ∧ (i : Int) < (bx.length : Int)) = true := decide_eq_true (by omega)
    rw [S.EngOk_l4, cdp (by omega)]
    have hdec2 : decide ((0 : Int) ≤ (i : Int) ∧ (i : Int) < (s.length : Int)) = true := decide_eq_true (by omega)
    simp only [hdec, hdec2, cond_true, he, dup_eq, same_self, sBoxOk_eq, Option.bind_some]
    rw [w64 (by omega) (by omega)]
    by_cases c : boxOk (nthI bx (i : Int) boxD).1 (nthI bx (i : Int) boxD).2.1 (nthI bx (i : Int) boxD).2.2.1 (nthI bx (i : Int) boxD).2.2.2.1 (nthI bx (i : Int) boxD).2.2.2.2.1 (nthI bx (i : Int) boxD).2.2.2.2.2
    · rw [decide_eq_true c, Bool.not_true, cond_false]
      by_cases c2 : (nthI bx (i : Int) boxD).1 = (nthI s (i : Int) subD).2.1
      · rw [cnn c2]
        by_cases c3 : (nthI bx (i : Int) boxD).2.1 = (nthI s (i : Int) subD).2.2
        · rw [cnn c3, cdp (show eng4 s bx i from ⟨c, c2, c3⟩)]
          rfl
        · rw [cnp c3, cdn (show ¬ eng4 s bx i from fun h => c3 h.2.2)]
      · rw [cnp c2, cdn (show ¬ eng4 s bx i from fun h => c2 h.2.1)]
    · rw [decide_eq_false c, Bool.not_false, cond_true, cdn (show ¬ eng4 s bx i from fun h => c h.1)]
  · show S.EngOk_l4 (m + 1) _ _ _ _ _ _ _ _ _ _ _ _ _ _ _ _ _ _ _ _ = _
    rw [S.EngOk_l4, cdn (by omega)]

theorem iEng_l0 (e0 : Bool → EK) (e1 : EK) (he : ∀ x0 x1 x2 x3 x4 x5 x6 x7 x8 x9 x10 x11 x12 x13 x14 x15 x16, e0 false x0 x1 x2 x3 x4 x5 x6 x7 x8 x9 x10 x11 x12 x13 x14 x15 x16 = some false) (hn : pol.length ≤ 1048576) : I.isEng_l0 fu e0 e1 (pol.length : Int) 0 n src quo gl n src quo pol up q s r mk ce tk sp bx = if ∀ i, i < pol.length → eng0 src pol i then e1 n src quo gl n src quo up q s r pol mk ce tk sp bx else some false := by
  refine allLoopK (fun m i => I.isEng_l0 m e0 e1 (pol.length : Int) i n src quo gl n src quo pol up q s r mk ce tk sp bx) pol.length (eng0 src pol) _ (by omega) (fun i m hi => ?_) (fun m => ?_)
  · show I.isEng_l0 (m + 1) _ _ _ _ _ _ _ _ _ _ _ _ _ _ _ _ _ _ _ _ _ = bif _ then I.isEng_l0 m _ _ _ _ _ _ _ _ _ _ _ _ _ _ _ _ _ _ _ _ _ else _
    have hdec : decide ((0 : Int) ≤ (i : Int) ∧ (i : Int) < (pol.length : Int)) = true := decide_eq_true (by omega)
    rw [I.isEng_l0, cdp (by omega)]
    simp only [hdec, cond_true, he]
    rw [w64 (by omega) (by omega)]
    by_cases c : src ≤ (nthI pol (i : Int) punctD).1
    · rw [cdp c, cdn (show ¬ eng0 src pol i by unfold eng0; omega)]
    · rw [cdn c, cdp (show eng0 src pol i by unfold eng0; omega)]
      rfl
  · show I.isEng_l0 (m + 1) _ _ _ _ _ _ _ _ _ _ _ _ _ _ _ _ _ _ _ _ _ = _
    rw [I.isEng_l0, cdn (by omega)]

theorem iEng_l1 (hn1 : 0 ≤ n ∧ n ≤ 100) (hce : ∀ j, j < ce.length → cellsP ce j) (e0 : Bool → EK) (e1 : EK) (he : ∀ x0 x1 x2 x3 x4 x5 x6 x7 x8 x9 x10 x11 x12 x13 x14 x15 x16, e0 false x0 x1 x2 x3 x4 x5 x6 x7 x8 x9 x10 x11 x12 x13 x14 x15 x16 = some false) (hn : ce.length ≤ 1048576) : I.isEng_l1 fu e0 e1 (ce.length : Int) 0 n src quo gl n src quo ce up q s r pol mk tk sp bx = if ∀ i, i < ce.length → eng1 n q ce i then e1 n src quo gl n src quo up q s r pol mk ce tk sp bx else some false := by
  refine allLoopK (fun m i => I.isEng_l1 m e0 e1 (ce.length : Int) i n src quo gl n src quo ce up q s r pol mk tk sp bx) ce.length (eng1 n q ce) _ (by omega) (fun i m hi => ?_) (fun m => ?_)
  · show I.isEng_l1 (m + 1) _ _ _ _ _ _ _ _ _ _ _ _ _ _ _ _ _ _ _ _ _ = bif _ then I.isEng_l1 m _ _ _ _ _ _ _ _ _ _ _ _ _ _ _ _ _ _ _ _ _ else _
    have hdec : decide ((0 : Int) ≤ (i : Int) ∧ (i : Int) < (ce.length : Int)) = true := decide_eq_true (by omega)
    rw [I.isEng_l1, cdp (by omega)]
    have h0 := (hce i hi).1.1.1
    simp only [hdec, cond_true, has_eq n _ up hn1, he, Option.bind_some]
    rw [w64 (by omega) (by omega)]
    by_cases c : (q.length : Int) ≤ (nthI ce (i : Int) cellD).1
    · rw [cdp c, cdn (show ¬ eng1 n q ce i from fun h => by have := h.1.2; omega)]
    · rw [cdn c]
      by_cases c2 : 0 ≤ (nthI ce (i : Int) cellD).2.2.2.2.1 ∧ (nthI ce (i : Int) cellD).2.2.2.2.1 < n
      · rw [decide_eq_true c2, Bool.not_true, cond_false, cdp (show eng1 n q ce i from ⟨⟨h0, by omega⟩, c2⟩)]
        rfl
      · rw [decide_eq_false c2, Bool.not_false, cond_true, cdn (show ¬ eng1 n q ce i from fun h => c2 h.2)]
  · show I.isEng_l1 (m + 1) _ _ _ _ _ _ _ _ _ _ _ _ _ _ _ _ _ _ _ _ _ = _
    rw [I.isEng_l1, cdn (by omega)]

theorem iEng_l2 (e0 : Bool → EK) (e1 : EK) (he : ∀ x0 x1 x2 x3 x4 x5 x6 x7 x8 x9 x10 x11 x12 x13 x14 x15 x16, e0 false x0 x1 x2 x3 x4 x5 x6 x7 x8 x9 x10 x11 x12 x13 x14 x15 x16 = some false) (hn : tk.length ≤ 1048576) : I.isEng_l2 fu e0 e1 (tk.length : Int) 0 n src quo gl n src quo tk up q s r pol mk ce sp bx = if ∀ i, i < tk.length → eng2 quo tk i then e1 n src quo gl n src quo up q s r pol mk ce tk sp bx else some false := by
  refine allLoopK (fun m i => I.isEng_l2 m e0 e1 (tk.length : Int) i n src quo gl n src quo tk up q s r pol mk ce sp bx) tk.length (eng2 quo tk) _ (by omega) (fun i m hi => ?_) (fun m => ?_)
  · show I.isEng_l2 (m + 1) _ _ _ _ _ _ _ _ _ _ _ _ _ _ _ _ _ _ _ _ _ = bif _ then I.isEng_l2 m _ _ _ _ _ _ _ _ _ _ _ _ _ _ _ _ _ _ _ _ _ else _
    have hdec : decide ((0 : Int) ≤ (i : Int) ∧ (i : Int) < (tk.length : Int)) = true := decide_eq_true (by omega)
    rw [I.isEng_l2, cdp (by omega)]
    simp only [hdec, cond_true, in_eq, he, Option.bind_some]
    rw [w64 (by omega) (by omega)]
    by_cases c : 0 ≤ nthI tk (i : Int) 0 ∧ nthI tk (i : Int) 0 ≤ quo
    · rw [decide_eq_true c, Bool.not_true, cond_false, cdp (show eng2 quo tk i from c)]
      rfl
    · rw [decide_eq_false c, Bool.not_false, cond_true, cdn (show ¬ eng2 quo tk i from c)]
  · show I.isEng_l2 (m + 1) _ _ _ _ _ _ _ _ _ _ _ _ _ _ _ _ _ _ _ _ _ = _
    rw [I.isEng_l2, cdn (by omega)]

theorem iEng_l3 (hr : sp.length = r.length) (e0 : Bool → EK) (e1 : EK) (he : ∀ x0 x1 x2 x3 x4 x5 x6 x7 x8 x9 x10 x11 x12 x13 x14 x15 x16, e0 false x0 x1 x2 x3 x4 x5 x6 x7 x8 x9 x10 x11 x12 x13 x14 x15 x16 = some false) (hn : sp.length ≤ 1048576) : I.isEng_l3 fu e0 e1 (sp.length : Int) 0 n src quo gl n src quo sp up q s r pol mk ce tk bx = if ∀ i, i < sp.length → eng3 r sp i then e1 n src quo gl n src quo up q s r pol mk ce tk sp bx else some false := by
  refine allLoopK (fun m i => I.isEng_l3 m e0 e1 (sp.length : Int) i n src quo gl n src quo sp up q s r pol mk ce tk bx) sp.length (eng3 r sp) _ (by omega) (fun i m hi => ?_) (fun m => ?_)
  · show I.isEng_l3 (m + 1) _ _ _ _ _ _ _ _ _ _ _ _ _ _ _ _ _ _ _ _ _ = bif _ then I.isEng_l3 m _ _ _ _ _ _ _ _ _ _ _ _ _ _ _ _ _ _ _ _ _ else _
    have hdec : decide ((0 : Int) ≤ (i : Int) ∧ (i : Int) < (sp.length : Int)) = true := decide_eq_true (by omega)
    rw [I.isEng_l3, cdp (by omega)]
    have hdec2 : decide ((0 : Int) ≤ (i : Int) ∧ (i : Int) < (r.length : Int)) = true := decide_eq_true (by omega)
    simp only [hdec, hdec2, cond_true, in_eq, he, Option.bind_some]
    rw [w64 (by omega) (by omega)]
    by_cases c : 0 ≤ nthI sp (i : Int) 0 ∧ nthI sp (i : Int) 0 ≤ (nthI r (i : Int) ruleD).2.2.2.2
    · rw [decide_eq_true c, Bool.not_true, cond_false, cdp (show eng3 r sp i from c)]
      rfl
    · rw [decide_eq_false c, Bool.not_false, cond_true, cdn (show ¬ eng3 r sp i from c)]
  · show I.isEng_l3 (m + 1) _ _ _ _ _ _ _ _ _ _ _ _ _ _ _ _ _ _ _ _ _ = _
    rw [I.isEng_l3, cdn (by omega)]

theorem iEng_l4 (hs : bx.length = s.length) (e0 : Bool → Option Bool) (e1 : Option Bool) (he : e0 false = some false) (hn : bx.length ≤ 1048576) : I.isEng_l4 fu e0 e1 (bx.length : Int) 0 n src quo bx up q s r = if ∀ i, i < bx.length → eng4 s bx i then e1 else some false := by
  refine allLoopK (fun m i => I.isEng_l4 m e0 e1 (bx.length : Int) i n src quo bx up q s r) bx.length (eng4 s bx) _ (by omega) (fun i m hi => ?_) (fun m => ?_)
  · show I.isEng_l4 (m + 1) _ _ _ _ _ _ _ _ _ _ _ _ = bif _ then I.isEng_l4 m _ _ _ _ _ _ _ _ _ _ _ _ else _
    have hdec : decide ((0 : Int) ≤ (i : Int) ∧ (i : Int) < (bx.length : Int)) = true := decide_eq_true (by omega)
    rw [I.isEng_l4, cdp (by omega)]
    have hdec2 : decide ((0 : Int) ≤ (i : Int) ∧ (i : Int) < (s.length : Int)) = true := decide_eq_true (by omega)
    simp only [hdec, hdec2, cond_true, he, dup_eq, same_self, iBoxOk_eq, Option.bind_some]
    rw [w64 (by omega) (by omega)]
    by_cases c : boxOk (nthI bx (i : Int) boxD).1 (nthI bx (i : Int) boxD).2.1 (nthI bx (i : Int) boxD).2.2.1 (nthI bx (i : Int) boxD).2.2.2.1 (nthI bx (i : Int) boxD).2.2.2.2.1 (nthI bx (i : Int) boxD).2.2.2.2.2
    · rw [decide_eq_true c, Bool.not_true, cond_false]
      by_cases c2 : (nthI bx (i : Int) boxD).1 = (nthI s (i : Int) subD).2.1
      · rw [cnn c2]
        by_cases c3 : (nthI bx (i : Int) boxD).2.1 = (nthI s (i : Int) subD).2.2
        · rw [cnn c3, cdp (show eng4 s bx i from ⟨c, c2, c3⟩)]
          rfl
        · rw [cnp c3, cdn (show ¬ eng4 s bx i from fun h => c3 h.2.2)]
      · rw [cnp c2, cdn (show ¬ eng4 s bx i from fun h => c2 h.2.1)]
    · rw [decide_eq_false c, Bool.not_false, cond_true, cdn (show ¬ eng4 s bx i from fun h => c h.1)]
  · show I.isEng_l4 (m + 1) _ _ _ _ _ _ _ _ _ _ _ _ = _
    rw [I.isEng_l4, cdn (by omega)]

def engF : Option Bool :=
  bif decide (confOk n src quo up q s r) then (bif decide (policyOk n pol) then (bif decide (marksOk gl mk) then (bif decide ((mk.length : Int) = src) then (bif decide (cellsOk ce) then (bif decide ((tk.length : Int) = n) then (bif decide ((sp.length : Int) = (r.length : Int)) then (bif decide ((bx.length : Int) = (s.length : Int)) then
    (if ∀ i, i < pol.length → eng0 src pol i then (if ∀ i, i < ce.length → eng1 n q ce i then (if ∀ i, i < tk.length → eng2 quo tk i then (if ∀ i, i < sp.length → eng3 r sp i then (if ∀ i, i < bx.length → eng4 s bx i then some true else some false) else some false) else some false) else some false) else some false)
  else some false) else some false) else some false) else some false) else some false) else some false) else some false) else some false
theorem ex_bif {c : Bool} {x : Option Bool} (h : ∃ b, x = some b) : ∃ b, (bif c then x else some false) = some b := by
  cases c
  · exact ⟨_, rfl⟩
  · exact h
theorem ex_if {p : Prop} [Decidable p] {x : Option Bool} (h : ∃ b, x = some b) : ∃ b, (if p then x else some false) = some b := by
  split
  · exact h
  · exact ⟨_, rfl⟩
theorem cdec {p : Prop} [Decidable p] {x : Option Bool} : (bif !decide p then some false else x) = bif decide p then x else some false := by cases decide p <;> rfl
theorem cneq {a b : Int} {x : Option Bool} : (bif a != b then some false else x) = bif decide (a = b) then x else some false := by
  by_cases h : a = b
  · rw [cnn h, cdp h]
  · rw [cnp h, cdn h]
theorem cdc {p : Prop} [Decidable p] {x y : Option Bool} (h : p → x = y) : (bif decide p then x else some false) = bif decide p then y else some false := by
  by_cases c : p
  · rw [cdp c, cdp c, h c]
  · rw [cdn c, cdn c]
theorem ifc {p : Prop} [Decidable p] {x y : Option Bool} (h : p → x = y) : (if p then x else some false) = if p then y else some false := by
  by_cases c : p
  · rw [if_pos c, if_pos c, h c]
  · rw [if_neg c, if_neg c]
theorem sEng_eq (hq : queryW q) (hw : ∀ x ∈ ce, bCell x) (hc : cCellS ce ≤ 1048576) (h1 : pol.length ≤ 1048576) (h2 : tk.length ≤ 1048576) (h3 : sp.length ≤ 1048576) (h4 : bx.length ≤ 1048576) : S.EngOk n src quo gl up q s r pol mk ce tk sp bx = engF n src quo gl up q s r pol mk ce tk sp bx := by
  have hce : ce.length ≤ 1048576 := by unfold cCellS at hc; omega
  unfold S.EngOk engF
  rw [sConfOk_eq n src quo up q s r hq, Option.bind_some, cdec]
  refine cdc fun k1 => ?_
  rw [sPolicy_eq n up pol k1.1 h1, Option.bind_some, cdec]
  refine cdc fun k2 => ?_
  rw [sMarks_eq, Option.bind_some, cdec]
  refine cdc fun k3 => ?_
  rw [cneq]
  refine cdc fun k4 => ?_
  rw [sCellsOk_eq ce hw (by omega), Option.bind_some, cdec]
  refine cdc fun k5 => ?_
  rw [cneq]
  refine cdc fun k6 => ?_
  rw [cneq]
  refine cdc fun k7 => ?_
  rw [cneq]
  refine cdc fun k8 => ?_
  rw [sEng_l0 n src quo gl up q s r pol mk ce tk sp bx _ _ (fun _ _ _ _ _ _ _ _ _ _ _ _ _ _ _ _ _ => rfl) h1]
  refine ifc fun _ => ?_
  rw [sEng_l1 n src quo gl up q s r pol mk ce tk sp bx _ _ (fun _ _ _ _ _ _ _ _ _ _ _ _ _ _ _ _ _ => rfl) hce]
  refine ifc fun _ => ?_
  rw [sEng_l2 n src quo gl up q s r pol mk ce tk sp bx _ _ (fun _ _ _ _ _ _ _ _ _ _ _ _ _ _ _ _ _ => rfl) h2]
  refine ifc fun _ => ?_
  rw [sEng_l3 n src quo gl up q s r pol mk ce tk sp bx (by omega) _ _ (fun _ _ _ _ _ _ _ _ _ _ _ _ _ _ _ _ _ => rfl) h3]
  refine ifc fun _ => ?_
  exact sEng_l4 n src quo gl up q s r pol mk ce tk sp bx (by omega) _ _ rfl h4
theorem iEng_eq (hq : queryW q) (hu : ∀ y ∈ up, (Lit.int .u64 y).wf = true) (hw : ∀ x ∈ ce, bCell x) (hc : cCellS ce ≤ 1048576) (h1 : pol.length ≤ 1048576) (h2 : tk.length ≤ 1048576) (h3 : sp.length ≤ 1048576) (h4 : bx.length ≤ 1048576) (h5 : mk.length ≤ 1048576) : I.isEng n src quo gl up q s r pol mk ce tk sp bx = engF n src quo gl up q s r pol mk ce tk sp bx := by
  have hce : ce.length ≤ 1048576 := by unfold cCellS at hc; omega
  unfold I.isEng engF
  rw [iConfOk_eq n src quo up q s r hq hu, Option.bind_some, cdec]
  refine cdc fun k1 => ?_
  have hn := k1.1.1
  rw [iPolicy_eq n up pol (by omega) h1, Option.bind_some, cdec]
  refine cdc fun k2 => ?_
  rw [iMarks_eq gl mk h5, Option.bind_some, cdec]
  refine cdc fun k3 => ?_
  rw [cneq]
  refine cdc fun k4 => ?_
  rw [iCellsOk_eq ce hw (by omega), Option.bind_some, cdec]
  refine cdc fun k5 => ?_
  rw [cneq]
  refine cdc fun k6 => ?_
  rw [cneq]
  refine cdc fun k7 => ?_
  rw [cneq]
  refine cdc fun k8 => ?_
  rw [iEng_l0 n src quo gl up q s r pol mk ce tk sp bx _ _ (fun _ _ _ _ _ _ _ _ _ _ _ _ _ _ _ _ _ => rfl) h1]
  refine ifc fun _ => ?_
  rw [iEng_l1 n src quo gl up q s r pol mk ce tk sp bx (by omega) k5.1 _ _ (fun _ _ _ _ _ _ _ _ _ _ _ _ _ _ _ _ _ => rfl) hce]
  refine ifc fun _ => ?_
  rw [iEng_l2 n src quo gl up q s r pol mk ce tk sp bx _ _ (fun _ _ _ _ _ _ _ _ _ _ _ _ _ _ _ _ _ => rfl) h2]
  refine ifc fun _ => ?_
  rw [iEng_l3 n src quo gl up q s r pol mk ce tk sp bx (by omega) _ _ (fun _ _ _ _ _ _ _ _ _ _ _ _ _ _ _ _ _ => rfl) h3]
  refine ifc fun _ => ?_
  exact iEng_l4 n src quo up q s r bx (by omega) _ _ rfl h4
theorem engF_some : ∃ b, engF n src quo gl up q s r pol mk ce tk sp bx = some b := by
  unfold engF
  iterate 8 refine ex_bif ?_
  iterate 5 refine ex_if ?_
  exact ⟨_, rfl⟩
end

theorem FnExactEngOk : StmtFnExactEngOk.Stmt := by
  intro n up src quo q s r pol gl mk ce tk sp bx hn hu hsrc hquo hq hs hr hpol hgl hmk hce htk hsp hbx
  let X : TEng := (((n, up), src, quo, q, s, r), pol, (gl, mk), ce, tk, sp, bx)
  have hsz : L.szEng n src quo gl 1048576 up q s r pol mk ce tk sp bx = some (if (cEng X : Int) ≤ 1048576 then 1048576 - (cEng X : Int) else -1) := szEng_eq X 1048576 (by omega) (by omega) ⟨⟨⟨hn, hu⟩, hsrc, hquo, hq, hs, hr⟩, hpol, ⟨hgl, hmk⟩, hce, htk, hsp, hbx⟩
  unfold L.FnExactEngOk
  rw [hsz, Option.bind_some]
  by_cases hl : (cEng X : Int) ≤ 1048576
  · have h3 : cEng X = up.length + cQueryS q + s.length + r.length + pol.length + mk.length + cCellS ce + tk.length + sp.length + cBoxS bx := rfl
    have h5 : bx.length ≤ cBoxS bx := by unfold cBoxS; omega
    have hto : L.toEng n src quo gl up q s r pol mk ce tk sp bx = some (n, src, quo, gl, up, q, s, r, pol, mk, ce, tk, sp, bx) := toEng_eq X (by omega)
    have heq : L.eqEng n src quo gl n src quo gl up q s r pol mk ce tk sp bx up q s r pol mk ce tk sp bx = some (decide (X = X)) := eqEng_eq X X (by omega)
    have hw : queryW q := by
      intro x hx
      have h1 := hq.2 x hx
      have h2 : cQuery x ≤ cQueryS q := cQueryS_mem hx
      have h4 : cQuery x = x.1.length + x.2.1.length := rfl
      exact ⟨i64_wf h1.2.2.1.2.2, by omega, by omega⟩
    obtain ⟨b, hb⟩ := engF_some n src quo gl up q s r pol mk ce tk sp bx
    have hS := (sEng_eq n src quo gl up q s r pol mk ce tk sp bx hw hce.2 (by omega) (by omega) (by omega) (by omega) (by omega)).trans hb
    have hI := (iEng_eq n src quo gl up q s r pol mk ce tk sp bx hw hu.2 hce.2 (by omega) (by omega) (by omega) (by omega) (by omega) (by omega)).trans hb
    rw [if_pos hl, cdn (by omega)]
    unfold I.EngOk
    simp only [hto, hS, hI, heq, Option.bind_some, decide_true, beq_self_eq_true, Bool.not_true, cond_false]
  · rw [if_neg hl, cdp (by omega)]
end Go.Proofs.YtidojhgkpgomcaaGreat.Pure
