/- LogRead of the program returns what the reference's returns. For every argument. -/
import Derived.Test.YtflagchmcnfigaaStmtFnExactLogRead
import Derived.Laws.BitsLemmas
import Derived.Laws.BitsAllLaws
import Derived.Laws.Bits64b
namespace Go.Proofs.Ytflagchmcnfigaa.Pure
open Go Go.RowKit Go.Proofs.Ytflagchmcnfigaa.Run Go.Proofs.Ytflagchmcnfigaa.StmtFnExactLogRead Go.Proofs.YtflagchmcnfigaaW.PrintWords Go.Proofs.Ytflagchmcnfigaa.Vm
set_option linter.unusedVariables false
set_option linter.unusedSimpArgs false
/-! General words -/
theorem cdp {α : Type} {p : Prop} [Decidable p] {a b : α} (h : p) : (bif decide p then a else b) = a := by simp [h]
theorem cdn {α : Type} {p : Prop} [Decidable p] {a b : α} (h : ¬ p) : (bif decide p then a else b) = b := by simp [h]
theorem cnp {α : Type} {x y : Int} {a b : α} (h : x ≠ y) : (bif (x != y) then a else b) = a := by rw [show (x != y) = true from by simpa using h]; rfl
theorem cnn {α : Type} {x y : Int} {a b : α} (h : x = y) : (bif (x != y) then a else b) = b := by simp [bne, h]
theorem cep {α : Type} {x y : Int} {a b : α} (h : x = y) : (bif (x == y) then a else b) = a := by simp [h]
theorem cen {α : Type} {x y : Int} {a b : α} (h : x ≠ y) : (bif (x == y) then a else b) = b := by rw [show (x == y) = false from by simpa using h]; rfl
theorem cond_some {α : Type} (c : Bool) (x y : α) : (bif c then some x else some y) = some (bif c then x else y) := by cases c <;> rfl
theorem cond_and (c x : Bool) : (bif c then x else false) = (c && x) := by cases c <;> rfl
theorem dand (p q : Prop) [Decidable p] [Decidable q] : (decide p && decide q) = decide (p ∧ q) := by by_cases p <;> by_cases q <;> simp_all
theorem w64 {n : Int} (h0 : -9223372036854775808 ≤ n) (h1 : n < 9223372036854775808) : IntKind.i64.wrap n = n := by rw [IntKind.wrap_i64]; omega
theorem u64_mod (n : Int) : IntKind.u64.wrap n = n % 18446744073709551616 := by simp [IntKind.wrap, IntKind.bits, IntKind.signed]
theorem u64w {n : Int} (h0 : 0 ≤ n) (h1 : n < 18446744073709551616) : IntKind.u64.wrap n = n := by rw [u64_mod]; omega
theorem u8_mod (n : Int) : IntKind.u8.wrap n = n % 256 := by simp [IntKind.wrap, IntKind.bits, IntKind.signed]
theorem i64_wf {n : Int} (h : (Lit.int .i64 n).wf = true) : -9223372036854775808 ≤ n ∧ n < 9223372036854775808 := by
  simp only [Lit.wf, IntKind.min, IntKind.max, IntKind.signed, IntKind.bits, Bool.and_eq_true, decide_eq_true_eq, if_true] at h
  omega
theorem u8_wf {n : Int} (h : (Lit.int .u8 n).wf = true) : 0 ≤ n ∧ n < 256 := by
  simp [Lit.wf, IntKind.min, IntKind.max, IntKind.signed, IntKind.bits, Bool.and_eq_true] at h
  omega
theorem tmod_nat (n : Int) (m : Int) (h : 0 ≤ n) : Int.tmod n m = n % m := Int.tmod_eq_emod_of_nonneg h
theorem tdiv_nat (n : Int) (m : Int) (h : 0 ≤ n) : Int.tdiv n m = n / m := Int.tdiv_eq_ediv_of_nonneg h
theorem bits_or_128 (x : Int) (h0 : 0 ≤ x) (h1 : x < 256) : Go.bits .or .u8 x 128 = 128 + x % 128 := by
  obtain ⟨n, rfl⟩ := Int.eq_ofNat_of_zero_le h0
  have hn : n < 256 := by omega
  have key : ∀ m : Fin 256, Go.bits .or .u8 ((m.val : Nat) : Int) 128 = 128 + ((m.val : Nat) : Int) % 128 := by decide +kernel
  exact key ⟨n, hn⟩
theorem bits_xor_zero (x : Int) (h0 : 0 ≤ x) (h1 : x < 18446744073709551616) : Go.bits .xor .u64 x 0 = x := by
  obtain ⟨n, rfl⟩ := Int.eq_ofNat_of_zero_le h0
  have hn : n < 18446744073709551616 := by omega
  show IntKind.u64.wrap (((BitVec.ofInt 64 ((n : Nat) : Int)) ^^^ (BitVec.ofInt 64 0)).toNat : Int) = n
  have e : (BitVec.ofInt 64 0) = 0#64 := by decide
  rw [e, BitVec.xor_zero, BitVec.ofInt_natCast, BitVec.toNat_ofNat, u64_mod]
  omega
theorem bits_xor_ones (x : Int) (h0 : 0 ≤ x) (h1 : x < 18446744073709551616) : Go.bits .xor .u64 x 18446744073709551615 = 18446744073709551615 - x := by
  obtain ⟨n, rfl⟩ := Int.eq_ofNat_of_zero_le h0
  have hn : n < 18446744073709551616 := by omega
  show IntKind.u64.wrap (((BitVec.ofInt 64 ((n : Nat) : Int)) ^^^ (BitVec.ofInt 64 18446744073709551615)).toNat : Int) = 18446744073709551615 - n
  have e : (BitVec.ofInt 64 18446744073709551615) = BitVec.allOnes 64 := by decide
  rw [e, BitVec.xor_allOnes, BitVec.toNat_not, BitVec.ofInt_natCast, BitVec.toNat_ofNat, u64_mod]
  omega
theorem fu_ge (d : Nat) (h : d ≤ 1000000000000) : ∃ m, fu = d + 1 + m := ⟨fu - d - 1, by rw [fu_eq]; omega⟩
theorem nthI_nat {α : Type} (xs : List α) (i : Nat) (d : α) : nthI xs (i : Int) d = xs.getD i d := rfl
theorem drop_nth (xs : List Int) (i : Nat) (h : i < xs.length) : xs.drop i = nthI xs (i : Int) 0 :: xs.drop (i + 1) := by
  rw [nthI_nat, List.getD_eq_getElem?_getD, List.getElem?_eq_getElem h]; exact List.drop_eq_getElem_cons h
/-! Loops over lists -/
theorem nthI_mem {α : Type} (a : List α) (i : Nat) (d : α) (h : i < a.length) : nthI a (i : Int) d ∈ a := by
  rw [nthI_nat, List.getD_eq_getElem?_getD, List.getElem?_eq_getElem h]; simp
theorem nthI_set {α : Type} (xs : List α) (i : Nat) (y d : α) (h : i < xs.length) : nthI (xs.set i y) (i : Int) d = y := by
  rw [nthI_nat, List.getD_eq_getElem?_getD, List.getElem?_set_self h]; rfl
theorem drop_at {α : Type} (xs : List α) (i : Nat) (d : α) (h : i < xs.length) : xs.drop i = nthI xs (i : Int) d :: xs.drop (i + 1) := by
  rw [nthI_nat, List.getD_eq_getElem?_getD, List.getElem?_eq_getElem h]; exact List.drop_eq_getElem_cons h
theorem cneI {x y : Int} {k : Option Bool} : (bif (x != y) then some false else k) = bif decide (x = y) then k else some false := by
  by_cases h : x = y
  · rw [cnn h, cdp h]
  · rw [cnp h, cdn h]
theorem cneB {x y : Bool} {k : Option Bool} : (bif (!(x == y)) then some false else k) = bif decide (x = y) then k else some false := by
  cases x <;> cases y <;> rfl
theorem cnotb {r : Bool} {k : Option Bool} : (bif (!r) then some false else k) = bif r then k else some false := by cases r <;> rfl
theorem cds {p q : Prop} [Decidable p] [Decidable q] : (bif decide p then some (decide q) else some false) = some (decide (p ∧ q)) := by
  by_cases p <;> by_cases q <;> simp_all
theorem cdt {p : Prop} [Decidable p] : (bif decide p then some true else some false) = some (decide p) := by by_cases p <;> simp_all
theorem sdec {p q : Prop} [Decidable p] [Decidable q] (h : q ↔ p) : some (decide q) = some (decide p) := congrArg some (decide_eq_decide.mpr h)
theorem sfal {p : Prop} [Decidable p] (h : ¬ p) : some false = some (decide p) := by rw [decide_eq_false h]
theorem stru {p : Prop} [Decidable p] (h : p) : some true = some (decide p) := by rw [decide_eq_true h]
theorem sbool {b : Bool} {p : Prop} [Decidable p] (h : b = true ↔ p) : some b = some (decide p) := by
  by_cases c : p
  · rw [h.2 c, decide_eq_true c]
  · rw [decide_eq_false c, Bool.eq_false_iff.2 fun e => c (h.1 e)]
theorem sum_mem {l : List Nat} {x : Nat} (h : x ∈ l) : x ≤ l.sum := by
  induction l with
  | nil => cases h
  | cons y l ih =>
    rw [List.sum_cons]
    rcases List.mem_cons.1 h with rfl | h
    · omega
    · have := ih h; omega
theorem toLoop {α : Type} (F : Nat → Int → List α → Option (List α)) (a : List α) (d : α) (hn : a.length ≤ 1000000000000)
    (hs : ∀ (i m : Nat) (xs : List α), i < a.length → xs.length = a.length → F (m + 1) (i : Int) xs = F m ((i + 1 : Nat) : Int) (xs.set i (nthI a (i : Int) d)))
    (he : ∀ (m : Nat) (xs : List α), F (m + 1) (a.length : Int) xs = some xs) (xs : List α) (hx : xs.length = a.length) : F fu 0 xs = some a := by
  obtain ⟨M, hM⟩ := fu_ge a.length hn
  have h1 : ∀ k i : Nat, ∀ xs : List α, xs.length = a.length → i ≤ a.length → a.length - i = k → xs.take i = a.take i → F (k + 1 + M) (i : Int) xs = some a := by
    intro k
    induction k with
    | zero =>
      intro i xs hx hi hd ht
      obtain rfl : i = a.length := by omega
      rw [List.take_of_length_le (by omega), List.take_of_length_le (by omega)] at ht
      subst ht
      rw [show 0 + 1 + M = M + 1 from by omega]
      exact he M xs
    | succ k ih =>
      intro i xs hx hi hd ht
      have hi2 : i < a.length := by omega
      rw [show k + 1 + 1 + M = (k + 1 + M) + 1 from by omega, hs i _ xs hi2 hx]
      refine ih (i + 1) _ (by simpa using hx) (by omega) (by omega) ?_
      rw [nthI_nat, List.getD_eq_getElem?_getD, List.getElem?_eq_getElem hi2, Option.getD_some, List.take_add_one, List.take_add_one, List.take_set_of_le (Nat.le_refl i), ht]
      simp [show i < xs.length from by omega, hi2]
  rw [hM]
  exact h1 a.length 0 xs hx (by omega) (by omega) (by simp)
theorem eqLoop {α : Type} [DecidableEq α] (F : Nat → Int → Option Bool) (a b : List α) (d : α) (hl : a.length = b.length) (hn : a.length ≤ 1000000000000)
    (hs : ∀ (i m : Nat), i < a.length → F (m + 1) (i : Int) = bif decide (nthI a (i : Int) d = nthI b (i : Int) d) then F m ((i + 1 : Nat) : Int) else some false)
    (he : ∀ m : Nat, F (m + 1) (a.length : Int) = some true) : F fu 0 = some (decide (a = b)) := by
  obtain ⟨M, hM⟩ := fu_ge a.length hn
  have h1 : ∀ k i : Nat, i ≤ a.length → a.length - i = k → F (k + 1 + M) (i : Int) = some (decide (a.drop i = b.drop i)) := by
    intro k
    induction k with
    | zero =>
      intro i hi hd
      obtain rfl : i = a.length := by omega
      rw [show 0 + 1 + M = M + 1 from by omega, he, List.drop_of_length_le (by omega), List.drop_of_length_le (by omega)]
      simp
    | succ k ih =>
      intro i hi hd
      rw [show k + 1 + 1 + M = (k + 1 + M) + 1 from by omega, hs i _ (by omega), drop_at a i d (by omega), drop_at b i d (by omega), ih (i + 1) (by omega) (by omega)]
      by_cases e : nthI a (i : Int) d = nthI b (i : Int) d
      · rw [cdp e, e]
        generalize nthI b (i : Int) d = x
        simp
      · rw [cdn e]
        generalize nthI b (i : Int) d = x at *
        generalize nthI a (i : Int) d = y at *
        simp [e]
  rw [hM]
  simpa using h1 a.length 0 (by omega) (by omega)
theorem eqTop {α : Type} [DecidableEq α] (a b : List α) {k : Option Bool} (h : a.length = b.length → k = some (decide (a = b))) : (bif ((a.length : Int) != (b.length : Int)) then some false else k) = some (decide (a = b)) := by
  by_cases e : a.length = b.length
  · rw [cnn (by omega), h e]
  · rw [cnp (by omega), decide_eq_false (fun h => e (by rw [h]))]
theorem szLoop {α : Type} (F : Nat → Int → Int → Option Int) (a : List α) (d : α) (c : α → Nat) (hn : a.length ≤ 1000000000000)
    (hs : ∀ (i m : Nat) (l : Int), i < a.length → 0 ≤ l → l ≤ 1000000000000 → F (m + 1) l (i : Int) = if (c (nthI a (i : Int) d) : Int) ≤ l then F m (l - (c (nthI a (i : Int) d) : Int)) ((i + 1 : Nat) : Int) else some (-1))
    (he : ∀ (m : Nat) (l : Int), F (m + 1) l (a.length : Int) = some l) (l : Int) (h0 : 0 ≤ l) (h1 : l ≤ 1000000000000) : F fu l 0 = some (if (((a.map c).sum : Nat) : Int) ≤ l then l - (((a.map c).sum : Nat) : Int) else -1) := by
  obtain ⟨M, hM⟩ := fu_ge a.length hn
  have h2 : ∀ k i : Nat, ∀ l : Int, 0 ≤ l → l ≤ 1000000000000 → i ≤ a.length → a.length - i = k → F (k + 1 + M) l (i : Int) = some (if ((((a.drop i).map c).sum : Nat) : Int) ≤ l then l - ((((a.drop i).map c).sum : Nat) : Int) else -1) := by
    intro k
    induction k with
    | zero =>
      intro i l h0 h1 hi hd
      obtain rfl : i = a.length := by omega
      rw [show 0 + 1 + M = M + 1 from by omega, he, List.drop_of_length_le (by omega)]
      simp [h0]
    | succ k ih =>
      intro i l h0 h1 hi hd
      rw [show k + 1 + 1 + M = (k + 1 + M) + 1 from by omega, hs i _ l (by omega) h0 h1, drop_at a i d (by omega), List.map_cons, List.sum_cons]
      by_cases e : (c (nthI a (i : Int) d) : Int) ≤ l
      · rw [if_pos e, ih (i + 1) _ (by omega) (by omega) (by omega) (by omega)]
        congr 1
        split <;> split <;> omega
      · rw [if_neg e, if_neg (by omega)]
  rw [hM]
  simpa using h2 a.length 0 l h0 h1 (by omega) (by omega)
/-! Marking -/
def markAll {α : Type} (m1 : Int → α → α) (w1 : α → Nat) : Int → List α → List α
  | _, [] => []
  | k, x :: xs => m1 k x :: markAll m1 w1 (k + (w1 x : Int)) xs
theorem markAll_length {α : Type} (m1 : Int → α → α) (w1 : α → Nat) : ∀ (a : List α) (k : Int), (markAll m1 w1 k a).length = a.length
  | [], _ => rfl
  | x :: xs, k => by simp [markAll, markAll_length m1 w1 xs]
theorem sum_const {α : Type} (w : α → Nat) (a : List α) (n : Nat) (h : ∀ x, w x = n) : (a.map w).sum = n * a.length := by
  induction a with
  | nil => simp
  | cons x xs ih => simp [h x, ih, Nat.mul_add]; omega
theorem cmod3 : decide ((3 : Int) = 0) = false := rfl
theorem markLoop {α : Type} (F : Nat → Int → Int → List α → Option (Int × List α)) (m1 : Int → α → α) (w1 : α → Nat) (a : List α) (d : α) (nl : Nat) (hw : ∀ x, w1 x = nl) {k : Int} (h0 : 0 ≤ k) (hn : a.length ≤ 1000000000000) (hc : k + (nl : Int) * (a.length : Int) ≤ 1000000000000)
    (hs : ∀ (i m : Nat) (k : Int) (xs : List α), i < a.length → xs.length = a.length → 0 ≤ k → k + (nl : Int) ≤ 1000000000000 → F (m + 1) k (i : Int) xs = F m (k + (nl : Int)) ((i + 1 : Nat) : Int) (xs.set i (m1 k (nthI xs (i : Int) d))))
    (he : ∀ (m : Nat) (k : Int) (xs : List α), xs.length = a.length → F (m + 1) k (a.length : Int) xs = some (k, xs)) : F fu k 0 a = some (k + (nl : Int) * (a.length : Int), markAll m1 w1 k a) := by
  obtain ⟨M, hM⟩ := fu_ge a.length hn
  have h1 : ∀ q i : Nat, ∀ (k : Int) (xs : List α), xs.length = a.length → i ≤ a.length → a.length - i = q → 0 ≤ k → k + (nl : Int) * (q : Int) ≤ 1000000000000 → F (q + 1 + M) k (i : Int) xs = some (k + (nl : Int) * (q : Int), xs.take i ++ markAll m1 w1 k (xs.drop i)) := by
    intro q
    induction q with
    | zero =>
      intro i k xs hx hi hd h0 hc
      obtain rfl : i = a.length := by omega
      rw [show 0 + 1 + M = M + 1 from by omega, he _ _ _ hx, List.take_of_length_le (by omega), List.drop_of_length_le (by omega)]
      simp [markAll]
    | succ q ih =>
      intro i k xs hx hi hd h0 hc
      have e : (nl : Int) * ((q + 1 : Nat) : Int) = (nl : Int) * (q : Int) + nl := by rw [Int.natCast_add, Int.mul_add]; simp
      have hq : 0 ≤ (nl : Int) * (q : Int) := Int.mul_nonneg (by omega) (by omega)
      rw [e] at hc ⊢
      rw [show q + 1 + 1 + M = (q + 1 + M) + 1 from by omega, hs i _ k xs (by omega) hx h0 (by omega), ih (i + 1) _ _ (by simpa using hx) (by omega) (by omega) (by omega) (by omega), drop_at xs i d (by omega), markAll, hw]
      have hi2 : i < xs.length := by omega
      rw [List.take_add_one, List.getElem?_set_self hi2, List.take_set_of_le (Nat.le_refl i), List.drop_set_of_lt (by omega)]
      simp
      omega
  rw [hM]
  have := h1 a.length 0 k a rfl (by omega) (by omega) h0 hc
  simpa using this
theorem markAll_nth {α : Type} (m1 : Int → α → α) (w1 : α → Nat) (nl : Nat) (hw : ∀ x, w1 x = nl) (d : α) : ∀ (a : List α) (k : Int) (i : Nat), i < a.length → nthI (markAll m1 w1 k a) (i : Int) d = m1 (k + (nl : Int) * (i : Int)) (nthI a (i : Int) d)
  | [], _, i, h => by simp at h
  | x :: xs, k, 0, _ => by simp [markAll, nthI]
  | x :: xs, k, i + 1, h => by
    have := markAll_nth m1 w1 nl hw d xs (k + (w1 x : Int)) i (by simpa using h)
    rw [nthI_nat, nthI_nat] at this ⊢
    rw [markAll, List.getD_cons_succ, List.getD_cons_succ, this, hw, Int.natCast_add, Int.mul_add]
    congr 1
    omega
theorem heldLoop {α : Type} (F : Nat → Int → Int → Option Int) (m1 : Int → α → α) (w1 : α → Nat) (a : List α) (d : α) (nl : Nat) (hw : ∀ x, w1 x = nl) (k : Int) (h0 : 0 ≤ k) (hn : a.length ≤ 1000000000000) (hc : k + (nl : Int) * (a.length : Int) ≤ 1000000000000)
    (hs : ∀ (i m : Nat) (j : Int), i < a.length → 0 ≤ j → j + (nl : Int) ≤ 1000000000000 → nthI (markAll m1 w1 k a) (i : Int) d = m1 j (nthI a (i : Int) d) → F (m + 1) j (i : Int) = F m (j + (nl : Int)) ((i + 1 : Nat) : Int))
    (he : ∀ (m : Nat) (j : Int), F (m + 1) j (a.length : Int) = some j) : F fu k 0 = some (k + (nl : Int) * (a.length : Int)) := by
  obtain ⟨M, hM⟩ := fu_ge a.length hn
  have h1 : ∀ q i : Nat, i ≤ a.length → a.length - i = q → F (q + 1 + M) (k + (nl : Int) * (i : Int)) (i : Int) = some (k + (nl : Int) * (a.length : Int)) := by
    intro q
    induction q with
    | zero =>
      intro i hi hd
      obtain rfl : i = a.length := by omega
      rw [show 0 + 1 + M = M + 1 from by omega, he]
    | succ q ih =>
      intro i hi hd
      have e : (nl : Int) * ((i + 1 : Nat) : Int) = (nl : Int) * (i : Int) + nl := by rw [Int.natCast_add, Int.mul_add]; simp
      have hq : 0 ≤ (nl : Int) * (i : Int) := Int.mul_nonneg (by omega) (by omega)
      have hle : (nl : Int) * ((i + 1 : Nat) : Int) ≤ (nl : Int) * (a.length : Int) := Int.mul_le_mul_of_nonneg_left (by omega) (by omega)
      rw [show q + 1 + 1 + M = (q + 1 + M) + 1 from by omega, hs i _ _ (by omega) (by omega) (by omega) (markAll_nth m1 w1 nl hw d a k i (by omega))]
      have := ih (i + 1) (by omega) (by omega)
      rw [e] at this
      rw [show k + (nl : Int) * (i : Int) + (nl : Int) = k + ((nl : Int) * (i : Int) + (nl : Int)) from by omega]
      exact this
  rw [hM]
  have := h1 a.length 0 (by omega) (by omega)
  simpa using this
def bByte (x : Int) : Prop := (Lit.int .u8 x).wf = true
theorem toByteS_eq (a : List Int) (hc : a.length ≤ 1000000000000) : L.toByteS a = some a := by
  have hn := hc
  unfold L.toByteS
  simp only []
  rw [cdp (by omega)]
  refine toLoop (fun m i xs => L.toByteS_l0 m (fun y => some y) i a xs) a (0 : Int) hn (fun i m xs hi hx => ?_) (fun m xs => ?_) _ (by simp)
  · show L.toByteS_l0 (m + 1) _ _ _ _ = L.toByteS_l0 m _ _ _ _
    rw [L.toByteS_l0, cdp (by omega), cdp (by omega), cdp (by omega), w64 (by omega) (by omega)]
    rfl
  · show L.toByteS_l0 (m + 1) _ _ _ _ = _
    rw [L.toByteS_l0, cdn (by omega)]
def bInt (x : Int) : Prop := (Lit.int .i64 x).wf = true
abbrev TElem : Type := Int × Int × Int × Int
instance : DecidableEq TElem := (@instDecidableEqProd _ _ (inferInstance : DecidableEq Int) (@instDecidableEqProd _ _ (inferInstance : DecidableEq Int) (@instDecidableEqProd _ _ (inferInstance : DecidableEq Int) (inferInstance : DecidableEq Int))))
def bElem (x : TElem) : Prop := ((Lit.int .i64 x.1).wf = true ∧ (Lit.int .i64 x.2.1).wf = true ∧ (Lit.int .i64 x.2.2.1).wf = true ∧ (Lit.int .i64 x.2.2.2).wf = true)
theorem eqElem_eq (x y : TElem) : L.eqElem x.1 x.2.1 x.2.2.1 x.2.2.2 y.1 y.2.1 y.2.2.1 y.2.2.2 = some (decide (x = y)) := by
  unfold L.eqElem
  simp only [cneI, cneB, cnotb, cds, cdt, Option.bind_some]
  exact congrArg some (decide_eq_decide.mpr (by simp only [Prod.ext_iff, and_assoc]))
abbrev TPunct : Type := Int × Int × Int × Int
instance : DecidableEq TPunct := (@instDecidableEqProd _ _ (inferInstance : DecidableEq Int) (@instDecidableEqProd _ _ (inferInstance : DecidableEq Int) (@instDecidableEqProd _ _ (inferInstance : DecidableEq Int) (inferInstance : DecidableEq Int))))
def bPunct (x : TPunct) : Prop := ((Lit.int .i64 x.1).wf = true ∧ (Lit.int .i64 x.2.1).wf = true ∧ (Lit.int .i64 x.2.2.1).wf = true ∧ (Lit.int .i64 x.2.2.2).wf = true)
theorem eqPunct_eq (x y : TPunct) : L.eqPunct x.1 x.2.1 x.2.2.1 x.2.2.2 y.1 y.2.1 y.2.2.1 y.2.2.2 = some (decide (x = y)) := by
  unfold L.eqPunct
  simp only [cneI, cneB, cnotb, cds, cdt, Option.bind_some]
  exact congrArg some (decide_eq_decide.mpr (by simp only [Prod.ext_iff, and_assoc]))
abbrev TOp : Type := Int × (TElem) × (TPunct) × Int × Int
instance : DecidableEq TOp := (@instDecidableEqProd _ _ (inferInstance : DecidableEq Int) (@instDecidableEqProd _ _ (inferInstance : DecidableEq TElem) (@instDecidableEqProd _ _ (inferInstance : DecidableEq TPunct) (@instDecidableEqProd _ _ (inferInstance : DecidableEq Int) (inferInstance : DecidableEq Int)))))
def bOp (x : TOp) : Prop := ((Lit.int .i64 x.1).wf = true ∧ ((Lit.int .i64 x.2.1.1).wf = true ∧ (Lit.int .i64 x.2.1.2.1).wf = true ∧ (Lit.int .i64 x.2.1.2.2.1).wf = true ∧ (Lit.int .i64 x.2.1.2.2.2).wf = true) ∧ ((Lit.int .i64 x.2.2.1.1).wf = true ∧ (Lit.int .i64 x.2.2.1.2.1).wf = true ∧ (Lit.int .i64 x.2.2.1.2.2.1).wf = true ∧ (Lit.int .i64 x.2.2.1.2.2.2).wf = true) ∧ (Lit.int .i64 x.2.2.2.1).wf = true ∧ (Lit.int .i64 x.2.2.2.2).wf = true)
theorem eqOp_eq (x y : TOp) : L.eqOp x.1 x.2.1.1 x.2.1.2.1 x.2.1.2.2.1 x.2.1.2.2.2 x.2.2.1.1 x.2.2.1.2.1 x.2.2.1.2.2.1 x.2.2.1.2.2.2 x.2.2.2.1 x.2.2.2.2 y.1 y.2.1.1 y.2.1.2.1 y.2.1.2.2.1 y.2.1.2.2.2 y.2.2.1.1 y.2.2.1.2.1 y.2.2.1.2.2.1 y.2.2.1.2.2.2 y.2.2.2.1 y.2.2.2.2 = some (decide (x = y)) := by
  unfold L.eqOp
  simp only [eqElem_eq x.2.1 y.2.1, eqPunct_eq x.2.2.1 y.2.2.1, cneI, cneB, cnotb, cds, cdt, Option.bind_some]
  exact congrArg some (decide_eq_decide.mpr (by simp only [Prod.ext_iff, and_assoc]))
theorem eqOpS_eq (a b : List TOp) (hc : a.length ≤ 1000000000000) : L.eqOpS a b = some (decide (a = b)) := by
  have hn := hc
  unfold L.eqOpS
  refine eqTop a b ?_
  intro hl
  refine eqLoop (fun m i => L.eqOpS_l0 m (fun y => some y) (some true) i a b) a b ((0 : Int), (((0 : Int), ((0 : Int), ((0 : Int), (0 : Int)))), (((0 : Int), ((0 : Int), ((0 : Int), (0 : Int)))), ((0 : Int), (0 : Int))))) hl hn (fun i m hi => ?_) (fun m => ?_)
  · show L.eqOpS_l0 (m + 1) _ _ _ _ _ = bif _ then L.eqOpS_l0 m _ _ _ _ _ else _
    rw [L.eqOpS_l0, cdp (by omega), cdp (by omega), cdp (by omega), eqOp_eq (nthI a (i : Int) ((0 : Int), (((0 : Int), ((0 : Int), ((0 : Int), (0 : Int)))), (((0 : Int), ((0 : Int), ((0 : Int), (0 : Int)))), ((0 : Int), (0 : Int)))))) (nthI b (i : Int) ((0 : Int), (((0 : Int), ((0 : Int), ((0 : Int), (0 : Int)))), (((0 : Int), ((0 : Int), ((0 : Int), (0 : Int)))), ((0 : Int), (0 : Int)))))), Option.bind_some, cnotb, w64 (by omega) (by omega)]
    rfl
  · show L.eqOpS_l0 (m + 1) _ _ _ _ _ = _
    rw [L.eqOpS_l0, cdn (by omega)]
theorem eqByteS_eq (a b : List Int) (hc : a.length ≤ 1000000000000) : L.eqByteS a b = some (decide (a = b)) := by
  have hn := hc
  unfold L.eqByteS
  refine eqTop a b ?_
  intro hl
  refine eqLoop (fun m i => L.eqByteS_l0 m (fun y => some y) (some true) i a b) a b (0 : Int) hl hn (fun i m hi => ?_) (fun m => ?_)
  · show L.eqByteS_l0 (m + 1) _ _ _ _ _ = bif _ then L.eqByteS_l0 m _ _ _ _ _ else _
    rw [L.eqByteS_l0, cdp (by omega), cdp (by omega), cdp (by omega), cneI, w64 (by omega) (by omega)]
    rfl
  · show L.eqByteS_l0 (m + 1) _ _ _ _ _ = _
    rw [L.eqByteS_l0, cdn (by omega)]
def m1Byte (k : Int) (_ : Int) : Int := k % 256
def w1Byte (_ : Int) : Nat := 1
def mByteS (k : Int) (a : List Int) : List Int := markAll m1Byte w1Byte k a
def wByteS (a : List Int) : Nat := (a.map w1Byte).sum
theorem wByteS_len (a : List Int) : wByteS a = 1 * a.length := by unfold wByteS; exact sum_const _ a _ (fun _ => rfl)
theorem markByteS_eq (k : Int) (a : List Int) (h0 : 0 ≤ k) (hc : k + 1 * (a.length : Int) ≤ 1000000000000) : L.markByteS k a = some (k + 1 * (a.length : Int), mByteS k a) := by
  unfold L.markByteS mByteS
  refine (markLoop (fun m k i xs => L.markByteS_l0 m (fun y12 y13 => some (y12, y13)) k i xs) m1Byte w1Byte a (0 : Int) 1 (fun _ => rfl) h0 (by omega) hc (fun i m k xs hi hx h0 h1 => ?_) (fun m k xs hx => ?_)).trans rfl
  · show L.markByteS_l0 (m + 1) _ _ _ _ = L.markByteS_l0 m _ _ _ _
    have hdec : decide ((0 : Int) ≤ (i : Int) ∧ (i : Int) < (xs.length : Int)) = true := by simp; omega
    rw [L.markByteS_l0, cdp (by omega)]
    simp (disch := omega) only [hdec, cond_true, w64, u8_mod, u64w, List.length_set, nthI_set, List.set_set, Int.toNat_natCast, cmod3, Int.add_assoc, Int.reduceAdd, if_false, reduceIte]
    rfl
  · show L.markByteS_l0 (m + 1) _ _ _ _ = _
    rw [L.markByteS_l0, cdn (by omega)]
def m1Op (k : Int) (x : TOp) : TOp := (k, ((k + 1, (k + 2, (k + 3, k + 4))), ((k + 5, (k + 6, (k + 7, k + 8))), (k + 9, k + 10))))
def w1Op (x : TOp) : Nat := 11
def mOpS (k : Int) (a : List TOp) : List TOp := markAll m1Op w1Op k a
def wOpS (a : List TOp) : Nat := (a.map w1Op).sum
theorem wOpS_len (a : List TOp) : wOpS a = 11 * a.length := by unfold wOpS; exact sum_const _ a _ (fun _ => rfl)
theorem markOpS_eq (k : Int) (a : List TOp) (h0 : 0 ≤ k) (hc : k + 11 * (a.length : Int) ≤ 1000000000000) : L.markOpS k a = some (k + 11 * (a.length : Int), mOpS k a) := by
  unfold L.markOpS mOpS
  refine (markLoop (fun m k i xs => L.markOpS_l0 m (fun y12 y13 => some (y12, y13)) k i xs) m1Op w1Op a ((0 : Int), (((0 : Int), ((0 : Int), ((0 : Int), (0 : Int)))), (((0 : Int), ((0 : Int), ((0 : Int), (0 : Int)))), ((0 : Int), (0 : Int))))) 11 (fun _ => rfl) h0 (by omega) hc (fun i m k xs hi hx h0 h1 => ?_) (fun m k xs hx => ?_)).trans rfl
  · show L.markOpS_l0 (m + 1) _ _ _ _ = L.markOpS_l0 m _ _ _ _
    have hdec : decide ((0 : Int) ≤ (i : Int) ∧ (i : Int) < (xs.length : Int)) = true := by simp; omega
    rw [L.markOpS_l0, cdp (by omega)]
    simp (disch := omega) only [hdec, cond_true, w64, u8_mod, u64w, List.length_set, nthI_set, List.set_set, Int.toNat_natCast, cmod3, Int.add_assoc, Int.reduceAdd, if_false, reduceIte]
    rfl
  · show L.markOpS_l0 (m + 1) _ _ _ _ = _
    rw [L.markOpS_l0, cdn (by omega)]
theorem heldOpS_eq (k : Int) (a : List TOp) (h0 : 0 ≤ k) (hc : k + 11 * (a.length : Int) ≤ 1000000000000) : L.heldOpS k (mOpS k a) = some (k + 11 * (a.length : Int)) := by
  unfold L.heldOpS
  refine heldLoop (fun m q i => L.heldOpS_l0 m (fun y12 y13 => some y13) (fun y14 => some y14) q i (mOpS k a)) m1Op w1Op a ((0 : Int), (((0 : Int), ((0 : Int), ((0 : Int), (0 : Int)))), (((0 : Int), ((0 : Int), ((0 : Int), (0 : Int)))), ((0 : Int), (0 : Int))))) 11 (fun _ => rfl) k h0 (by omega) hc (fun i m j hi h0 h1 hx => ?_) (fun m j => ?_)
  all_goals (have hl : (mOpS k a).length = a.length := markAll_length _ _ _ _)
  · show L.heldOpS_l0 (m + 1) _ _ _ _ _ = L.heldOpS_l0 m _ _ _ _ _
    have hx : nthI (mOpS k a) (i : Int) ((0 : Int), (((0 : Int), ((0 : Int), ((0 : Int), (0 : Int)))), (((0 : Int), ((0 : Int), ((0 : Int), (0 : Int)))), ((0 : Int), (0 : Int))))) = _ := hx
    have hdec : decide ((0 : Int) ≤ (i : Int) ∧ (i : Int) < ((mOpS k a).length : Int)) = true := by rw [hl]; simp; omega
    rw [L.heldOpS_l0, cdp (by omega)]
    simp (disch := omega) only [hdec, hx, m1Op, cond_true, cond_false, w64, u8_mod, u64w, bne_self_eq_false, cmod3, Int.add_assoc, Int.reduceAdd, if_false, reduceIte, beq_self_eq_true, Bool.not_true]
    rfl
  · show L.heldOpS_l0 (m + 1) _ _ _ _ _ = _
    rw [L.heldOpS_l0, cdn (by rw [hl]; omega)]
theorem in_eq (a b c : Int) : I.in a b c = some (decide (b ≤ a ∧ a ≤ c)) := by unfold I.in; rw [cond_some, cond_and, dand]
/-! Elements -/
theorem isSource_eq (a : Int) : I.isSource a = some (decide (0 ≤ a ∧ a ≤ 3)) := by unfold I.isSource; rw [in_eq]; rfl
theorem isTime_eq (a : Int) : I.isTime a = some (decide (0 ≤ a ∧ a ≤ 1000)) := by unfold I.isTime; rw [in_eq]; rfl
theorem isKey_eq (a : Int) : I.isKey a = some (decide (0 ≤ a ∧ a ≤ 15)) := by unfold I.isKey; rw [in_eq]; rfl
theorem isElem_eq (a b c d : Int) : I.isElem a b c d = some (decide ((0 ≤ a ∧ a ≤ 3) ∧ (0 ≤ b ∧ b ≤ 15) ∧ (0 ≤ d ∧ d ≤ 1000))) := by
  unfold I.isElem; simp only [isSource_eq, isKey_eq, isTime_eq, Option.bind_some, cond_some, cond_and, dand]
theorem l04Src_eq (a : Int) : S.l04Src a = some (decide (0 ≤ a ∧ a ≤ 3)) := by
  unfold S.l04Src; rw [cond_some, cond_and, dand]; congr 2; apply propext; omega
theorem l05Time_eq (a : Int) : S.l05Time a = some (decide (0 ≤ a ∧ a ≤ 1000)) := by unfold S.l05Time; rw [cond_some, cond_and, dand]
theorem l04Key_eq (a : Int) : S.l04Key a = some (decide (0 ≤ a ∧ a ≤ 15)) := by unfold S.l04Key; rw [cond_some, cond_and, dand]
theorem ElemOk_eq (a b c d : Int) : S.ElemOk a b c d = some (decide ((0 ≤ a ∧ a ≤ 3) ∧ (0 ≤ b ∧ b ≤ 15) ∧ (0 ≤ d ∧ d ≤ 1000))) := by
  unfold S.ElemOk; simp only [l04Src_eq, l04Key_eq, l05Time_eq, Option.bind_some, cond_some, cond_and, dand]
/-! OpOk -/
/-- What an operation must be. -/
def opOk (a1 a2 a3 a4 a5 a6 a7 a8 a9 a10 a11 : Int) : Bool :=
  bif a1 == 1 then decide ((0 ≤ a2 ∧ a2 ≤ 3) ∧ (0 ≤ a3 ∧ a3 ≤ 15) ∧ (0 ≤ a5 ∧ a5 ≤ 1000) ∧ a6 = 0 ∧ a7 = 0 ∧ a8 = 0 ∧ a9 = 0 ∧ a10 = 0 ∧ a11 = 0)
  else bif a1 == 2 then decide ((0 ≤ a6 ∧ a6 ≤ 3) ∧ (0 ≤ a7 ∧ a7 ≤ 4) ∧ (0 ≤ a8 ∧ a8 ≤ 15) ∧ (0 ≤ a9 ∧ a9 ≤ 15) ∧ a2 = 0 ∧ a3 = 0 ∧ a4 = 0 ∧ a5 = 0 ∧ a10 = 0 ∧ a11 = 0)
  else bif a1 == 3 then decide ((0 ≤ a6 ∧ a6 ≤ 3) ∧ (0 ≤ a7 ∧ a7 ≤ 4) ∧ (0 ≤ a8 ∧ a8 ≤ 15) ∧ a9 = 0 ∧ a2 = 0 ∧ a3 = 0 ∧ a4 = 0 ∧ a5 = 0 ∧ a10 = 0 ∧ a11 = 0)
  else bif a1 == 4 then decide ((0 ≤ a10 ∧ a10 ≤ 3) ∧ (0 ≤ a11 ∧ a11 ≤ 1000) ∧ a2 = 0 ∧ a3 = 0 ∧ a4 = 0 ∧ a5 = 0 ∧ a6 = 0 ∧ a7 = 0 ∧ a8 = 0 ∧ a9 = 0)
  else bif a1 == 5 || a1 == 6 then decide ((0 ≤ a10 ∧ a10 ≤ 3) ∧ a11 = 0 ∧ a2 = 0 ∧ a3 = 0 ∧ a4 = 0 ∧ a5 = 0 ∧ a6 = 0 ∧ a7 = 0 ∧ a8 = 0 ∧ a9 = 0)
  else bif a1 == 7 || a1 == 8 || a1 == 9 then decide ((0 ≤ a10 ∧ a10 ≤ 3) ∧ (0 ≤ a11 ∧ a11 ≤ 1000000) ∧ a2 = 0 ∧ a3 = 0 ∧ a4 = 0 ∧ a5 = 0 ∧ a6 = 0 ∧ a7 = 0 ∧ a8 = 0 ∧ a9 = 0)
  else false
theorem isPlace_eq (a b c d : Int) : I.Punct_isPlace a b c d = some (decide ((0 ≤ a ∧ a ≤ 3) ∧ (0 ≤ b ∧ b ≤ 4) ∧ (0 ≤ c ∧ c ≤ 15))) := by
  unfold I.Punct_isPlace; simp only [isSource_eq, isKey_eq, in_eq, Option.bind_some, cond_some, cond_and, dand]
theorem l10Count_eq (a : Int) : S.l10Count a = some (decide (0 ≤ a ∧ a ≤ 1000000)) := by unfold S.l10Count; rw [cond_some, cond_and, dand]
theorem l04Bits_eq (a : Int) : S.l04Bits a = some (decide (0 ≤ a ∧ a ≤ 4)) := by unfold S.l04Bits; rw [cond_some, cond_and, dand]
theorem l11Punct_eq (a b c d : Int) : S.l11Punct a b c d = some (decide ((0 ≤ a ∧ a ≤ 3) ∧ (0 ≤ b ∧ b ≤ 4) ∧ (0 ≤ c ∧ c ≤ 15) ∧ (0 ≤ d ∧ d ≤ 15))) := by
  unfold S.l11Punct; simp only [l04Src_eq, l04Key_eq, l04Bits_eq, Option.bind_some, cond_some, cond_and, dand]; congr 2; apply propext; omega
theorem specOpOk_eq (a b c d e f g h i j k : Int) : S.OpOk a b c d e f g h i j k = some (opOk a b c d e f g h i j k) := by
  unfold S.OpOk
  simp only [ElemOk_eq, l11Punct_eq, l04Src_eq, l05Time_eq, l10Count_eq, Option.bind_some, cond_some, cond_and]
  congr 1
  unfold opOk
  rw [Bool.eq_iff_iff]
  by_cases h1 : a = 1
  · subst h1; simp; omega
  by_cases h2 : a = 2
  · subst h2; simp; omega
  by_cases h3 : a = 3
  · subst h3; simp; omega
  by_cases h4 : a = 4
  · subst h4; simp; omega
  by_cases h5 : a = 5
  · subst h5; simp; omega
  by_cases h6 : a = 6
  · subst h6; simp; omega
  by_cases h7 : a = 7
  · subst h7; simp; omega
  by_cases h8 : a = 8
  · subst h8; simp; omega
  by_cases h9 : a = 9
  · subst h9; simp; omega
  simp [h1, h2, h3, h4, h5, h6, h7, h8, h9]
theorem isOp_eq (a b c d e f g h i j k : Int) : I.isOp a b c d e f g h i j k = some (opOk a b c d e f g h i j k) := by
  unfold I.isOp
  simp only [isElem_eq, isPlace_eq, in_eq, isSource_eq, isTime_eq, dup_eq, Option.bind_some, cond_some, cond_and]
  congr 1
  unfold opOk
  rw [Bool.eq_iff_iff]
  by_cases h1 : a = 1
  · subst h1; simp; omega
  by_cases h2 : a = 2
  · subst h2; simp; omega
  by_cases h3 : a = 3
  · subst h3; simp; omega
  by_cases h4 : a = 4
  · subst h4; simp; omega
  by_cases h5 : a = 5
  · subst h5; simp; omega
  by_cases h6 : a = 6
  · subst h6; simp; omega
  by_cases h7 : a = 7
  · subst h7; simp; omega
  by_cases h8 : a = 8
  · subst h8; simp; omega
  by_cases h9 : a = 9
  · subst h9; simp; omega
  simp [h1, h2, h3, h4, h5, h6, h7, h8, h9]
/-! NumBytes -/
/-- The bytes of a number, seven bits each. -/
def venc : Nat → Nat → List Int
  | 0, _ => []
  | d + 1, u => if u < 128 then [(u : Int)] else ((128 + u % 128 : Nat) : Int) :: venc d (u / 128)
theorem venc_small {d u : Nat} (h : u < 128) : venc (d + 1) u = [(u : Int)] := by rw [venc, if_pos h]
theorem venc_big {d u : Nat} (h : ¬ u < 128) : venc (d + 1) u = ((128 + u % 128 : Nat) : Int) :: venc d (u / 128) := by rw [venc, if_neg h]
theorem venc_length (d : Nat) : ∀ u, (venc d u).length ≤ d := by
  induction d with
  | zero => intro u; simp [venc]
  | succ d ih =>
    intro u
    unfold venc
    split
    · simp
    · have := ih (u / 128)
      simp only [List.length_cons]
      omega
/-- The number without a sign. -/
def zig (n : Int) : Nat := if n < 0 then (2 * (-1 - n) + 1).toNat else (2 * n).toNat
theorem zig_lt (n : Int) (h0 : -9223372036854775808 ≤ n) (h1 : n < 9223372036854775808) : zig n < 18446744073709551616 := by
  unfold zig; split <;> omega
theorem sNumBytes_l (e : Int → List Int → Option (List Int)) (d : Nat) : ∀ (u m : Nat) (acc : List Int), (∀ (x : Nat) acc', x < 128 → acc'.length ≤ 1000000 → e (x : Int) acc' = some (acc' ++ [(x : Int)])) → u < 18446744073709551616 → u < 128 ^ (d + 1) → acc.length + d + 1 ≤ 1000000 →
    S.NumBytes_l0 (d + 1 + m) e (u : Int) acc = some (acc ++ venc (d + 1) u) := by
  induction d with
  | zero =>
    intro u m acc he h64 hu ha
    have hu' : u < 128 := by simpa using hu
    rw [show 0 + 1 + m = m + 1 from by omega, S.NumBytes_l0, cdn (by omega), he u acc hu' (by omega)]
    simp only [venc, if_pos hu']
  | succ d ih =>
    intro u m acc he h64 hu ha
    by_cases h : u < 128
    · rw [show d + 1 + 1 + m = (d + 1 + m) + 1 from by omega, S.NumBytes_l0, cdn (by omega), he u acc h (by omega), venc_small h]
    · have hq : u / 128 < 128 ^ (d + 1) := by
        rw [Nat.div_lt_iff_lt_mul (by decide)]
        rw [Nat.pow_succ] at hu
        exact hu
      have := ih (u / 128) m (acc ++ [((128 + u % 128 : Nat) : Int)]) he (by omega) hq (by simp; omega)
      have e1 : IntKind.u64.wrap ((u : Int).tdiv 128) = ((u / 128 : Nat) : Int) := by rw [tdiv_nat _ _ (by omega), u64w (by omega) (by omega)]; omega
      have e2 : IntKind.u8.wrap (IntKind.u64.wrap (128 + (u : Int).tmod 128)) = ((128 + u % 128 : Nat) : Int) := by rw [tmod_nat _ _ (by omega), u64w (by omega) (by omega), u8_mod]; omega
      rw [show d + 1 + 1 + m = (d + 1 + m) + 1 from by omega, S.NumBytes_l0, cdp (by omega), cdn (by omega)]
      simp only [e1, e2]
      rw [cdp (by simp; omega), cdn (by omega), this, venc_big h]
      simp
theorem zig_key (f : Int → List Int → Option (List Int)) (hf : ∀ y z, f y z = (let v18 : Int := (IntKind.wrap .u8 y)
(bif decide ((z.length + [v18].length) * 1 ≤ 140737488355328) then
(some (z ++ [v18]))
else
none))) : ∀ (x : Nat) (acc' : List Int), x < 128 → acc'.length ≤ 1000000 → f (x : Int) acc' = some (acc' ++ [(x : Int)]) := by
  intro x acc hx ha
  rw [hf]
  have e : IntKind.u8.wrap (x : Int) = x := by rw [u8_mod]; omega
  simp only [e]
  rw [cdp (by simp; omega)]
theorem sNumBytes_eq (n : Int) (h0 : -9223372036854775808 ≤ n) (h1 : n < 9223372036854775808) : S.NumBytes n = some (venc 10 (zig n)) := by
  have hz := zig_lt n h0 h1
  obtain ⟨m, hm⟩ := fu_ge 9 (by omega)
  have key := sNumBytes_l _ 9 (zig n) m [] (zig_key _ fun _ _ => rfl) hz (by omega) (by simp)
  simp only [List.nil_append] at key
  unfold S.NumBytes
  rw [hm]
  by_cases h : n < 0
  · have e : (zig n : Int) = IntKind.u64.wrap ((IntKind.u64.wrap (2 * (IntKind.u64.wrap (IntKind.i64.wrap ((-1) - n))))) + 1) := by
      rw [w64 (by omega) (by omega)]
      simp only [u64_mod]
      unfold zig
      rw [if_pos h]
      omega
    rw [cdp h, ← e]
    exact key
  · have e : (zig n : Int) = IntKind.u64.wrap (2 * (IntKind.u64.wrap n)) := by
      simp only [u64_mod]
      unfold zig
      rw [if_neg h]
      omega
    rw [cdn h, ← e]
    exact key
theorem iNumBytes_l (e : Int → List Int → Option (List Int)) (d : Nat) : ∀ (u m : Nat) (acc : List Int), (∀ (x : Nat) acc', x < 128 → acc'.length ≤ 1000000 → e (x : Int) acc' = some (acc' ++ [(x : Int)])) → u < 18446744073709551616 → u < 128 ^ (d + 1) → acc.length + d + 1 ≤ 1000000 →
    I.NumBytes_l0 (d + 1 + m) e (u : Int) acc = some (acc ++ venc (d + 1) u) := by
  induction d with
  | zero =>
    intro u m acc he h64 hu ha
    have hu' : u < 128 := by simpa using hu
    rw [show 0 + 1 + m = m + 1 from by omega, I.NumBytes_l0, cdn (by omega), he u acc hu' (by omega)]
    simp only [venc, if_pos hu']
  | succ d ih =>
    intro u m acc he h64 hu ha
    by_cases h : u < 128
    · rw [show d + 1 + 1 + m = (d + 1 + m) + 1 from by omega, I.NumBytes_l0, cdn (by omega), he u acc h (by omega), venc_small h]
    · have hq : u / 128 < 128 ^ (d + 1) := by
        rw [Nat.div_lt_iff_lt_mul (by decide)]
        rw [Nat.pow_succ] at hu
        exact hu
      have := ih (u / 128) m (acc ++ [((128 + u % 128 : Nat) : Int)]) he (by omega) hq (by simp; omega)
      have e1 : (u : Int).fdiv (2 ^ min (Int.toNat 7) (IntKind.bits .u64)) = ((u / 128 : Nat) : Int) := by
        rw [show (2 : Int) ^ min (Int.toNat 7) (IntKind.bits .u64) = 128 from by decide, Int.fdiv_eq_ediv_of_nonneg _ (by omega)]; omega
      have e2 : Go.bits .or .u8 (IntKind.wrap .u8 (u : Int)) 128 = ((128 + u % 128 : Nat) : Int) := by rw [u8_mod, bits_or_128 _ (by omega) (by omega)]; omega
      rw [show d + 1 + 1 + m = (d + 1 + m) + 1 from by omega, I.NumBytes_l0, cdp (by omega)]
      simp only [e1, e2]
      rw [cdp (by simp; omega), cdp (by omega), this, venc_big h]
      simp
theorem izigzag_eq (n : Int) (h0 : -9223372036854775808 ≤ n) (h1 : n < 9223372036854775808) : I.zigzag n = some (zig n : Int) := by
  unfold I.zigzag
  rw [cdp (by omega)]
  simp only []
  rw [cdp (by omega)]
  congr 1
  rw [show (2 : Int) ^ min (Int.toNat 1) (IntKind.bits .u64) = 2 from by decide, show (2 : Int) ^ min (Int.toNat 63) (IntKind.bits .i64) = 9223372036854775808 from by decide, Int.fdiv_eq_ediv_of_nonneg _ (by omega)]
  by_cases h : n < 0
  · have e : IntKind.u64.wrap (n / 9223372036854775808) = 18446744073709551615 := by rw [u64_mod]; omega
    rw [e, bits_xor_ones _ (by rw [u64_mod]; omega) (by rw [u64_mod]; omega)]
    simp only [u64_mod]
    unfold zig
    rw [if_pos h]
    omega
  · have e : IntKind.u64.wrap (n / 9223372036854775808) = 0 := by rw [u64_mod]; omega
    rw [e, bits_xor_zero _ (by rw [u64_mod]; omega) (by rw [u64_mod]; omega)]
    simp only [u64_mod]
    unfold zig
    rw [if_neg h]
    omega
theorem iNumBytes_eq (n : Int) (h0 : -9223372036854775808 ≤ n) (h1 : n < 9223372036854775808) : I.NumBytes n = some (venc 10 (zig n)) := by
  have hz := zig_lt n h0 h1
  obtain ⟨m, hm⟩ := fu_ge 9 (by omega)
  have key := iNumBytes_l _ 9 (zig n) m [] (zig_key _ fun _ _ => rfl) hz (by omega) (by simp)
  simp only [List.nil_append] at key
  unfold I.NumBytes
  rw [izigzag_eq n h0 h1, hm]
  exact key
/-- The bytes of numbers, one after the other. -/
def nums (xs : List Int) : List Int := xs.flatMap (fun x => venc 10 (zig x))
theorem nums_length : ∀ xs : List Int, (nums xs).length ≤ 10 * xs.length
  | [] => by simp [nums]
  | x :: xs => by
    have := nums_length xs
    have := venc_length 10 (zig x)
    simp only [nums, List.flatMap_cons, List.length_append, List.length_cons] at *
    omega
theorem sOpBytes_l (xs : List Int) (hx : ∀ x ∈ xs, -9223372036854775808 ≤ x ∧ x < 9223372036854775808) (hn : xs.length ≤ 1000000) (d : Nat) : ∀ (i m : Nat) (acc : List Int), i ≤ xs.length → xs.length - i = d → acc.length ≤ 10 * i →
    S.OpBytes_l0 (d + 1 + m) (fun y21 => some y21) (i : Int) acc xs = some (acc ++ (xs.drop i).flatMap (fun x => venc 10 (zig x))) := by
  induction d with
  | zero =>
    intro i m acc hi hd ha
    rw [show 0 + 1 + m = m + 1 from by omega, S.OpBytes_l0, cdn (by omega), List.drop_of_length_le (by omega)]
    simp
  | succ d ih =>
    intro i m acc hi hd ha
    have hb : nthI xs (i : Int) 0 ∈ xs := by
      have hi' : i < xs.length := by omega
      rw [nthI_nat, List.getD_eq_getElem?_getD, List.getElem?_eq_getElem hi']; simp
    have hv := hx _ hb
    have hl := venc_length 10 (zig (nthI xs (i : Int) 0))
    rw [show d + 1 + 1 + m = (d + 1 + m) + 1 from by omega, S.OpBytes_l0, cdp (by omega), cdp (by omega), sNumBytes_eq _ hv.1 hv.2, Option.bind_some, cdp (by omega), w64 (by omega) (by omega), show (i : Int) + 1 = ((i + 1 : Nat) : Int) from by omega, ih (i + 1) m _ (by omega) (by omega) (by rw [List.length_append]; omega), drop_nth xs i (by omega)]
    simp
def opBytes (a b c d e f g h i j k : Int) : List Int := bif opOk a b c d e f g h i j k then nums [a, b, c, d, e, f, g, h, i, j, k] else []
theorem opBytes_length (a b c d e f g h i j k : Int) : (opBytes a b c d e f g h i j k).length ≤ 110 := by
  unfold opBytes
  have := nums_length [a, b, c, d, e, f, g, h, i, j, k]
  cases opOk a b c d e f g h i j k
  · simp
  · simpa using this
theorem sOpBytes_eq (a b c d e f g h i j k : Int) (hx : ∀ x ∈ [a, b, c, d, e, f, g, h, i, j, k], -9223372036854775808 ≤ x ∧ x < 9223372036854775808) : S.OpBytes a b c d e f g h i j k = some (opBytes a b c d e f g h i j k) := by
  unfold S.OpBytes opBytes
  rw [specOpOk_eq, Option.bind_some]
  cases opOk a b c d e f g h i j k
  · rfl
  · obtain ⟨m, hm⟩ := fu_ge 11 (by omega)
    have := sOpBytes_l [a, b, c, d, e, f, g, h, i, j, k] hx (by simp) 11 0 m [] (by simp) (by simp) (by simp)
    unfold S.l13Fields
    rw [hm]
    exact this
/-! NumRead -/
theorem strOf_eq (xs ys : List Int) (hx : ∀ x ∈ xs, 0 ≤ x ∧ x < 256) (hy : ∀ x ∈ ys, 0 ≤ x ∧ x < 256) : ((strOfNums xs).toList == (strOfNums ys).toList) = decide (xs = ys) := by
  rw [ByteArray.toList_eq, ByteArray.toList_eq, strOfNums_data, strOfNums_data]
  have inj : ∀ (xs ys : List Int), (∀ x ∈ xs, 0 ≤ x ∧ x < 256) → (∀ x ∈ ys, 0 ≤ x ∧ x < 256) → (xs.map fun n => UInt8.ofNat n.toNat) = (ys.map fun n => UInt8.ofNat n.toNat) → xs = ys := by
    intro xs
    induction xs with
    | nil => intro ys _ _ h; cases ys with
      | nil => rfl
      | cons y ys => simp at h
    | cons x xs ih =>
      intro ys hx hy h
      cases ys with
      | nil => simp at h
      | cons y ys =>
        simp only [List.map_cons, List.cons.injEq] at h
        have e := congrArg UInt8.toNat h.1
        rw [UInt8.toNat_ofNat', UInt8.toNat_ofNat'] at e
        have h1 := hx x (by simp)
        have h2 := hy y (by simp)
        have e2 : x = y := by omega
        rw [e2, ih ys (fun z hz => hx z (by simp [hz])) (fun z hz => hy z (by simp [hz])) h.2]
  rw [Bool.eq_iff_iff]
  simp only [beq_iff_eq, decide_eq_true_eq]
  exact ⟨inj xs ys hx hy, fun h => h ▸ rfl⟩
theorem venc_bytes : ∀ (d u : Nat), ∀ x ∈ venc d u, 0 ≤ x ∧ x < 256
  | 0, u => by simp [venc]
  | d + 1, u => by
    by_cases h : u < 128
    · rw [venc_small h]; simp; omega
    · rw [venc_big h]
      intro x hx
      rcases List.mem_cons.1 hx with rfl | hx
      · omega
      · exact venc_bytes d _ x hx
def cont : Nat → Nat → List Int
  | 0, _ => []
  | k + 1, u => ((128 + u % 128 : Nat) : Int) :: cont k (u / 128)
def pad : Nat → Nat → List Int
  | 0, u => [(u : Int)]
  | k + 1, u => ((128 + u % 128 : Nat) : Int) :: pad k (u / 128)
theorem pad_length : ∀ k u, (pad k u).length = k + 1
  | 0, u => rfl
  | k + 1, u => by simp [pad, pad_length k]
theorem pad_inj : ∀ k u v, pad k u = pad k v → u = v
  | 0, u, v, h => by
    simp only [pad, List.cons.injEq, and_true] at h
    omega
  | k + 1, u, v, h => by
    simp only [pad, List.cons.injEq] at h
    have := pad_inj k _ _ h.2
    omega
theorem venc_pad : ∀ d u, u < 128 ^ (d + 1) → ∃ k, venc (d + 1) u = pad k u
  | 0, u, h => ⟨0, by rw [venc_small (by simpa using h)]; rfl⟩
  | d + 1, u, h => by
    by_cases hu : u < 128
    · exact ⟨0, by rw [venc_small hu]; rfl⟩
    · obtain ⟨k, hk⟩ := venc_pad d (u / 128) (by rw [Nat.div_lt_iff_lt_mul (by decide)]; rw [Nat.pow_succ] at h; exact h)
      exact ⟨k + 1, by rw [venc_big hu, hk]; rfl⟩
theorem venc_is_pad (k u w : Nat) (hu : u < 18446744073709551616) : (venc 10 u = pad k w) ↔ ((venc 10 u).length = k + 1 ∧ u = w) := by
  obtain ⟨q, hq⟩ := venc_pad 9 u (by omega)
  rw [hq, pad_length]
  constructor
  · intro h
    have hl := congrArg List.length h
    rw [pad_length, pad_length] at hl
    obtain rfl : q = k := by omega
    exact ⟨rfl, pad_inj _ _ _ h⟩
  · rintro ⟨h1, rfl⟩
    obtain rfl : q = k := by omega
    rfl
theorem pow_step (k b : Nat) : 128 ^ (k + 1) * b = 128 * (128 ^ k * b) := by rw [Nat.pow_succ, Nat.mul_comm (128 ^ k) 128, Nat.mul_assoc]
theorem cont_last : ∀ k u b : Nat, u < 128 ^ k → cont k u ++ [(b : Int)] = pad k (u + 128 ^ k * b)
  | 0, u, b, h => by
    obtain rfl : u = 0 := by simpa using h
    simp [cont, pad]
  | k + 1, u, b, h => by
    have h2 : u / 128 < 128 ^ k := by rw [Nat.div_lt_iff_lt_mul (by decide)]; rw [Nat.pow_succ] at h; exact h
    have ih := cont_last k (u / 128) b h2
    rw [pow_step]
    simp only [cont, pad, List.cons_append, ih]
    generalize 128 ^ k * b = q
    rw [show (u + 128 * q) % 128 = u % 128 from by omega, show (u + 128 * q) / 128 = u / 128 + q from by omega]
theorem cont_next : ∀ k u c : Nat, u < 128 ^ k → c < 128 → cont (k + 1) (u + 128 ^ k * c) = cont k u ++ [((128 + c : Nat) : Int)]
  | 0, u, c, h, hc => by
    obtain rfl : u = 0 := by simpa using h
    simp [cont, Nat.mod_eq_of_lt hc]
  | k + 1, u, c, h, hc => by
    have h2 : u / 128 < 128 ^ k := by rw [Nat.div_lt_iff_lt_mul (by decide)]; rw [Nat.pow_succ] at h; exact h
    have ih := cont_next k (u / 128) c h2 hc
    rw [pow_step, cont, show cont (k + 1) u = ((128 + u % 128 : Nat) : Int) :: cont k (u / 128) from rfl, List.cons_append, ← ih]
    generalize 128 ^ k * c = q
    rw [show (u + 128 * q) % 128 = u % 128 from by omega, show (u + 128 * q) / 128 = u / 128 + q from by omega]
theorem and127 (x : Int) (h0 : 0 ≤ x) (h1 : x < 256) : Go.bits .and .u8 x 127 = x % 128 := by
  obtain ⟨n, rfl⟩ := Int.eq_ofNat_of_zero_le h0
  have hn : n < 256 := by omega
  have key : ∀ m : Fin 256, Go.bits .and .u8 ((m.val : Nat) : Int) 127 = ((m.val : Nat) : Int) % 128 := by decide +kernel
  exact key ⟨n, hn⟩
theorem and_one (v : Nat) (h : v < 18446744073709551616) : Go.bits .and .u64 (v : Int) 1 = ((v % 2 : Nat) : Int) := by
  have := bits_and_u64_nat v 1 h (by omega)
  rw [Nat.and_one_is_mod] at this
  exact this
theorem shl7 (k : Nat) (h : k ≤ 9) : (2 : Int) ^ (min (Int.toNat (IntKind.i64.wrap (7 * (k : Int)))) (IntKind.bits .u64)) = ((128 ^ k : Nat) : Int) := by
  have key : ∀ m : Fin 10, (2 : Int) ^ (min (Int.toNat (IntKind.i64.wrap (7 * ((m.val : Nat) : Int)))) (IntKind.bits .u64)) = ((128 ^ m.val : Nat) : Int) := by decide +kernel
  exact key ⟨k, by omega⟩
theorem pow_le (k : Nat) (h : k ≤ 9) : 128 ^ k ≤ 9223372036854775808 := by
  have key : ∀ m : Fin 10, 128 ^ m.val ≤ 9223372036854775808 := by decide +kernel
  exact key ⟨k, by omega⟩
theorem or_lem (k U c : Nat) (hk : k ≤ 9) (hU : U < 128 ^ k) : U ||| ((128 ^ k * c) % 18446744073709551616) = (U + 128 ^ k * c) % 18446744073709551616 := by
  have hq : 128 ^ k = 2 ^ (7 * k) := by rw [Nat.pow_mul]
  rw [hq] at hU ⊢
  have h64 : (18446744073709551616 : Nat) = 2 ^ (7 * k) * 2 ^ (64 - 7 * k) := by rw [← Nat.pow_add, show 7 * k + (64 - 7 * k) = 64 from by omega]
  have e1 : (2 ^ (7 * k) * c) % 18446744073709551616 = 2 ^ (7 * k) * (c % 2 ^ (64 - 7 * k)) := by rw [h64, Nat.mul_mod_mul_left]
  have hc : c % 2 ^ (64 - 7 * k) + 1 ≤ 2 ^ (64 - 7 * k) := Nat.mod_lt _ (Nat.two_pow_pos _)
  have h3 : 2 ^ (7 * k) * (c % 2 ^ (64 - 7 * k) + 1) ≤ 18446744073709551616 := by
    rw [h64]; exact Nat.mul_le_mul_left _ hc
  rw [Nat.mul_add, Nat.mul_one] at h3
  have e2 : U ||| 2 ^ (7 * k) * (c % 2 ^ (64 - 7 * k)) = 2 ^ (7 * k) * (c % 2 ^ (64 - 7 * k)) + U := by
    rw [Nat.or_comm]; exact (Nat.two_pow_add_eq_or_of_lt hU _).symm
  rw [e1, e2]
  generalize 2 ^ (7 * k) * (c % 2 ^ (64 - 7 * k)) = X at *
  generalize 2 ^ (7 * k) * c = Y at *
  generalize 2 ^ (7 * k) = Q at *
  omega
theorem xor_i64_zero (x : Int) (h0 : 0 ≤ x) (h1 : x < 9223372036854775808) : Go.bits .xor .i64 x 0 = x := by
  obtain ⟨n, rfl⟩ := Int.eq_ofNat_of_zero_le h0
  show IntKind.i64.wrap (((BitVec.ofInt 64 ((n : Nat) : Int)) ^^^ (BitVec.ofInt 64 0)).toNat : Int) = n
  have e : (BitVec.ofInt 64 0) = 0#64 := by decide
  rw [e, BitVec.xor_zero, BitVec.ofInt_natCast, BitVec.toNat_ofNat, IntKind.wrap_i64]
  omega
theorem xor_i64_ones (x : Int) (h0 : 0 ≤ x) (h1 : x < 9223372036854775808) : Go.bits .xor .i64 x (-1) = -1 - x := by
  obtain ⟨n, rfl⟩ := Int.eq_ofNat_of_zero_le h0
  show IntKind.i64.wrap (((BitVec.ofInt 64 ((n : Nat) : Int)) ^^^ (BitVec.ofInt 64 (-1))).toNat : Int) = -1 - n
  have e : (BitVec.ofInt 64 (-1)) = BitVec.allOnes 64 := by decide
  rw [e, BitVec.xor_allOnes, BitVec.toNat_not, BitVec.ofInt_natCast, BitVec.toNat_ofNat, IntKind.wrap_i64]
  omega
/-- A number from what has no sign. -/
def unzig (v : Nat) : Int := if v % 2 = 1 then -1 - ((v / 2 : Nat) : Int) else ((v / 2 : Nat) : Int)
theorem unzig_zig (v : Nat) : zig (unzig v) = v := by
  unfold unzig
  split
  · unfold zig; rw [if_pos (by omega)]; omega
  · unfold zig; rw [if_neg (by omega)]; omega
theorem unzig_le (v : Nat) (h : v < 18446744073709551616) : -9223372036854775808 ≤ unzig v ∧ unzig v < 9223372036854775808 := by
  unfold unzig; split <;> omega
theorem take_next (xs : List Int) (p k : Nat) (h : p + k < xs.length) : (xs.drop p).take (k + 1) = (xs.drop p).take k ++ [nthI xs ((p + k : Nat) : Int) 0] := by
  rw [List.take_add_one, List.getElem?_drop, List.getElem?_eq_getElem h, nthI_nat, List.getD_eq_getElem?_getD, List.getElem?_eq_getElem h]
  rfl
/-- What reading stops with. -/
def stops (p k b U : Nat) : Int × Int × Bool :=
  if (venc 10 ((U + 128 ^ k * b) % 18446744073709551616)).length = k + 1 ∧ (U + 128 ^ k * b) % 18446744073709551616 = U + 128 ^ k * b then (unzig ((U + 128 ^ k * b) % 18446744073709551616), ((p + k + 1 : Nat) : Int), true) else (0, 0, false)
section
variable (xs : List Int) (hx : ∀ x ∈ xs, 0 ≤ x ∧ x < 256) (hn : xs.length ≤ 1000000000) (p k U b : Nat) (hk : k ≤ 9) (hp : p + k < xs.length) (hU : U < 128 ^ k) (hc : (xs.drop p).take k = cont k U) (hb : nthI xs ((p + k : Nat) : Int) 0 = (b : Int)) (hb2 : b < 128)
include hx hn hk hp hU hc hb hb2
theorem sStops (m : Nat) : S.NumRead_l0 (m + 1) (fun a b c => some (a, b, c)) (some (0, 0, false)) (p : Int) ((U % 18446744073709551616 : Nat) : Int) ((128 ^ k % 18446744073709551616 : Nat) : Int) ((p + k : Nat) : Int) xs = some (stops p k b U) := by
  have hq := pow_le k hk
  have hV : (U + 128 ^ k * b) % 18446744073709551616 < 18446744073709551616 := Nat.mod_lt _ (by decide)
  have e18 : IntKind.u64.wrap (((U % 18446744073709551616 : Nat) : Int) + IntKind.u64.wrap (((128 ^ k % 18446744073709551616 : Nat) : Int) * IntKind.u64.wrap ((b : Int).tmod 128))) = (((U + 128 ^ k * b) % 18446744073709551616 : Nat) : Int) := by
    rw [tmod_nat _ _ (by omega), show IntKind.u64.wrap ((b : Int) % 128) = (b : Int) from by rw [u64_mod]; omega, ← Int.natCast_mul, Nat.mod_eq_of_lt (show 128 ^ k < 18446744073709551616 from by omega), u64_mod, u64_mod]
    generalize 128 ^ k * b = Y
    omega
  have hs : (xs.take (p + k + 1)).drop p = pad k (U + 128 ^ k * b) := by
    rw [List.drop_take, show p + k + 1 - p = k + 1 from by omega, take_next xs p k hp, hc, hb, cont_last k U b hU]
  have hsb : ∀ x ∈ pad k (U + 128 ^ k * b), 0 ≤ x ∧ x < 256 := by
    rw [← hs]
    exact fun x h => hx x (List.mem_of_mem_take (List.mem_of_mem_drop h))
  unfold stops
  rw [S.NumRead_l0, cdp (by omega), w64 (by omega) (by omega), cdp (by omega), cdp (by omega), cdn (by omega), hb]
  simp only [e18, same_self, dup_eq]
  generalize hVV : (U + 128 ^ k * b) % 18446744073709551616 = V at *
  have hu := unzig_zig V
  have hl := unzig_le V hV
  have e22 : IntKind.i64.wrap (IntKind.u64.wrap ((V : Int).tdiv 2)) = ((V / 2 : Nat) : Int) := by
    rw [tdiv_nat _ _ (by omega), u64w (by omega) (by omega), w64 (by omega) (by omega)]; omega
  have em : ((V : Int).tmod 2) = ((V % 2 : Nat) : Int) := by rw [tmod_nat _ _ (by omega)]; omega
  have ev25 : IntKind.i64.wrap (((p + k : Nat) : Int) + 1) = ((p + k + 1 : Nat) : Int) := by rw [w64 (by omega) (by omega)]; omega
  have key : ∀ n : Int, n = unzig V → (Option.bind (S.NumBytes n) fun r26 => (bif (!((strOfNums r26).toList == (strOfNums ((xs.take (p + k + 1)).drop p)).toList)) then (some (0, 0, false)) else (some (n, ((p + k + 1 : Nat) : Int), true)))) = some (if (venc 10 V).length = k + 1 ∧ V = U + 128 ^ k * b then (unzig V, ((p + k + 1 : Nat) : Int), true) else (0, 0, false)) := by
    rintro n rfl
    rw [sNumBytes_eq _ hl.1 hl.2, hu, Option.bind_some, hs, strOf_eq _ _ (venc_bytes 10 V) hsb]
    by_cases hh : venc 10 V = pad k (U + 128 ^ k * b)
    · rw [if_pos ((venc_is_pad k V _ hV).1 hh)]; simp [hh]
    · rw [if_neg (fun h => hh ((venc_is_pad k V _ hV).2 h))]; simp [hh]
  rw [cdp (by omega), cdp (by omega), cdn (by omega), cdn (by omega), e22, em, ev25, Int.toNat_natCast, Int.toNat_natCast]
  by_cases ho : V % 2 = 1
  · rw [cep (by omega), cdp (by omega), w64 (by omega) (by omega)]
    exact key _ (by unfold unzig; rw [if_pos ho])
  · rw [cen (by omega), cdp (by omega)]
    exact key _ (by unfold unzig; rw [if_neg ho])
omit hx in
theorem iStops (m hi : Nat) (hhi : p + k < hi) (hhi2 : hi ≤ xs.length) : I.NumRead_l0 (m + 1) (fun a b c => some (a, b, c)) (some (0, 0, false)) (p : Int) ((U % 18446744073709551616 : Nat) : Int) (p : Int) (hi : Int) ((hi : Int) - (p : Int)) (k : Int) xs = some (stops p k b U) := by
  have hq := pow_le k hk
  have hV : (U + 128 ^ k * b) % 18446744073709551616 < 18446744073709551616 := Nat.mod_lt _ (by decide)
  have e21 : IntKind.u64.wrap (IntKind.u64.wrap (Go.bits .and .u8 (b : Int) 127) * (2 : Int) ^ (min (Int.toNat (IntKind.i64.wrap (7 * (k : Int)))) (IntKind.bits .u64))) = ((128 ^ k * b % 18446744073709551616 : Nat) : Int) := by
    rw [shl7 k hk, and127 _ (by omega) (by omega), show IntKind.u64.wrap ((b : Int) % 128) = (b : Int) from by rw [u64_mod]; omega, ← Int.natCast_mul, Nat.mul_comm, u64_mod]
    omega
  have e22 : Go.bits .or .u64 ((U % 18446744073709551616 : Nat) : Int) ((128 ^ k * b % 18446744073709551616 : Nat) : Int) = (((U + 128 ^ k * b) % 18446744073709551616 : Nat) : Int) := by
    rw [bits_or_u64_nat _ _ (Nat.mod_lt _ (by decide)) (Nat.mod_lt _ (by decide)), Nat.mod_eq_of_lt (show U < 18446744073709551616 from by omega), or_lem k U b hk hU]
  have hW : (U + 128 ^ k * b) % 18446744073709551616 = U + 128 ^ k * b ↔ (k = 9 → b ≤ 1) := by
    rw [show ((U + 128 ^ k * b) % 18446744073709551616 = U + 128 ^ k * b) ↔ (U + 128 ^ k * b < 18446744073709551616) from by omega]
    by_cases h9 : k = 9
    · subst h9
      have : (128 : Nat) ^ 9 = 9223372036854775808 := by decide
      rw [this] at hU ⊢
      omega
    · have h8 : 128 ^ k ≤ 72057594037927936 := by
        have key : ∀ m : Fin 9, 128 ^ m.val ≤ 72057594037927936 := by decide +kernel
        exact key ⟨k, by omega⟩
      have : 128 ^ k * b ≤ 72057594037927936 * 127 := Nat.mul_le_mul h8 (by omega)
      constructor
      · intro _ h; exact absurd h h9
      · intro _; omega
  unfold stops
  rw [I.NumRead_l0, cdp (by omega), cdp (by omega), show (p : Int) + (k : Int) = ((p + k : Nat) : Int) from by omega, hb]
  simp only [e21, e22]
  generalize hVV : (U + 128 ^ k * b) % 18446744073709551616 = V at *
  have hu := unzig_zig V
  have hl := unzig_le V hV
  have e30 : Go.bits .xor .i64 (IntKind.i64.wrap (Int.fdiv (V : Int) (2 ^ min (Int.toNat 1) (IntKind.bits .u64)))) (IntKind.i64.wrap (0 - (IntKind.i64.wrap (Go.bits .and .u64 (V : Int) 1)))) = unzig V := by
    rw [and_one V hV, show (2 : Int) ^ min (Int.toNat 1) (IntKind.bits .u64) = 2 from by decide, Int.fdiv_eq_ediv_of_nonneg _ (by omega), w64 (by omega) (by omega), w64 (n := ((V % 2 : Nat) : Int)) (by omega) (by omega), w64 (by omega) (by omega)]
    unfold unzig
    by_cases ho : V % 2 = 1
    · rw [ho, if_pos rfl, show (0 : Int) - ((1 : Nat) : Int) = -1 from by decide, xor_i64_ones _ (by omega) (by omega)]; omega
    · rw [show V % 2 = 0 from by omega, if_neg (by omega), show (0 : Int) - ((0 : Nat) : Int) = 0 from by decide, xor_i64_zero _ (by omega) (by omega)]; omega
  rw [e30, iNumBytes_eq _ hl.1 hl.2, hu, Option.bind_some, cdp (by rw [w64 (by omega) (by omega)]; omega), cdn (by omega), cdp (by omega), w64 (n := (k : Int) + 1) (by omega) (by omega), w64 (n := ((p + k : Nat) : Int)) (by omega) (by omega), w64 (by omega) (by omega), show ((p + k : Nat) : Int) + 1 = ((p + k + 1 : Nat) : Int) from by omega]
  by_cases hlen : (venc 10 V).length = k + 1
  · rw [cnn (by omega)]
    by_cases h9 : k = 9
    · rw [cep (by omega)]
      by_cases hb1 : b ≤ 1
      · rw [cdn (by omega), if_pos ⟨hlen, hW.2 fun _ => hb1⟩]
      · rw [cdp (by omega), if_neg (fun h => hb1 (hW.1 h.2 h9))]
    · rw [cen (by omega), if_pos ⟨hlen, hW.2 fun h => absurd h h9⟩]
  · rw [cnp (by omega), if_neg (fun h => hlen h.1)]
end
/-- A number was read: its encoding stands there. -/
def rdOk (xs : List Int) (p : Nat) (r : Int × Int × Bool) : Prop :=
  r = (0, 0, false) ∨ ∃ (q : Nat) (n : Int), r = (n, (q : Int), true) ∧ p < q ∧ q ≤ xs.length ∧ -9223372036854775808 ≤ n ∧ n < 9223372036854775808 ∧ (xs.drop p).take (q - p) = venc 10 (zig n)
theorem stops_ok (xs : List Int) (p k b U : Nat) (hk : k ≤ 9) (hp : p + k < xs.length) (hU : U < 128 ^ k) (hc : (xs.drop p).take k = cont k U) (hb : nthI xs ((p + k : Nat) : Int) 0 = (b : Int)) : rdOk xs p (stops p k b U) := by
  unfold stops
  split
  · rename_i h
    have hV : (U + 128 ^ k * b) % 18446744073709551616 < 18446744073709551616 := Nat.mod_lt _ (by decide)
    refine .inr ⟨p + k + 1, unzig ((U + 128 ^ k * b) % 18446744073709551616), rfl, by omega, by omega, (unzig_le _ hV).1, (unzig_le _ hV).2, ?_⟩
    rw [unzig_zig, show p + k + 1 - p = k + 1 from by omega, take_next xs p k hp, hc, hb, cont_last k U b hU]
    exact ((venc_is_pad k _ _ hV).2 ⟨h.1, h.2⟩).symm
  · exact .inl rfl
theorem read_l (xs : List Int) (hx : ∀ x ∈ xs, 0 ≤ x ∧ x < 256) (hn : xs.length ≤ 1000000000) (p hi : Nat) (hhi : hi = min (p + 10) xs.length) (m m' d : Nat) : ∀ k U : Nat, hi - (p + k) = d → p + k ≤ hi → U < 128 ^ k → (xs.drop p).take k = cont k U →
    ∃ r, S.NumRead_l0 (d + 1 + m) (fun a b c => some (a, b, c)) (some (0, 0, false)) (p : Int) ((U % 18446744073709551616 : Nat) : Int) ((128 ^ k % 18446744073709551616 : Nat) : Int) ((p + k : Nat) : Int) xs = some r ∧
      I.NumRead_l0 (d + 1 + m') (fun a b c => some (a, b, c)) (some (0, 0, false)) (p : Int) ((U % 18446744073709551616 : Nat) : Int) (p : Int) (hi : Int) ((hi : Int) - (p : Int)) (k : Int) xs = some r ∧ rdOk xs p r := by
  induction d with
  | zero =>
    intro k U hd hk hU hc
    refine ⟨(0, 0, false), ?_, ?_, .inl rfl⟩
    · rw [show 0 + 1 + m = m + 1 from by omega, S.NumRead_l0]
      by_cases h : p + k < xs.length
      · rw [cdp (by omega), w64 (by omega) (by omega), cdn (by omega)]
      · rw [cdn (by omega)]
    · rw [show 0 + 1 + m' = m' + 1 from by omega, I.NumRead_l0, cdn (by omega)]
  | succ d ih =>
    intro k U hd hk hU hc
    have hp : p + k < xs.length := by omega
    have hk9 : k ≤ 9 := by omega
    have hm : nthI xs ((p + k : Nat) : Int) 0 ∈ xs := by
      rw [nthI_nat, List.getD_eq_getElem?_getD, List.getElem?_eq_getElem hp]; simp
    obtain ⟨b, hb⟩ := Int.eq_ofNat_of_zero_le (hx _ hm).1
    have hb256 : b < 256 := by have := (hx _ hm).2; omega
    rw [show d + 1 + 1 + m = (d + 1 + m) + 1 from by omega, show d + 1 + 1 + m' = (d + 1 + m') + 1 from by omega]
    by_cases hb2 : b < 128
    · exact ⟨_, sStops xs hx hn p k U b hk9 hp hU hc hb hb2 _, iStops xs hn p k U b hk9 hp hU hc hb hb2 _ hi (by omega) (by omega), stops_ok xs p k b U hk9 hp hU hc hb⟩
    · have hq := pow_le k hk9
      obtain ⟨c, rfl⟩ : ∃ c, b = 128 + c := ⟨b - 128, by omega⟩
      have hc2 : c < 128 := by omega
      have hle : 128 ^ k * c ≤ 128 ^ k * 127 := Nat.mul_le_mul_left _ (by omega)
      obtain ⟨r, h1, h2, h3⟩ := ih (k + 1) (U + 128 ^ k * c) (by omega) (by omega) (by rw [Nat.pow_succ]; omega) (by rw [take_next xs p k hp, hc, hb, cont_next k U c hU hc2])
      refine ⟨r, ?_, ?_, h3⟩
      · rw [S.NumRead_l0, cdp (by omega), w64 (n := (p : Int) + 10) (by omega) (by omega), cdp (by omega), cdp (by omega), cdn (by omega), hb]
        have e18 : IntKind.u64.wrap (((U % 18446744073709551616 : Nat) : Int) + IntKind.u64.wrap (((128 ^ k % 18446744073709551616 : Nat) : Int) * IntKind.u64.wrap (((128 + c : Nat) : Int).tmod 128))) = (((U + 128 ^ k * c) % 18446744073709551616 : Nat) : Int) := by
          rw [tmod_nat _ _ (by omega), show IntKind.u64.wrap (((128 + c : Nat) : Int) % 128) = (c : Int) from by rw [u64_mod]; omega, ← Int.natCast_mul, Nat.mod_eq_of_lt (show 128 ^ k < 18446744073709551616 from by omega), u64_mod, u64_mod]
          generalize 128 ^ k * c = Y
          omega
        have e128 : IntKind.u64.wrap (((128 ^ k % 18446744073709551616 : Nat) : Int) * 128) = ((128 ^ (k + 1) % 18446744073709551616 : Nat) : Int) := by
          rw [u64_mod, Nat.pow_succ]
          generalize 128 ^ k = Y
          omega
        simp only [e18, e128]
        rw [cdp (by omega), cdn (by omega), w64 (by omega) (by omega), show (((p + k : Nat) : Int) + 1) = ((p + (k + 1) : Nat) : Int) from by omega]
        exact h1
      · have e21 : IntKind.u64.wrap (IntKind.u64.wrap (Go.bits .and .u8 ((128 + c : Nat) : Int) 127) * (2 : Int) ^ (min (Int.toNat (IntKind.i64.wrap (7 * (k : Int)))) (IntKind.bits .u64))) = ((128 ^ k * c % 18446744073709551616 : Nat) : Int) := by
          rw [shl7 k hk9, and127 _ (by omega) (by omega), show IntKind.u64.wrap (((128 + c : Nat) : Int) % 128) = (c : Int) from by rw [u64_mod]; omega, ← Int.natCast_mul, Nat.mul_comm, u64_mod]
          omega
        have e22 : Go.bits .or .u64 ((U % 18446744073709551616 : Nat) : Int) ((128 ^ k * c % 18446744073709551616 : Nat) : Int) = (((U + 128 ^ k * c) % 18446744073709551616 : Nat) : Int) := by
          rw [bits_or_u64_nat _ _ (Nat.mod_lt _ (by decide)) (Nat.mod_lt _ (by decide)), Nat.mod_eq_of_lt (show U < 18446744073709551616 from by omega), or_lem k U c hk9 hU]
        rw [I.NumRead_l0, cdp (by omega), cdp (by omega), show (p : Int) + (k : Int) = ((p + k : Nat) : Int) from by omega, hb]
        simp only [e21, e22]
        rw [cdp (by rw [w64 (by omega) (by omega)]; omega), cdp (by omega), w64 (by omega) (by omega), show (k : Int) + 1 = ((k + 1 : Nat) : Int) from by omega]
        exact h2
/-- Both read the same. -/
theorem NumRead_eq (xs : List Int) (hx : ∀ x ∈ xs, 0 ≤ x ∧ x < 256) (hn : xs.length ≤ 1000000000) (a : Int) (h0 : -9223372036854775808 ≤ a) (h1 : a < 9223372036854775808) : ∃ r, S.NumRead a xs = some r ∧ I.NumRead a xs = some r ∧ (r = (0, 0, false) ∨ 0 ≤ a ∧ rdOk xs a.toNat r) := by
  unfold S.NumRead I.NumRead
  rw [in_eq, w64 (n := (xs.length : Int) - 1) (by omega) (by omega), Option.bind_some]
  by_cases ha : a < 0
  · refine ⟨(0, 0, false), by rw [cdp ha], ?_, .inl rfl⟩
    rw [decide_eq_false (by omega)]; rfl
  · rw [cdn ha]
    by_cases hb : (xs.length : Int) ≤ a
    · refine ⟨(0, 0, false), by rw [cdp hb], ?_, .inl rfl⟩
      rw [decide_eq_false (by omega)]; rfl
    · obtain ⟨p, rfl⟩ := Int.eq_ofNat_of_zero_le (show 0 ≤ a from by omega)
      obtain ⟨m, hm⟩ := fu_ge (min (p + 10) xs.length - (p + 0)) (by omega)
      rw [cdn hb, decide_eq_true (by omega)]
      simp only [Bool.not_true, cond_false]
      rw [w64 (by omega) (by omega), show (if (p : Int) + 10 < (xs.length : Int) then (p : Int) + 10 else (xs.length : Int)) = ((min (p + 10) xs.length : Nat) : Int) from by split <;> omega, cdp (by omega), hm]
      obtain ⟨r, q1, q2, q3⟩ := read_l xs hx hn p _ rfl m m _ 0 0 rfl (by omega) (by simp) (by simp [cont])
      exact ⟨r, q1, q2, .inr ⟨by omega, by simpa using q3⟩⟩
/-! OpRead -/
noncomputable def numF (xs : List Int) (a : Int) : Int × Int × Bool := (S.NumRead a xs).getD (0, 0, false)
theorem numF_eq (xs : List Int) (hx : ∀ x ∈ xs, 0 ≤ x ∧ x < 256) (hn : xs.length ≤ 1000000000) (a : Int) (h0 : -9223372036854775808 ≤ a) (h1 : a < 9223372036854775808) : S.NumRead a xs = some (numF xs a) ∧ I.NumRead a xs = some (numF xs a) ∧ ((numF xs a) = (0, 0, false) ∨ 0 ≤ a ∧ rdOk xs a.toNat (numF xs a)) := by
  obtain ⟨r, h2, h3, h4⟩ := NumRead_eq xs hx hn a h0 h1
  have e : numF xs a = r := by unfold numF; rw [h2]; rfl
  rw [e]; exact ⟨h2, h3, h4⟩
noncomputable def readGo (xs : List Int) : Nat → Int → List Int → Option (Int × List Int)
  | 0, a, acc => some (a, acc)
  | n + 1, a, acc => if (numF xs a).2.2 = true then readGo xs n (numF xs a).2.1 (acc ++ [(numF xs a).1]) else none
theorem numF_next {xs : List Int} {a : Nat} (h : (numF xs (a : Int)) = (0, 0, false) ∨ 0 ≤ (a : Int) ∧ rdOk xs (a : Int).toNat (numF xs (a : Int))) (ht : (numF xs (a : Int)).2.2 = true) :
    ∃ (q : Nat) (n : Int), numF xs (a : Int) = (n, (q : Int), true) ∧ a < q ∧ q ≤ xs.length ∧ -9223372036854775808 ≤ n ∧ n < 9223372036854775808 ∧ (xs.drop a).take (q - a) = venc 10 (zig n) := by
  rcases h with h | ⟨_, h⟩
  · rw [h] at ht; cases ht
  · rcases h with h | h
    · rw [h] at ht; cases ht
    · exact h
section
variable (xs : List Int) (hx : ∀ x ∈ xs, 0 ≤ x ∧ x < 256) (hn : xs.length ≤ 1000000000)
include hx hn
theorem readGo_ok : ∀ (d : Nat) (a : Nat) (acc : List Int) (r : Int × List Int), a ≤ xs.length → readGo xs d (a : Int) acc = some r →
    ∃ (q : Nat) (ns : List Int), r = ((q : Int), acc ++ ns) ∧ ns.length = d ∧ a ≤ q ∧ q ≤ xs.length ∧ (∀ n ∈ ns, -9223372036854775808 ≤ n ∧ n < 9223372036854775808) ∧ (xs.drop a).take (q - a) = nums ns := by
  intro d
  induction d with
  | zero =>
    intro a acc r ha h
    simp only [readGo, Option.some.injEq] at h
    subst h
    exact ⟨a, [], by simp, rfl, Nat.le_refl _, ha, by simp, by simp [nums]⟩
  | succ d ih =>
    intro a acc r ha h
    simp only [readGo] at h
    split at h
    · rename_i ht
      obtain ⟨q, n, h1, h2, h3, h4, h5, h6⟩ := numF_next (numF_eq xs hx hn (a : Int) (by omega) (by omega)).2.2 ht
      rw [h1] at h
      obtain ⟨q2, ns, e1, e2, e3, e4, e5, e6⟩ := ih q _ r h3 h
      refine ⟨q2, n :: ns, by rw [e1]; simp, by simp [e2], by omega, e4, ?_, ?_⟩
      · intro y hy
        rcases List.mem_cons.1 hy with rfl | hy
        · exact ⟨h4, h5⟩
        · exact e5 y hy
      · rw [nums, List.flatMap_cons, ← h6, show q2 - a = (q - a) + (q2 - q) from by omega, List.take_add, List.drop_drop, show a + (q - a) = q from by omega, e6]; rfl
    · cases h
theorem sOpRead_l (e0 : Bool → Int → Int → Int → Int → Int → Int → Int → Int → Int → Int → Int → Int → List Int → List Int → Option (Int × Int × Int × Int × Int × Int × Int × Int × Int × Int × Int × Bool)) (e1 : Int → Int → Int → Int → Int → Int → Int → Int → Int → Int → Int → Int → List Int → List Int → Option (Int × Int × Int × Int × Int × Int × Int × Int × Int × Int × Int × Bool)) (m : Nat) :
    ∀ (d : Nat) (a : Nat) (acc : List Int), acc.length + d = 11 → a ≤ xs.length → (∀ a acc, e0 false a 0 0 0 0 0 0 0 0 0 0 0 xs acc = some (0, 0, 0, 0, 0, 0, 0, 0, 0, 0, 0, false)) →
      S.OpRead_l0 (d + 1 + m) e0 e1 (a : Int) 0 0 0 0 0 0 0 0 0 0 0 xs acc = match readGo xs d (a : Int) acc with | some r => e1 r.1 0 0 0 0 0 0 0 0 0 0 0 xs r.2 | none => some (0, 0, 0, 0, 0, 0, 0, 0, 0, 0, 0, false) := by
  intro d
  induction d with
  | zero =>
    intro a acc h ha he
    rw [show 0 + 1 + m = m + 1 from by omega, S.OpRead_l0, cdn (by omega)]; rfl
  | succ d ih =>
    intro a acc h ha he
    obtain ⟨h1, _, h3⟩ := numF_eq xs hx hn (a : Int) (by omega) (by omega)
    rw [show d + 1 + 1 + m = (d + 1 + m) + 1 from by omega, S.OpRead_l0, cdp (by omega), h1, Option.bind_some, readGo]
    by_cases ht : (numF xs (a : Int)).2.2 = true
    · obtain ⟨q, n, e1, e2, e3, _⟩ := numF_next h3 ht
      rw [if_pos ht, ht, Bool.not_true, cond_false, cdp (by simp; omega), e1]
      exact ih q _ (by simp; omega) e3 he
    · rw [if_neg ht, Bool.eq_false_iff.2 ht, Bool.not_false, cond_true, he]
theorem iOpRead_l (e0 : Bool → Int → Int → Int → Int → Int → Int → Int → Int → Int → Int → Int → Int → List Int → List Int → Option (Int × Int × Int × Int × Int × Int × Int × Int × Int × Int × Int × Bool)) (e1 : Int → Int → Int → Int → Int → Int → Int → Int → Int → Int → Int → Int → List Int → List Int → Option (Int × Int × Int × Int × Int × Int × Int × Int × Int × Int × Int × Bool)) (m : Nat) :
    ∀ (d : Nat) (i : Nat) (a : Nat) (acc : List Int), i + d = 11 → acc.length = i → a ≤ xs.length → (∀ a acc, e0 false a 0 0 0 0 0 0 0 0 0 0 0 xs acc = some (0, 0, 0, 0, 0, 0, 0, 0, 0, 0, 0, false)) →
      I.opRead_l0 (d + 1 + m) e0 e1 (a : Int) (i : Int) 0 0 0 0 0 0 0 0 0 0 0 xs acc = match readGo xs d (a : Int) acc with | some r => e1 r.1 0 0 0 0 0 0 0 0 0 0 0 xs r.2 | none => some (0, 0, 0, 0, 0, 0, 0, 0, 0, 0, 0, false) := by
  intro d
  induction d with
  | zero =>
    intro i a acc h hi ha he
    rw [show 0 + 1 + m = m + 1 from by omega, I.opRead_l0, cdn (by omega)]; rfl
  | succ d ih =>
    intro i a acc h hi ha he
    obtain ⟨_, h1, h3⟩ := numF_eq xs hx hn (a : Int) (by omega) (by omega)
    rw [show d + 1 + 1 + m = (d + 1 + m) + 1 from by omega, I.opRead_l0, cdp (by omega), h1, Option.bind_some, readGo]
    by_cases ht : (numF xs (a : Int)).2.2 = true
    · obtain ⟨q, n, e1, e2, e3, _⟩ := numF_next h3 ht
      rw [if_pos ht, ht, Bool.not_true, cond_false, cdp (by simp; omega), e1, w64 (by omega) (by omega)]
      exact ih (i + 1) q _ (by omega) (by simp; omega) e3 he
    · rw [if_neg ht, Bool.eq_false_iff.2 ht, Bool.not_false, cond_true, he]
end
abbrev Op12 : Type := Int × Int × Int × Int × Int × Int × Int × Int × Int × Int × Int × Bool
/-- The operation that a list of bytes is. -/
noncomputable def opRd (xs : List Int) : Op12 :=
  match readGo xs 11 0 [] with
  | some (q, [a, b, c, d, e, f, g, h, i, j, k]) => if q = (xs.length : Int) ∧ opOk a b c d e f g h i j k = true then (a, b, c, d, e, f, g, h, i, j, k, true) else (0, 0, 0, 0, 0, 0, 0, 0, 0, 0, 0, false)
  | _ => (0, 0, 0, 0, 0, 0, 0, 0, 0, 0, 0, false)
theorem elevens {ns : List Int} (h : ns.length = 11) : ∃ a b c d e f g h i j k, ns = [a, b, c, d, e, f, g, h, i, j, k] := by
  match ns, h with
  | [a, b, c, d, e, f, g, h, i, j, k], _ => exact ⟨a, b, c, d, e, f, g, h, i, j, k, rfl⟩
section
variable (xs : List Int) (hx : ∀ x ∈ xs, 0 ≤ x ∧ x < 256) (hn : xs.length ≤ 1000000000)
include hx hn
theorem sOpRead_eq : S.OpRead xs = some (opRd xs) := by
  unfold S.OpRead opRd
  obtain ⟨m, hm⟩ := fu_ge 11 (by omega)
  rw [hm]
  refine (sOpRead_l xs hx hn _ _ m 11 0 [] (by simp) (by omega) (fun _ _ => rfl)).trans ?_
  rw [show ((0 : Nat) : Int) = 0 from rfl]
  cases hr : readGo xs 11 0 [] with
  | none => rfl
  | some r =>
    obtain ⟨q, ns, e1, e2, e3, e4, e5, e6⟩ := readGo_ok xs hx hn 11 0 [] r (by omega) hr
    obtain ⟨a, b, c, d, e, f, g, h, i, j, k, rfl⟩ := elevens e2
    subst e1
    simp only [List.nil_append]
    rw [cdp (by simp), cdp (by simp), cdp (by simp), cdp (by simp), cdp (by simp), cdp (by simp), cdp (by simp), cdp (by simp), cdp (by simp), cdp (by simp), cdp (by simp)]
    by_cases hq : (q : Int) = (xs.length : Int)
    · rw [cnn hq, specOpOk_eq, Option.bind_some]
      by_cases ho : opOk a b c d e f g h i j k = true
      · rw [if_pos ⟨hq, ho⟩]
        rw [show opOk (nthI [a, b, c, d, e, f, g, h, i, j, k] 0 0) (nthI [a, b, c, d, e, f, g, h, i, j, k] 1 0) (nthI [a, b, c, d, e, f, g, h, i, j, k] 2 0) (nthI [a, b, c, d, e, f, g, h, i, j, k] 3 0) (nthI [a, b, c, d, e, f, g, h, i, j, k] 4 0) (nthI [a, b, c, d, e, f, g, h, i, j, k] 5 0) (nthI [a, b, c, d, e, f, g, h, i, j, k] 6 0) (nthI [a, b, c, d, e, f, g, h, i, j, k] 7 0) (nthI [a, b, c, d, e, f, g, h, i, j, k] 8 0) (nthI [a, b, c, d, e, f, g, h, i, j, k] 9 0) (nthI [a, b, c, d, e, f, g, h, i, j, k] 10 0) = true from ho]
        rfl
      · rw [if_neg (fun h => ho h.2)]
        rw [show opOk (nthI [a, b, c, d, e, f, g, h, i, j, k] 0 0) (nthI [a, b, c, d, e, f, g, h, i, j, k] 1 0) (nthI [a, b, c, d, e, f, g, h, i, j, k] 2 0) (nthI [a, b, c, d, e, f, g, h, i, j, k] 3 0) (nthI [a, b, c, d, e, f, g, h, i, j, k] 4 0) (nthI [a, b, c, d, e, f, g, h, i, j, k] 5 0) (nthI [a, b, c, d, e, f, g, h, i, j, k] 6 0) (nthI [a, b, c, d, e, f, g, h, i, j, k] 7 0) (nthI [a, b, c, d, e, f, g, h, i, j, k] 8 0) (nthI [a, b, c, d, e, f, g, h, i, j, k] 9 0) (nthI [a, b, c, d, e, f, g, h, i, j, k] 10 0) = false from Bool.eq_false_iff.2 ho]
        rfl
    · rw [cnp hq, if_neg (fun h => hq h.1)]
theorem iOpRead_eq : I.opRead xs = some (opRd xs) := by
  unfold I.opRead opRd
  obtain ⟨m, hm⟩ := fu_ge 11 (by omega)
  rw [hm]
  refine (iOpRead_l xs hx hn _ _ m 11 0 0 [] (by omega) rfl (by omega) (fun _ _ => rfl)).trans ?_
  rw [show ((0 : Nat) : Int) = 0 from rfl]
  cases hr : readGo xs 11 0 [] with
  | none => rfl
  | some r =>
    obtain ⟨q, ns, e1, e2, e3, e4, e5, e6⟩ := readGo_ok xs hx hn 11 0 [] r (by omega) hr
    obtain ⟨a, b, c, d, e, f, g, h, i, j, k, rfl⟩ := elevens e2
    subst e1
    simp only [List.nil_append]
    have hof : I.opOf [a, b, c, d, e, f, g, h, i, j, k] = some (a, b, c, d, e, f, g, h, i, j, k) := by
      unfold I.opOf
      rw [cdp (by simp), cdp (by simp), cdp (by simp), cdp (by simp), cdp (by simp), cdp (by simp), cdp (by simp), cdp (by simp), cdp (by simp), cdp (by simp), cdp (by simp)]
      rfl
    rw [hof, Option.bind_some]
    by_cases hq : (q : Int) = (xs.length : Int)
    · rw [cnn hq, isOp_eq, Option.bind_some]
      by_cases ho : opOk a b c d e f g h i j k = true
      · rw [if_pos ⟨hq, ho⟩, ho]; rfl
      · rw [if_neg (fun h => ho h.2), Bool.eq_false_iff.2 ho]; rfl
    · rw [cnp hq, if_neg (fun h => hq h.1)]
/-- What is read is what the bytes are the encoding of. -/
theorem opRd_ok (h : (opRd xs).2.2.2.2.2.2.2.2.2.2.2 = true) : ∃ a b c d e f g h i j k, opRd xs = (a, b, c, d, e, f, g, h, i, j, k, true) ∧ opOk a b c d e f g h i j k = true ∧ (∀ n ∈ [a, b, c, d, e, f, g, h, i, j, k], -9223372036854775808 ≤ n ∧ n < 9223372036854775808) ∧ xs = nums [a, b, c, d, e, f, g, h, i, j, k] := by
  unfold opRd at h ⊢
  cases hr : readGo xs 11 0 [] with
  | none => rw [hr] at h; cases h
  | some r =>
    rw [hr] at h
    obtain ⟨q, ns, e1, e2, e3, e4, e5, e6⟩ := readGo_ok xs hx hn 11 0 [] r (by omega) hr
    obtain ⟨a, b, c, d, e, f, g, h', i, j, k, rfl⟩ := elevens e2
    subst e1
    simp only [List.nil_append] at h ⊢
    split at h
    · rename_i hq
      refine ⟨a, b, c, d, e, f, g, h', i, j, k, by rw [if_pos hq], hq.2, e5, ?_⟩
      rw [List.drop_zero, List.take_of_length_le (by omega)] at e6
      exact e6
    · cases h
end
/-! RecordOf -/
def bsum (l : List Int) : Int := l.foldl (· + ·) 0
theorem bsum_take (l : List Int) (i : Nat) (h : i < l.length) : bsum (l.take (i + 1)) = bsum (l.take i) + nthI l (i : Int) 0 := by
  unfold bsum
  rw [nthI_nat, List.getD_eq_getElem?_getD, List.getElem?_eq_getElem h, List.take_succ_eq_append_getElem h, List.foldl_append]
  rfl
theorem bsum_bd (l : List Int) (hb : ∀ x ∈ l, 0 ≤ x ∧ x < 256) (i : Nat) (h : i ≤ l.length) : 0 ≤ bsum (l.take i) ∧ bsum (l.take i) ≤ 255 * i := by
  induction i with
  | zero => simp [bsum]
  | succ i ih =>
    have := ih (by omega)
    have := hb _ (nthI_mem l i 0 (by omega))
    rw [bsum_take l i (by omega)]
    omega
def record (l : List Int) : List Int := ([(l.length : Int)] ++ l) ++ [bsum l / 256, bsum l % 256]
theorem record_length (l : List Int) : (record l).length = l.length + 3 := by simp [record]
section
variable (l : List Int) (hl : l.length ≤ 255) (hb : ∀ x ∈ l, 0 ≤ x ∧ x < 256)
include hl hb
theorem sRec_l (e : Int → List Int → Option (List Int)) (m : Nat) : ∀ d i : Nat, i + d = l.length → S.RecordOf_l0 (d + 1 + m) e (bsum (l.take i)) (i : Int) l = e (bsum l) l := by
  intro d
  induction d with
  | zero =>
    intro i hi
    rw [show 0 + 1 + m = m + 1 from by omega, S.RecordOf_l0, cdn (by omega), List.take_of_length_le (by omega)]
  | succ d ih =>
    intro i hi
    have hr := hb _ (nthI_mem l i 0 (by omega))
    have hs := bsum_bd l hb i (by omega)
    have := ih (i + 1) (by omega)
    rw [bsum_take l i (by omega)] at this
    rw [show d + 1 + 1 + m = (d + 1 + m) + 1 from by omega, S.RecordOf_l0, cdp (by omega), cdp (by omega), w64 (n := nthI l (i : Int) 0) (by omega) (by omega), w64 (by omega) (by omega), w64 (by omega) (by omega)]
    exact this
theorem iRec_l (e : Int → List Int → Option (List Int)) (m : Nat) : ∀ d i : Nat, i + d = l.length → I.RecordOf_l0 (d + 1 + m) e (bsum (l.take i)) (l.length : Int) (i : Int) l = e (bsum l) l := by
  intro d
  induction d with
  | zero =>
    intro i hi
    rw [show 0 + 1 + m = m + 1 from by omega, I.RecordOf_l0, cdn (by omega), List.take_of_length_le (by omega)]
  | succ d ih =>
    intro i hi
    have hr := hb _ (nthI_mem l i 0 (by omega))
    have hs := bsum_bd l hb i (by omega)
    have := ih (i + 1) (by omega)
    rw [bsum_take l i (by omega)] at this
    rw [show d + 1 + 1 + m = (d + 1 + m) + 1 from by omega, I.RecordOf_l0, cdp (by omega), cdp (by omega), w64 (n := nthI l (i : Int) 0) (by omega) (by omega), w64 (by omega) (by omega), w64 (by omega) (by omega)]
    exact this
theorem sRecordOf_eq : S.RecordOf l = some (record l) := by
  unfold S.RecordOf
  obtain ⟨m, hm⟩ := fu_ge l.length (by omega)
  have hs := bsum_bd l hb l.length (Nat.le_refl _)
  rw [List.take_of_length_le (Nat.le_refl _)] at hs
  rw [cdn (by omega), hm]
  refine (sRec_l l hl hb _ m l.length 0 (by omega)).trans ?_
  have e1 : IntKind.u8.wrap (l.length : Int) = (l.length : Int) := by rw [u8_mod]; omega
  have e2 : IntKind.u8.wrap (Int.tmod (IntKind.i64.wrap (Int.tdiv (bsum l) 256)) 256) = bsum l / 256 := by
    rw [tdiv_nat _ _ hs.1, w64 (by omega) (by omega), tmod_nat _ _ (by omega), u8_mod]; omega
  have e3 : IntKind.u8.wrap (Int.tmod (bsum l) 256) = bsum l % 256 := by rw [tmod_nat _ _ hs.1, u8_mod]; omega
  simp only [e1, e2, e3]
  rw [cdp (by simp <;> omega), cdn (by decide), cdn (by decide), cdn (by decide), cdp (by simp <;> omega)]
  rfl
theorem iRecordOf_eq : I.RecordOf l = some (record l) := by
  unfold I.RecordOf
  obtain ⟨m, hm⟩ := fu_ge l.length (by omega)
  have hs := bsum_bd l hb l.length (Nat.le_refl _)
  rw [List.take_of_length_le (Nat.le_refl _)] at hs
  rw [cdn (by omega), hm]
  refine (iRec_l l hl hb _ m l.length 0 (by omega)).trans ?_
  have e1 : IntKind.u8.wrap (l.length : Int) = (l.length : Int) := by rw [u8_mod]; omega
  have e2 : IntKind.u8.wrap (Int.fdiv (bsum l) (2 ^ min (Int.toNat 8) (IntKind.bits .i64))) = bsum l / 256 := by
    rw [show (2 : Int) ^ min (Int.toNat 8) (IntKind.bits .i64) = 256 from by decide, Int.fdiv_eq_ediv_of_nonneg _ (by decide), u8_mod]; omega
  have e3 : IntKind.u8.wrap (bsum l) = bsum l % 256 := u8_mod _
  simp only [e1, e2, e3]
  rw [cdp (by simp <;> omega), cdp (by decide), cdp (by simp <;> omega)]
  rfl
end
/-! LogRead -/
abbrev LR : Type := Int × List TOp
theorem slice_bytes (xs : List Int) (hx : ∀ x ∈ xs, 0 ≤ x ∧ x < 256) (a b : Nat) : ∀ x ∈ (xs.take b).drop a, 0 ≤ x ∧ x < 256 := fun x h => hx x (List.mem_of_mem_take (List.mem_of_mem_drop h))
section
variable (xs : List Int) (hx : ∀ x ∈ xs, 0 ≤ x ∧ x < 256) (hn : xs.length ≤ 1000000000)
include hx hn
theorem logRead_l (m m' : Nat) : ∀ (d a : Nat) (acc : List TOp), acc.length + d = 250 → a ≤ xs.length →
    ∃ r : LR, r.2.length ≤ 250 ∧ S.LogRead_l0 (d + 1 + m) (fun y22 y23 => some (y22, y23)) (a : Int) xs acc = some r ∧ I.logRead_l0 (d + 1 + m') (fun y22 y23 => some (y22, y23)) (a : Int) xs acc = some r := by
  intro d
  induction d with
  | zero =>
    intro a acc h ha
    refine ⟨((a : Int), acc), by simp; omega, ?_, ?_⟩
    · rw [show 0 + 1 + m = m + 1 from by omega, S.LogRead_l0]
      by_cases c : a < xs.length
      · rw [cdp (by omega), cdn (by omega)]
      · rw [cdn (by omega)]
    · rw [show 0 + 1 + m' = m' + 1 from by omega, I.logRead_l0]
      by_cases c : a < xs.length
      · rw [cdp (by omega), cdn (by omega)]
      · rw [cdn (by omega)]
  | succ d ih =>
    intro a acc h ha
    rw [show d + 1 + 1 + m = (d + 1 + m) + 1 from by omega, show d + 1 + 1 + m' = (d + 1 + m') + 1 from by omega, S.LogRead_l0, I.logRead_l0]
    by_cases c : ¬ a < xs.length
    · exact ⟨((a : Int), acc), by simp; omega, by rw [cdn (by omega)], by rw [cdn (by omega)]⟩
    have hb := hx _ (nthI_mem xs a 0 (by omega))
    obtain ⟨b, hb2⟩ := Int.eq_ofNat_of_zero_le hb.1
    rw [hb2] at hb ⊢
    have hlt : decide ((a : Int) < (xs.length : Int)) = true := decide_eq_true (by omega)
    have hlt2 : decide ((acc.length : Int) < 250) = true := decide_eq_true (by omega)
    have hdec : decide ((0 : Int) ≤ (a : Int) ∧ (a : Int) < (xs.length : Int)) = true := decide_eq_true (by omega)
    have e1 : IntKind.i64.wrap (IntKind.i64.wrap ((a : Int) + IntKind.i64.wrap ((b : Nat) : Int)) + 3) = ((a + b + 3 : Nat) : Int) := by
      rw [w64 (n := ((b : Nat) : Int)) (by omega) (by omega), w64 (n := (a : Int) + (b : Int)) (by omega) (by omega), w64 (by omega) (by omega)]; omega
    have e2 : IntKind.i64.wrap (((a + 1 : Nat) : Int) + IntKind.i64.wrap ((b : Nat) : Int)) = ((a + b + 1 : Nat) : Int) := by
      rw [w64 (n := ((b : Nat) : Int)) (by omega) (by omega), w64 (by omega) (by omega)]; omega
    have e3 : IntKind.i64.wrap (((a + b + 1 : Nat) : Int) + 2) = ((a + b + 3 : Nat) : Int) := by rw [w64 (by omega) (by omega)]; omega
    have e4 : IntKind.i64.wrap ((a : Int) + 1) = ((a + 1 : Nat) : Int) := by rw [w64 (by omega) (by omega)]; omega
    have e5 : IntKind.i64.wrap (((a + b + 3 : Nat) : Int) - 2) = ((a + b + 1 : Nat) : Int) := by rw [w64 (by omega) (by omega)]; omega
    simp only [hlt, hlt2, hdec, cond_true, dup_eq, same_self, e1, e2, e3, e4, e5, Int.toNat_natCast]
    by_cases c2 : xs.length < a + b + 3
    · exact ⟨((a : Int), acc), by simp; omega, by rw [cdp (by omega)], by rw [cdp (by omega)]⟩
    have c2' : decide ((xs.length : Int) < ((a + b + 3 : Nat) : Int)) = false := decide_eq_false (by omega)
    have hs1 : decide ((0 : Int) ≤ ((a + 1 : Nat) : Int) ∧ ((a + 1 : Nat) : Int) ≤ ((a + b + 1 : Nat) : Int) ∧ ((a + b + 1 : Nat) : Int) ≤ (xs.length : Int)) = true := decide_eq_true (by omega)
    have hs2 : decide ((0 : Int) ≤ (a : Int) ∧ (a : Int) ≤ ((a + b + 3 : Nat) : Int) ∧ ((a + b + 3 : Nat) : Int) ≤ (xs.length : Int)) = true := decide_eq_true (by omega)
    have hD : ((xs.take (a + b + 1)).drop (a + 1)).length = b := by rw [List.length_drop, List.length_take]; omega
    have hDb := slice_bytes xs hx (a + 1) (a + b + 1)
    have r1 := sOpRead_eq _ hDb (by omega)
    have r2 := iOpRead_eq _ hDb (by omega)
    have r3 := iRecordOf_eq _ (by omega) hDb
    have r4 := sRecordOf_eq _ (by omega) hDb
    have r5 := opRd_ok _ hDb (by omega)
    generalize (xs.take (a + b + 1)).drop (a + 1) = D at *
    generalize (xs.take (a + b + 3)).drop a = E at *
    obtain ⟨o, ho⟩ : ∃ o, opRd D = o := ⟨_, rfl⟩
    rw [ho] at r1 r2 r5
    simp only [c2', hs1, hs2, cond_true, cond_false, r1, r2, r3, Option.bind_some]
    by_cases hok : ¬ o.2.2.2.2.2.2.2.2.2.2.2 = true
    · refine ⟨((a : Int), acc), by simp; omega, ?_, ?_⟩ <;> rw [Bool.eq_false_iff.2 hok] <;> rfl
    have hok := Decidable.not_not.1 hok
    obtain ⟨v1, v2, v3, v4, v5, v6, v7, v8, v9, v10, v11, q1, q2, q3, q4⟩ := r5 hok
    subst q1
    have q5 := sOpBytes_eq v1 v2 v3 v4 v5 v6 v7 v8 v9 v10 v11 q3
    unfold opBytes at q5
    rw [q2, cond_true, ← q4] at q5
    simp only [Bool.not_true, cond_false, q5, Option.bind_some, r4]
    by_cases c3 : (strOfNums (record D)).toList = (strOfNums E).toList
    · have c3' : ((strOfNums (record D)).toList == (strOfNums E).toList) = true := by rw [c3]; exact beq_self_eq_true _
      have h88 : ∀ z : TOp, decide ((acc.length + [z].length) * 88 ≤ 140737488355328) = true := fun z => decide_eq_true (by simp; omega)
      simp only [c3', Bool.not_true, cond_false, h88, cond_true]
      exact ih (a + b + 3) _ (by simp; omega) (by omega)
    · have c3' : ((strOfNums (record D)).toList == (strOfNums E).toList) = false := by rw [beq_eq_false_iff_ne]; exact c3
      simp only [c3', Bool.not_false, cond_true]
      exact ⟨((a : Int), acc), by simp; omega, rfl, rfl⟩
theorem logRead_eq : ∃ r : LR, r.2.length ≤ 250 ∧ S.LogRead xs = some r ∧ I.logRead xs = some r := by
  obtain ⟨m, hm⟩ := fu_ge 250 (by omega)
  obtain ⟨r, h1, h2, h3⟩ := logRead_l xs hx hn m m 250 0 [] (by simp) (by omega)
  refine ⟨r, h1, ?_, ?_⟩
  · unfold S.LogRead; rw [hm]; exact h2
  · unfold I.logRead; rw [hm]; exact h3
end
theorem FnExactLogRead : StmtFnExactLogRead.Stmt := by
  intro xs hxs
  have hx : ∀ x ∈ xs, 0 ≤ x ∧ x < 256 := fun x hx => u8_wf (hxs.2 x hx)
  unfold L.FnExactLogRead
  by_cases hl : 1048576 < (xs.length : Int)
  · rw [cdp hl]
  · obtain ⟨r, h0, h1, h2⟩ := logRead_eq xs hx (by omega)
    have hto := toByteS_eq xs (by omega)
    have heq := eqByteS_eq xs xs (by omega)
    have heq2 := eqOpS_eq r.2 r.2 (by omega)
    have hmk := markByteS_eq 1 xs (by omega) (by omega)
    have hmk2 := markOpS_eq 1 r.2 (by omega) (by omega)
    have hh2 := heldOpS_eq 1 r.2 (by omega) (by omega)
    have p1 : decide ((1 : Int) + 1 * (xs.length : Int) < 0) = false := decide_eq_false (by omega)
    have p2 : decide ((1 : Int) + 11 * (r.2.length : Int) < 0) = false := decide_eq_false (by omega)
    have h2' : I.LogRead xs = some r := by unfold I.LogRead; rw [h2]; rfl
    rw [cdn hl]
    simp only [hto, h1, h2', heq, heq2, hmk, hmk2, hh2, p1, p2, Option.bind_some, decide_true, bne_self_eq_false, Bool.not_true, cond_false]
end Go.Proofs.Ytflagchmcnfigaa.Pure
