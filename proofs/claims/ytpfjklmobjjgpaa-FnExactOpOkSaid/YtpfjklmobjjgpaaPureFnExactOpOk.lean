/- OpOk of the program returns what the reference's OpOk returns. For every operation. -/
import Derived.Test.YtpfjklmobjjgpaaStmtFnExactOpOk
namespace Go.Proofs.Ytpfjklmobjjgpaa.Pure
open Go Go.RowKit Go.Proofs.Ytpfjklmobjjgpaa.Run Go.Proofs.YtpfjklmobjjgpaaW.PrintWords Go.Proofs.Ytpfjklmobjjgpaa.Sim
/-! OpOk -/
theorem bind_self (x : Option Unit) : x.bind (fun _ => x) = x := by cases x <;> rfl
theorem cond_ret (ret : Bool → Option Unit) (c x y : Bool) : (bif c then ret x else ret y) = ret (bif c then x else y) := by cases c <;> rfl
theorem cond_and (c x : Bool) : (bif c then x else false) = (c && x) := by cases c <;> rfl
theorem dand (p q : Prop) [Decidable p] [Decidable q] : (decide p && decide q) = decide (p ∧ q) := by by_cases p <;> by_cases q <;> simp_all
/-- What an operation must be. -/
def opOk (a1 a2 a3 a4 a5 a6 a7 a8 a9 a10 a11 : Int) : Bool :=
  bif a1 == 1 then decide ((0 ≤ a2 ∧ a2 ≤ 3) ∧ (0 ≤ a3 ∧ a3 ≤ 15) ∧ (0 ≤ a5 ∧ a5 ≤ 1000) ∧ a6 = 0 ∧ a7 = 0 ∧ a8 = 0 ∧ a9 = 0 ∧ a10 = 0 ∧ a11 = 0)
  else bif a1 == 2 then decide ((0 ≤ a6 ∧ a6 ≤ 3) ∧ (0 ≤ a7 ∧ a7 ≤ 4) ∧ (0 ≤ a8 ∧ a8 ≤ 15) ∧ (0 ≤ a9 ∧ a9 ≤ 15) ∧ a2 = 0 ∧ a3 = 0 ∧ a4 = 0 ∧ a5 = 0 ∧ a10 = 0 ∧ a11 = 0)
  else bif a1 == 3 then decide ((0 ≤ a6 ∧ a6 ≤ 3) ∧ (0 ≤ a7 ∧ a7 ≤ 4) ∧ (0 ≤ a8 ∧ a8 ≤ 15) ∧ a9 = 0 ∧ a2 = 0 ∧ a3 = 0 ∧ a4 = 0 ∧ a5 = 0 ∧ a10 = 0 ∧ a11 = 0)
  else bif a1 == 4 then decide ((0 ≤ a10 ∧ a10 ≤ 3) ∧ (0 ≤ a11 ∧ a11 ≤ 1000) ∧ a2 = 0 ∧ a3 = 0 ∧ a4 = 0 ∧ a5 = 0 ∧ a6 = 0 ∧ a7 = 0 ∧ a8 = 0 ∧ a9 = 0)
  else bif a1 == 5 || a1 == 6 then decide ((0 ≤ a10 ∧ a10 ≤ 3) ∧ a11 = 0 ∧ a2 = 0 ∧ a3 = 0 ∧ a4 = 0 ∧ a5 = 0 ∧ a6 = 0 ∧ a7 = 0 ∧ a8 = 0 ∧ a9 = 0)
  else bif a1 == 7 || a1 == 8 || a1 == 9 then decide ((0 ≤ a10 ∧ a10 ≤ 3) ∧ (0 ≤ a11 ∧ a11 ≤ 1000000) ∧ a2 = 0 ∧ a3 = 0 ∧ a4 = 0 ∧ a5 = 0 ∧ a6 = 0 ∧ a7 = 0 ∧ a8 = 0 ∧ a9 = 0)
  else false
section
variable (ret : Bool → Option Unit)
theorem in_eq (a b c : Int) : I.in ret a b c = ret (decide (b ≤ a ∧ a ≤ c)) := by unfold I.in; rw [cond_ret, cond_and, dand]
theorem isSource_eq (a : Int) : I.isSource ret a = ret (decide (0 ≤ a ∧ a ≤ 3)) := by unfold I.isSource; rw [in_eq]
theorem isTime_eq (a : Int) : I.isTime ret a = ret (decide (0 ≤ a ∧ a ≤ 1000)) := by unfold I.isTime; rw [in_eq]
theorem isKey_eq (a : Int) : I.isKey ret a = ret (decide (0 ≤ a ∧ a ≤ 15)) := by unfold I.isKey; rw [in_eq]
theorem isElem_eq (a b c d : Int) : I.isElem ret a b c d = ret (decide ((0 ≤ a ∧ a ≤ 3) ∧ (0 ≤ b ∧ b ≤ 15) ∧ (0 ≤ d ∧ d ≤ 1000))) := by
  unfold I.isElem; simp only [isSource_eq, isKey_eq, isTime_eq, cond_ret, cond_and, dand]
theorem isPlace_eq (a b c d : Int) : I.Punct_isPlace ret a b c d = ret (decide ((0 ≤ a ∧ a ≤ 3) ∧ (0 ≤ b ∧ b ≤ 4) ∧ (0 ≤ c ∧ c ≤ 15))) := by
  unfold I.Punct_isPlace; simp only [isSource_eq, isKey_eq, in_eq, cond_ret, cond_and, dand]
theorem l04Src_eq (a : Int) : S.l04Src ret a = ret (decide (0 ≤ a ∧ a ≤ 3)) := by
  unfold S.l04Src; rw [cond_ret, cond_and, dand]; congr 2; apply propext; omega
theorem l05Time_eq (a : Int) : S.l05Time ret a = ret (decide (0 ≤ a ∧ a ≤ 1000)) := by unfold S.l05Time; rw [cond_ret, cond_and, dand]
theorem l10Count_eq (a : Int) : S.l10Count ret a = ret (decide (0 ≤ a ∧ a ≤ 1000000)) := by unfold S.l10Count; rw [cond_ret, cond_and, dand]
theorem l04Key_eq (a : Int) : S.l04Key ret a = ret (decide (0 ≤ a ∧ a ≤ 15)) := by unfold S.l04Key; rw [cond_ret, cond_and, dand]
theorem l04Bits_eq (a : Int) : S.l04Bits ret a = ret (decide (0 ≤ a ∧ a ≤ 4)) := by unfold S.l04Bits; rw [cond_ret, cond_and, dand]
theorem ElemOk_eq (a b c d : Int) : S.ElemOk ret a b c d = ret (decide ((0 ≤ a ∧ a ≤ 3) ∧ (0 ≤ b ∧ b ≤ 15) ∧ (0 ≤ d ∧ d ≤ 1000))) := by
  unfold S.ElemOk; simp only [l04Src_eq, l04Key_eq, l05Time_eq, cond_ret, cond_and, dand]
theorem l11Punct_eq (a b c d : Int) : S.l11Punct ret a b c d = ret (decide ((0 ≤ a ∧ a ≤ 3) ∧ (0 ≤ b ∧ b ≤ 4) ∧ (0 ≤ c ∧ c ≤ 15) ∧ (0 ≤ d ∧ d ≤ 15))) := by
  unfold S.l11Punct; simp only [l04Src_eq, l04Key_eq, l04Bits_eq, cond_ret, cond_and, dand]; congr 2; apply propext; omega
theorem specOpOk_eq (a b c d e f g h i j k : Int) : S.OpOk ret a b c d e f g h i j k = ret (opOk a b c d e f g h i j k) := by
  unfold S.OpOk
  simp only [ElemOk_eq, l11Punct_eq, l04Src_eq, l05Time_eq, l10Count_eq, cond_ret, cond_and]
  congr 1
  unfold opOk
  rw [Bool.eq_iff_iff]
  by_cases h1 : a = 1
  · subst h1; simp; omega
  by_cases h2 : a = 2
  · subst h2; simp; omega
  by_cases h3 : a = 3
  · subst h3; simp; omega
  by_cases h4 : a = 4
  · subst h4; simp; omega
  by_cases h5 : a = 5
  · subst h5; simp; omega
  by_cases h6 : a = 6
  · subst h6; simp; omega
  by_cases h7 : a = 7
  · subst h7; simp; omega
  by_cases h8 : a = 8
  · subst h8; simp; omega
  by_cases h9 : a = 9
  · subst h9; simp; omega
  simp [h1, h2, h3, h4, h5, h6, h7, h8, h9]
theorem isOp_eq (a b c d e f g h i j k : Int) : I.isOp ret a b c d e f g h i j k = ret (opOk a b c d e f g h i j k) := by
  unfold I.isOp
  simp only [isElem_eq, isPlace_eq, in_eq, isSource_eq, isTime_eq, cond_ret, cond_and, bind_self]
  congr 1
  unfold opOk
  rw [Bool.eq_iff_iff]
  by_cases h1 : a = 1
  · subst h1; simp; omega
  by_cases h2 : a = 2
  · subst h2; simp; omega
  by_cases h3 : a = 3
  · subst h3; simp; omega
  by_cases h4 : a = 4
  · subst h4; simp; omega
  by_cases h5 : a = 5
  · subst h5; simp; omega
  by_cases h6 : a = 6
  · subst h6; simp; omega
  by_cases h7 : a = 7
  · subst h7; simp; omega
  by_cases h8 : a = 8
  · subst h8; simp; omega
  by_cases h9 : a = 9
  · subst h9; simp; omega
  simp [h1, h2, h3, h4, h5, h6, h7, h8, h9]
end
theorem toOp_eq (ret : Int → Int → Int → Int → Int → Int → Int → Int → Int → Int → Int → Option Unit) (a b c d e f g h i j k : Int) : L.toOp ret a b c d e f g h i j k = ret a b c d e f g h i j k := rfl
theorem implOpOk_eq (ret : Bool → Option Unit) (a b c d e f g h i j k : Int) : I.OpOk ret a b c d e f g h i j k = ret (opOk a b c d e f g h i j k) := by unfold I.OpOk; rw [isOp_eq]
theorem FnExactOpOk : StmtFnExactOpOk.Stmt := by
  intro a b c d e f g h i j k _ _ _ _ _ _ _ _ _ _ _
  unfold L.FnExactOpOk
  simp only [toOp_eq, specOpOk_eq, implOpOk_eq]
  simp [Sim.isTrue]
end Go.Proofs.Ytpfjklmobjjgpaa.Pure
