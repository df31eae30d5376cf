/- A walk by reckoning: words for the printed texts. -/
import Derived.Test.YtpfjklmobjjgpaaSimH
namespace Go.Proofs.Ytpfjklmobjjgpaa.Sim
open Go Go.RowKit Go.Proofs.YtpfjklmobjjgpaaW.PrintWords
set_option linter.unusedVariables false
/-- How many rounds a loop is given: more than any loop here takes. -/
def fu : Nat := 18446744073709551616
theorem fu_eq : fu = 18446744073709551616 := rfl
abbrev nthI {α : Type} (xs : List α) (i : Int) (d : α) : α := xs.getD i.toNat d
def bodyOf (f : Func) : Code := f.body.getD .skip
section
variable {P : Program} {ρ : Type}
def envNil : Env ρ := fun _ => none
def envCons (f : FuncId) (F : Fun1 ρ) (G : Env ρ) : Env ρ := fun x => bif Nat.beq x f then some F else G x
theorem envNil_good : ∀ f F, (envNil : Env ρ) f = some F → Good P f F := fun f F h => by cases h
theorem envCons_good {f : FuncId} {F : Fun1 ρ} {G : Env ρ} (h : Good P f F) (hG : ∀ f F, G f = some F → Good P f F) : ∀ x X, envCons f F G x = some X → Good P x X := by
  intro x X hx
  unfold envCons at hx
  cases hb : Nat.beq x f with
  | true =>
    rw [hb] at hx
    simp only [cond_true, Option.some.injEq] at hx
    obtain rfl := Nat.eq_of_beq_eq_true hb
    rw [← hx]
    exact h
  | false =>
    rw [hb] at hx
    exact hG x X hx
/-- What is asked of a law's function: it returns true. -/
def isTrue : List RV → Option Unit
  | [.one (.sc (.bool true))] => some ()
  | _ => none
theorem good_true {f : FuncId} {F : Fun1 Unit} (h : Good P f F) {args : List RV} (hE : F args isTrue = some ()) {w : World} {vals : List Value} (hin : F2 (RV.In w) args vals) : Calls P f vals.toArray w (fun e w' => e = .returned (.bool true) ∧ Below w.heap.size w w') := by
  refine Calls.mono (h.2 args isTrue () hE w vals hin) fun e w' he => ?_
  obtain ⟨rvs, vs, tag, hz, rfl, ⟨us, hs, ho⟩, hb⟩ := he
  refine ⟨?_, hb⟩
  unfold isTrue at hz
  split at hz
  · match vs, hs with
    | [v], hs =>
      obtain ⟨us', rfl, hs'⟩ := hs
      have h1 : v = .bool true := ho.1
      rw [h1]
      rfl
  · cases hz
abbrev LEnv (ρ : Type) := Nat → St → Kont ρ → Option ρ
def loopNil : LEnv ρ := fun _ _ _ => none
def loopCons (id : Nat) (F : St → Kont ρ → Option ρ) (L : LEnv ρ) : LEnv ρ := fun x => bif Nat.beq x id then F else L x
theorem loops_nil {L : LEnv ρ} : ∀ x ∈ ([] : List Code), ∀ id, firstReg x = some id → LoopOk P x (L id) := fun x hx => by simp at hx
theorem loops_cons {L : LEnv ρ} {x1 : Code} {xs : List Code} {id : Nat} (h1 : firstReg x1 = some id) (h2 : LoopOk P x1 (L id)) (h3 : ∀ x ∈ xs, ∀ id, firstReg x = some id → LoopOk P x (L id)) : ∀ x ∈ x1 :: xs, ∀ id, firstReg x = some id → LoopOk P x (L id) := by
  intro x hx i hi
  rcases List.mem_cons.1 hx with rfl | hx
  · rw [h1] at hi
    injection hi with hi
    subst hi
    exact h2
  · exact h3 x hx i hi
end
end Go.Proofs.Ytpfjklmobjjgpaa.Sim
