/- A walk by reckoning: words for the printed texts. -/
import Derived.Test.YtidojhgkpgomcaaVmH
namespace Go.Proofs.Ytidojhgkpgomcaa.Vm
open Go Go.RowKit Go.Proofs.YtidojhgkpgomcaaW.PrintWords
set_option linter.unusedVariables false
/-- A run of numbers. -/
abbrev rg (a n : Nat) : List Nat := List.range' a n
/-- How many rounds a loop is given: more than any loop here takes. -/
theorem fu_ex : ∃ n : Nat, n = 18446744073709551616 := ⟨_, rfl⟩
noncomputable def fu : Nat := Classical.choose fu_ex
theorem fu_eq : fu = 18446744073709551616 := Classical.choose_spec fu_ex
abbrev nthI {α : Type} (xs : List α) (i : Int) (d : α) : α := xs.getD i.toNat d
def bodyOf (f : Func) : Code := f.body.getD .skip
/-! ### Short words for states -/
def vi (n : Int) : AV := .s1 (.one (.val (.int .i64 n)))
def vk (k : IntKind) (n : Int) : AV := .s1 (.one (.val (.int k n)))
def vb (b : Bool) : AV := .s1 (.one (.val (.bool b)))
def vs (s : ByteArray) : AV := .s1 (.one (.val (.string s)))
def vl (r : Nat) : AV := .s1 (.one (.sl r))
def vp (b off : Nat) : AV := .s1 (.one (.ptr b off))
def vu (n : Nat) (xs : List AV) : List AV := List.replicate n (.s1 (.one .unk)) ++ xs
def vd (n : Nat) (xs : List AV) : List AV := List.replicate n (.s1 (.one (.val undef))) ++ xs
def ai (n : Int) : AL := .val (.int .i64 n)
def ak (k : IntKind) (n : Int) : AL := .val (.int k n)
def ab (b : Bool) : AL := .val (.bool b)
def as (s : ByteArray) : AL := .val (.string s)
def hu (n : Nat) (xs : List SV) : List SV := List.replicate n (.one .unk) ++ xs
def hh : SV := .one .hole
section
variable {P : Program} {ρ : Type}
def envNil : Env := fun _ => none
def envCons (f : FuncId) (m : List Nat) (F : Fun2) (G : Env) : Env := fun x => bif Nat.beq x f then some ⟨m, F⟩ else G x
theorem envNil_good : ∀ f E, (envNil : Env) f = some E → Good P f E.F := fun f E h => by cases h
theorem envCons_good {f : FuncId} {m : List Nat} {F : Fun2} {G : Env} (h : Good P f F) (hG : ∀ f E, G f = some E → Good P f E.F) : ∀ x X, envCons f m F G x = some X → Good P x X.F := by
  intro x X hx
  unfold envCons at hx
  cases hb : Nat.beq x f with
  | true =>
    rw [hb] at hx
    simp only [cond_true, Option.some.injEq] at hx
    obtain rfl := Nat.eq_of_beq_eq_true hb
    rw [← hx]
    exact h
  | false =>
    rw [hb] at hx
    exact hG x X hx
abbrev LEnv (ρ : Type) := Nat → St → Kont ρ → Option ρ
def loopNil : LEnv ρ := fun _ _ _ => none
def loopCons (id : Nat) (F : St → Kont ρ → Option ρ) (L : LEnv ρ) : LEnv ρ := fun x => bif Nat.beq x id then F else L x
theorem no_loops {N : Nat × Nat} {L : LEnv ρ} {c : Code} (h : loopsOf c = []) : ∀ x ∈ loopsOf c, ∀ id, firstReg x = some id → LoopOk P N x (L id) := fun x hx => by rw [h] at hx; cases hx
theorem loops_nil {N : Nat × Nat} {L : LEnv ρ} : ∀ x ∈ ([] : List Code), ∀ id, firstReg x = some id → LoopOk P N x (L id) := fun x hx => by simp at hx
theorem loops_cons {N : Nat × Nat} {L : LEnv ρ} {F : St → Kont ρ → Option ρ} {x1 : Code} {xs : List Code} {id : Nat} (h1 : firstReg x1 = some id) (e : L id = F) (h2 : LoopOk P N x1 F) (h3 : ∀ x ∈ xs, ∀ id, firstReg x = some id → LoopOk P N x (L id)) : ∀ x ∈ x1 :: xs, ∀ id, firstReg x = some id → LoopOk P N x (L id) := by
  intro x hx i hi
  rcases List.mem_cons.1 hx with rfl | hx
  · rw [h1] at hi
    injection hi with hi
    subst hi
    exact e ▸ h2
  · exact h3 x hx i hi
theorem loops_eq {N : Nat × Nat} {L : LEnv ρ} {xs ys : List Code} (e : ys = xs) (h : ∀ x ∈ xs, ∀ id, firstReg x = some id → LoopOk P N x (L id)) : ∀ x ∈ ys, ∀ id, firstReg x = some id → LoopOk P N x (L id) := e ▸ h
/-- Two forms of one function. -/
def orF (F1 F2 : Fun2) : Fun2 := fun args bs rs =>
  match F1 args bs rs with
  | some o => some o
  | none => F2 args bs rs
theorem orF_good {f : FuncId} {F1 F2 : Fun2} (h1 : Good P f F1) (h2 : Good P f F2) : Good P f (orF F1 F2) := by
  refine ⟨h1.fn, fun args bs rs out t h ho => ?_⟩
  unfold orF at h
  split at h
  · rename_i o ho1
    injection h with h
    subst h
    exact h1.ok args bs rs _ t ho1 ho
  · exact h2.ok args bs rs out t h ho
/-! ### A law's function -/
def gh0 (w : World) (hs : List Value) : Gh := ⟨[], hs, fun _ => none, w, fun _ => false, w⟩
theorem gh0_fz {w : World} {hs : List Value} {k : Nat} : (gh0 w hs).fz k = w.heap[k]? := by
  have e1 : (gh0 w hs).wz = w := rfl
  have e2 : (gh0 w hs).lent = fun _ => false := rfl
  unfold Gh.fz
  rw [e1, e2]
  cases hw : w.heap[k]? with
  | none => rfl
  | some o => cases o <;> simp
theorem ownN_ro {w : World} : ∀ {rs : List Row} {hs : List Value}, F2 (RoAs w) rs hs → ownN rs = 0
  | [], [], _ => rfl
  | r :: rs, v :: hs, h => by
    unfold ownN
    rw [h.1.1]
theorem good_true {f : FuncId} {F : Fun2} (h : Good P f F) {args : List AV} {rs : List Row} {out : Out} {t : out.T} (hF : F args [] rs = some out) (ho : out.o = some t) (ht : (out.res t).rets = [.one (.val (.bool true))])
    {w : World} {hs vals : List Value} (hrs : F2 (RoAs w) rs hs) (hin : F2 (AV.R (gh0 w hs)) args vals) : Calls P f vals.toArray w (fun e w' => e = .returned (.bool true) ∧ Below w.heap.size w w') := by
  have hm : Mem [] rs (gh0 w hs) w := by
    refine ⟨rfl, fun hb _ => by simp at hb, fun hb => by simp [gh0] at hb, fun hb _ => by simp [gh0] at hb, ?_, fun {r row v} h1 h2 => ?_, ⟨rfl, rfl, rfl, Nat.le_refl _, fun {k o} hk => by rw [gh0_fz] at hk; exact hk⟩, fun {k x} hk => by cases hk⟩
    · have := hrs.length
      exact this
    · obtain ⟨v', hv, hmd, hr⟩ := hrs.get h1
      have h2' : hs[r]? = some v := h2
      rw [hv] at h2'
      injection h2' with h2'
      subst h2'
      unfold RowRel
      rw [hmd]
      exact hr
  have hfull : Full (gh0 w hs) w := fun k hk _ _ => gh0_fz
  refine Calls.mono (h.ok args [] rs out t hF ho (gh0 w hs) w vals rfl hm hfull hin) fun e w' he => ?_
  obtain ⟨g', vs, rfl, hext, hm', hF'⟩ := he
  rw [ht] at hF'
  match vs, hF' with
  | [v], hF' =>
    have hv : v = .bool true := hF'.1
    subst hv
    have hst := hm'.st
    have hw : g'.w0 = w := hext.w0
    refine ⟨rfl, hst.os.trans (by rw [hw]), hst.tape.trans (by rw [hw]), hst.output.trans (by rw [hw]), by have := hst.size; rwa [hw] at this, fun k hk => ?_⟩
    have h1 : (gh0 w hs).fz k = some w.heap[k] := by rw [gh0_fz, Array.getElem?_eq_getElem hk]
    rw [hst.fz (hext.fz h1), Array.getElem?_eq_getElem hk]
end
/-! ### A text that is reckoned in pieces -/
section
variable {P : Program} {ρ : Type} {G : Env} {L : Nat → St → Kont ρ → Option ρ}
def kseq (k : St → Option ρ) (K : Kont ρ) : Kont ρ := fun e st =>
  match e with
  | .normal => k st
  | e => K e st
def preC : Nat → Code → Code
  | 0, .seq x _ => x
  | n + 1, .seq x y => .seq x (preC n y)
  | _, c => c
def sufC : Nat → Code → Code
  | 0, .seq _ y => y
  | n + 1, .seq _ y => sufC n y
  | _, _ => .skip
noncomputable def kF (P : Program) (N : Nat × Nat) (rn : List Nat) (fn : Func) (K : Res → Option ρ) : Kont ρ := fun e st =>
  match e with
  | .exit _ => none
  | _ =>
    match finish P N rn fn st with
    | none => none
    | some res => K res
theorem evF_kF {N : Nat × Nat} {rn : List Nat} {fn : Func} {c : Code} {args : List AV} {bs : List (TypeId × List AL)} {rs : List Row} {K : Res → Option ρ} {x : Option ρ}
    (h : evC P G L c (start args bs rs fn.ntmps) (kF P N rn fn K) = x) : evF P G L N rn fn c args bs rs K = x := by
  rw [← h]
  unfold evF kF
  rfl
theorem kseq_eta (K : Kont ρ) : kseq (fun st => K .normal st) K = K := by
  funext e st
  cases e <;> rfl
theorem evC_cut : ∀ (n : Nat) (c : Code) (st : St) (K : Kont ρ), evC P G L c st K = evC P G L (preC n c) st (kseq (fun st' => evC P G L (sufC n c) st' K) K) := by
  intro n
  induction n with
  | zero =>
    intro c st K
    cases c
    case seq x y =>
      rfl
    all_goals (show evC P G L _ st K = evC P G L _ st (kseq (fun st' => evC P G L .skip st' K) K); congr 1; exact (kseq_eta K).symm)
  | succ n ih =>
    intro c st K
    cases c
    case seq x y =>
      show evC P G L x st _ = evC P G L x st _
      congr 1
      funext e st'
      cases e
      case normal => exact ih y st' K
      all_goals rfl
    all_goals (show evC P G L _ st K = evC P G L _ st (kseq (fun st' => evC P G L .skip st' K) K); congr 1; exact (kseq_eta K).symm)
end
end Go.Proofs.Ytidojhgkpgomcaa.Vm
