/- A walk by reckoning: words for the printed texts. -/
import Derived.Test.YtmbcnpbgcfiafaaGreatVmH
import Derived.Lib.LaidTab
namespace Go.Proofs.YtmbcnpbgcfiafaaGreat.Vm
open Go Go.RowKit Go.Proofs.YtmbcnpbgcfiafaaGreatW.PrintWords
set_option linter.unusedVariables false
abbrev rg (a n : Nat) : List Nat := List.range' a n
theorem fu_ex : ∃ n : Nat, n = 18446744073709551616 := ⟨_, rfl⟩
noncomputable def fu : Nat := Classical.choose fu_ex
theorem fu_eq : fu = 18446744073709551616 := Classical.choose_spec fu_ex
abbrev nthI {α : Type} (xs : List α) (i : Int) (d : α) : α := xs.getD i.toNat d
def bodyOf (f : Func) : Code := f.body.getD .skip
def vi (n : Int) : AV := .s1 (.one (.val (.int .i64 n)))
def vk (k : IntKind) (n : Int) : AV := .s1 (.one (.val (.int k n)))
def vb (b : Bool) : AV := .s1 (.one (.val (.bool b)))
def vs (s : ByteArray) : AV := .s1 (.one (.val (.string s)))
def vl (r : Nat) : AV := .s1 (.one (.sl r))
def vp (b off : Nat) : AV := .s1 (.one (.ptr b off))
def vu (n : Nat) (xs : List AV) : List AV := List.replicate n (.s1 (.one .unk)) ++ xs
def vd (n : Nat) (xs : List AV) : List AV := List.replicate n (.s1 (.one (.val undef))) ++ xs
def ai (n : Int) : AL := .val (.int .i64 n)
def ak (k : IntKind) (n : Int) : AL := .val (.int k n)
def ab (b : Bool) : AL := .val (.bool b)
def aS (s : ByteArray) : AL := .val (.string s)
def hu (n : Nat) (xs : List SV) : List SV := List.replicate n (.one .unk) ++ xs
def hh : SV := .one .hole
section
variable {P : Program} {ρ : Type}
def envNil : Env := fun _ => none
def envCons (f : FuncId) (m : List Nat) (F : Fun2) (G : Env) : Env := fun x => bif Nat.beq x f then some ⟨m, F, false, false⟩ else G x
def envConsH (f : FuncId) (m : List Nat) (F : Fun2) (G : Env) : Env := fun x => bif Nat.beq x f then some ⟨m, F, true, false⟩ else G x
def envConsS (f : FuncId) (m : List Nat) (F : Fun2) (G : Env) : Env := fun x => bif Nat.beq x f then some ⟨m, F, false, true⟩ else G x
theorem envNil_good : ∀ f E, (envNil : Env) f = some E → Good P f E.F := fun f E h => by cases h
theorem envCons_good {f : FuncId} {m : List Nat} {F : Fun2} {G : Env} (h : Good P f F) (hG : ∀ f E, G f = some E → Good P f E.F) : ∀ x X, envCons f m F G x = some X → Good P x X.F := by
  intro x X hx
  unfold envCons at hx
  cases hb : Nat.beq x f with
  | true =>
    rw [hb] at hx
    simp only [cond_true, Option.some.injEq] at hx
    obtain rfl := Nat.eq_of_beq_eq_true hb
    rw [← hx]
    exact h
  | false =>
    rw [hb] at hx
    exact hG x X hx
theorem envConsH_good {f : FuncId} {m : List Nat} {F : Fun2} {G : Env} (h : Good P f F) (hG : ∀ f E, G f = some E → Good P f E.F) : ∀ x X, envConsH f m F G x = some X → Good P x X.F := by
  intro x X hx
  unfold envConsH at hx
  cases hb : Nat.beq x f with
  | true =>
    rw [hb] at hx
    simp only [cond_true, Option.some.injEq] at hx
    obtain rfl := Nat.eq_of_beq_eq_true hb
    rw [← hx]
    exact h
  | false =>
    rw [hb] at hx
    exact hG x X hx
theorem envConsS_good {f : FuncId} {m : List Nat} {F : Fun2} {G : Env} (h : Good P f F) (hG : ∀ f E, G f = some E → Good P f E.F) : ∀ x X, envConsS f m F G x = some X → Good P x X.F := by
  intro x X hx
  unfold envConsS at hx
  cases hb : Nat.beq x f with
  | true =>
    rw [hb] at hx
    simp only [cond_true, Option.some.injEq] at hx
    obtain rfl := Nat.eq_of_beq_eq_true hb
    rw [← hx]
    exact h
  | false =>
    rw [hb] at hx
    exact hG x X hx
abbrev LEnv (ρ : Type) := Nat → St → Kont ρ → Option ρ
def loopNil : LEnv ρ := fun _ _ _ => none
def loopCons (id : Nat) (F : St → Kont ρ → Option ρ) (L : LEnv ρ) : LEnv ρ := fun x => bif Nat.beq x id then F else L x
theorem no_loops {N : Nat × Nat} {L : LEnv ρ} {c : Code} (h : loopsOf c = []) : ∀ x ∈ loopsOf c, ∀ id, firstReg x = some id → LoopOk P N x (L id) := fun x hx => by rw [h] at hx; cases hx
theorem loops_nil {N : Nat × Nat} {L : LEnv ρ} : ∀ x ∈ ([] : List Code), ∀ id, firstReg x = some id → LoopOk P N x (L id) := fun x hx => by simp at hx
theorem loops_cons {N : Nat × Nat} {L : LEnv ρ} {F : St → Kont ρ → Option ρ} {x1 : Code} {xs : List Code} {id : Nat} (h1 : firstReg x1 = some id) (e : L id = F) (h2 : LoopOk P N x1 F) (h3 : ∀ x ∈ xs, ∀ id, firstReg x = some id → LoopOk P N x (L id)) : ∀ x ∈ x1 :: xs, ∀ id, firstReg x = some id → LoopOk P N x (L id) := by
  intro x hx i hi
  rcases List.mem_cons.1 hx with rfl | hx
  · rw [h1] at hi
    injection hi with hi
    subst hi
    exact e ▸ h2
  · exact h3 x hx i hi
theorem loops_eq {N : Nat × Nat} {L : LEnv ρ} {xs ys : List Code} (e : ys = xs) (h : ∀ x ∈ xs, ∀ id, firstReg x = some id → LoopOk P N x (L id)) : ∀ x ∈ ys, ∀ id, firstReg x = some id → LoopOk P N x (L id) := e ▸ h
def orF (F1 F2 : Fun2) : Fun2 := fun args bs rs =>
  match F1 args bs rs with
  | some o => some o
  | none => F2 args bs rs
theorem orF_good {f : FuncId} {F1 F2 : Fun2} (h1 : Good P f F1) (h2 : Good P f F2) : Good P f (orF F1 F2) := by
  refine ⟨h1.fn, fun args bs rs out t h ho => ?_⟩
  unfold orF at h
  split at h
  · rename_i o ho1
    injection h with h
    subst h
    exact h1.ok args bs rs _ t ho1 ho
  · exact h2.ok args bs rs out t h ho
def gh0 (w : World) (hs : List Value) : Gh := ⟨[], hs, fun _ => none, w, fun _ => false, w, w⟩
theorem gh0_fz {w : World} {hs : List Value} {k : Nat} : (gh0 w hs).fz k = w.heap[k]? := by
  have e1 : (gh0 w hs).wz = w := rfl
  have e2 : (gh0 w hs).lent = fun _ => false := rfl
  unfold Gh.fz
  rw [e1, e2]
  cases hw : w.heap[k]? with
  | none => rfl
  | some o => cases o <;> simp
theorem ownN_ro {w : World} : ∀ {rs : List Row} {hs : List Value}, F2 (RoAs w) rs hs → ownN rs = 0
  | [], [], _ => rfl
  | r :: rs, v :: hs, h => by
    unfold ownN
    rw [h.1.1]
theorem good_true {f : FuncId} {F : Fun2} (h : Good P f F) {args : List AV} {rs : List Row} {out : Out} {t : out.T} (hF : F args [] rs = some out) (ho : out.o = some t) (ht : (out.res t).rets = [.one (.val (.bool true))])
    {w : World} {hs vals : List Value} (hT : ∀ x ∈ tabL, ∃ cs t f, x.2 cs ∧ w.heap[x.1]? = some (.cells cs.toArray t f)) (hrs : F2 (RoAs w) rs hs) (hin : F2 (AV.R (gh0 w hs)) args vals) : Calls P f vals.toArray w (fun e w' => e = .returned (.bool true) ∧ Below w.heap.size w w') := by
  have hm : Mem [] rs (gh0 w hs) w := by
    refine ⟨rfl, fun hb _ => by simp at hb, fun hb => by simp [gh0] at hb, fun hb _ => by simp [gh0] at hb, ?_, fun {r row v} h1 h2 => ?_, ⟨fun x hx => by rw [gh0_fz]; exact hT x hx, rfl, rfl, rfl, Nat.le_refl _, fun {k o} hk => (by rw [gh0_fz] at hk; exact hk), fun {k c e f} hk => (by rw [gh0_fz]; exact hk)⟩, fun {k x} hk => by cases hk⟩
    · have := hrs.length
      exact this
    · obtain ⟨v', hv, hmd, hr⟩ := hrs.get h1
      have h2' : hs[r]? = some v := h2
      rw [hv] at h2'
      injection h2' with h2'
      subst h2'
      unfold RowRel
      rw [hmd]
      exact hr
  have hfull : Full (gh0 w hs) w := fun k hk _ _ => gh0_fz
  refine Calls.mono (h.ok args [] rs out t hF ho (gh0 w hs) w vals rfl hm hfull hin) fun e w' he => ?_
  obtain ⟨g', vs, rfl, hext, hm', hF'⟩ := he
  rw [ht] at hF'
  match vs, hF' with
  | [v], hF' =>
    have hv : v = .bool true := hF'.1
    subst hv
    have hst := hm'.st
    have hw : g'.w0 = w := hext.w0
    refine ⟨rfl, hst.os.trans (by rw [hw]), hst.tape.trans (by rw [hw]), hst.output.trans (by rw [hw]), by have := hst.size; rwa [hw] at this, fun k hk => ?_⟩
    have h1 : (gh0 w hs).fz k = some w.heap[k] := by rw [gh0_fz, Array.getElem?_eq_getElem hk]
    rw [hst.fz (hext.fz h1), Array.getElem?_eq_getElem hk]
end
section
variable {P : Program} {ρ : Type} {G : Env} {L : Nat → St → Kont ρ → Option ρ}
def kseq (k : St → Option ρ) (K : Kont ρ) : Kont ρ := fun e st =>
  match e with
  | .normal => k st
  | e => K e st
def preC : Nat → Code → Code
  | 0, .seq x _ => x
  | n + 1, .seq x y => .seq x (preC n y)
  | _, c => c
def sufC : Nat → Code → Code
  | 0, .seq _ y => y
  | n + 1, .seq _ y => sufC n y
  | _, _ => .skip
noncomputable def kF (P : Program) (N : Nat × Nat) (rn : List Nat) (fn : Func) (K : Res → Option ρ) : Kont ρ := fun e st =>
  match e with
  | .exit _ => none
  | _ =>
    match finish P N rn fn st with
    | none => none
    | some res => K res
theorem evF_kF {N : Nat × Nat} {rn : List Nat} {fn : Func} {c : Code} {args : List AV} {bs : List (TypeId × List AL)} {rs : List Row} {K : Res → Option ρ} {x : Option ρ}
    (h : evC P G L c (start args bs rs fn.ntmps) (kF P N rn fn K) = x) : evF P G L N rn fn c args bs rs K = x := by
  rw [← h]
  unfold evF kF
  rfl
theorem kseq_eta (K : Kont ρ) : kseq (fun st => K .normal st) K = K := by
  funext e st
  cases e <;> rfl
theorem evC_cut : ∀ (n : Nat) (c : Code) (st : St) (K : Kont ρ), evC P G L c st K = evC P G L (preC n c) st (kseq (fun st' => evC P G L (sufC n c) st' K) K) := by
  intro n
  induction n with
  | zero =>
    intro c st K
    cases c
    case seq x y =>
      rfl
    all_goals (show evC P G L _ st K = evC P G L _ st (kseq (fun st' => evC P G L .skip st' K) K); congr 1; exact (kseq_eta K).symm)
  | succ n ih =>
    intro c st K
    cases c
    case seq x y =>
      show evC P G L x st _ = evC P G L x st _
      congr 1
      funext e st'
      cases e
      case normal => exact ih y st' K
      all_goals rfl
    all_goals (show evC P G L _ st K = evC P G L _ st (kseq (fun st' => evC P G L .skip st' K) K); congr 1; exact (kseq_eta K).symm)
end

inductive PK where
  | int (k : IntKind)
  | bool
  | str
  | undef
  | nil
  | i
  | row (s : Sh)
  | rowd (s : Sh)
def Cur : List PK → Type → Type
  | [], R => R
  | .int _ :: ks, R => Int → Cur ks R
  | .bool :: ks, R => Bool → Cur ks R
  | .str :: ks, R => ByteArray → Cur ks R
  | .undef :: ks, R => Cur ks R
  | .nil :: ks, R => Cur ks R
  | .rowd _ :: ks, R => Cur ks R
  | .i :: ks, R => Int → Cur ks R
  | .row s :: ks, R => List s.den → Cur ks R
def Args : List PK → Type
  | [] => Unit
  | .int _ :: ks => Int × Args ks
  | .bool :: ks => Bool × Args ks
  | .str :: ks => ByteArray × Args ks
  | .undef :: ks => Args ks
  | .nil :: ks => Args ks
  | .rowd _ :: ks => Args ks
  | .i :: ks => Int × Args ks
  | .row s :: ks => List s.den × Args ks
def unc {R : Type} : (ks : List PK) → Cur ks R → Args ks → R
  | [], f, _ => f
  | .int _ :: ks, f, a => unc ks (f a.1) a.2
  | .bool :: ks, f, a => unc ks (f a.1) a.2
  | .str :: ks, f, a => unc ks (f a.1) a.2
  | .undef :: ks, f, a => unc ks f a
  | .nil :: ks, f, a => unc ks f a
  | .rowd _ :: ks, f, a => unc ks f a
  | .i :: ks, f, a => unc ks (f a.1) a.2
  | .row _ :: ks, f, a => unc ks (f a.1) a.2
def curr {R : Type} : (ks : List PK) → (Args ks → R) → Cur ks R
  | [], f => f ()
  | .int _ :: ks, f => fun x => curr ks fun a => f (x, a)
  | .bool :: ks, f => fun x => curr ks fun a => f (x, a)
  | .str :: ks, f => fun x => curr ks fun a => f (x, a)
  | .undef :: ks, f => curr ks f
  | .nil :: ks, f => curr ks f
  | .rowd _ :: ks, f => curr ks f
  | .i :: ks, f => fun x => curr ks fun a => f (x, a)
  | .row _ :: ks, f => fun x => curr ks fun a => f (x, a)
def encP : (ks : List PK) → Args ks → List Prm
  | [], _ => []
  | .int k :: ks, a => .v (.int k a.1) :: encP ks a.2
  | .bool :: ks, a => .v (.bool a.1) :: encP ks a.2
  | .str :: ks, a => .v (.string a.1) :: encP ks a.2
  | .undef :: ks, a => .v undef :: encP ks a
  | .nil :: ks, a => .v (.slice none 0 0) :: encP ks a
  | .rowd s :: ks, a => .row s [] :: encP ks a
  | .i :: ks, a => .i a.1 :: encP ks a.2
  | .row s :: ks, a => .row s a.1 :: encP ks a.2
def isU : Value → Bool
  | .tuple ⟨[]⟩ => true
  | _ => false
def isN : Value → Bool
  | .slice none l c => Nat.beq l 0 && Nat.beq c 0
  | _ => false
theorem isU_eq {u : Value} (h : isU u = true) : u = undef := by
  unfold isU at h
  split at h
  · rfl
  · cases h
theorem isN_eq {u : Value} (h : isN u = true) : u = .slice none 0 0 := by
  unfold isN at h
  split at h
  · rename_i l c
    obtain ⟨h1, h2⟩ := Bool.and_eq_true_iff.1 h
    obtain rfl := Nat.eq_of_beq_eq_true h1
    obtain rfl := Nat.eq_of_beq_eq_true h2
    rfl
  · cases h
def decP : (ks : List PK) → List Prm → Option (Args ks)
  | [], ps =>
    match ps with
    | [] => some ()
    | _ :: _ => none
  | .int k :: ks, ps =>
    match ps with
    | .v (.int k' x) :: ps => if k = k' then (decP ks ps).map fun a => (x, a) else none
    | _ => none
  | .bool :: ks, ps =>
    match ps with
    | .v (.bool x) :: ps => (decP ks ps).map fun a => (x, a)
    | _ => none
  | .str :: ks, ps =>
    match ps with
    | .v (.string x) :: ps => (decP ks ps).map fun a => (x, a)
    | _ => none
  | .undef :: ks, ps =>
    match ps with
    | .v u :: ps => bif isU u then decP ks ps else none
    | _ => none
  | .nil :: ks, ps =>
    match ps with
    | .v u :: ps => bif isN u then decP ks ps else none
    | _ => none
  | .i :: ks, ps =>
    match ps with
    | .i x :: ps => (decP ks ps).map fun a => (x, a)
    | _ => none
  | .row s :: ks, ps =>
    match ps with
    | .row s' xs :: ps =>
      match rowAs ⟨0, s', xs, .dead⟩ s with
      | some ys => (decP ks ps).map fun a => (ys, a)
      | none => none
    | _ => none
  | .rowd s :: ks, ps =>
    match ps with
    | .row s' xs :: ps =>
      match rowAs ⟨0, s', xs, .dead⟩ s with
      | some [] => decP ks ps
      | _ => none
    | _ => none
theorem decP_some : ∀ {ks : List PK} {ps : List Prm} {a : Args ks}, decP ks ps = some a → ps = encP ks a := by
  intro ks
  induction ks with
  | nil =>
    intro ps a h
    cases ps with
    | nil => rfl
    | cons p ps => cases h
  | cons k ks ih =>
    intro ps a h
    cases k
    case int k =>
      unfold decP at h
      split at h
      · split at h
        · rename_i hk
          subst hk
          obtain ⟨b, hb, rfl⟩ := Option.map_eq_some_iff.1 h
          rw [ih hb]
          rfl
        · cases h
      · cases h
    case bool =>
      unfold decP at h
      split at h
      · obtain ⟨b, hb, rfl⟩ := Option.map_eq_some_iff.1 h
        rw [ih hb]
        rfl
      · cases h
    case str =>
      unfold decP at h
      split at h
      · obtain ⟨b, hb, rfl⟩ := Option.map_eq_some_iff.1 h
        rw [ih hb]
        rfl
      · cases h
    case undef =>
      unfold decP at h
      split at h
      · rename_i u ps0
        cases hu : isU u with
        | true =>
          rw [hu] at h
          rw [ih h, isU_eq hu]
          rfl
        | false =>
          rw [hu] at h
          cases h
      · cases h
    case nil =>
      unfold decP at h
      split at h
      · rename_i u ps0
        cases hu : isN u with
        | true =>
          rw [hu] at h
          rw [ih h, isN_eq hu]
          rfl
        | false =>
          rw [hu] at h
          cases h
      · cases h
    case i =>
      unfold decP at h
      split at h
      · obtain ⟨b, hb, rfl⟩ := Option.map_eq_some_iff.1 h
        rw [ih hb]
        rfl
      · cases h
    case row s =>
      unfold decP at h
      split at h
      · split at h
        · rename_i x0 s' xs ps0 o0 ys hys
          obtain ⟨b, hb, rfl⟩ := Option.map_eq_some_iff.1 h
          obtain ⟨hs, hx⟩ := rowAs_eq hys
          have hs' : s' = s := hs
          subst hs'
          subst hx
          rw [ih hb]
          rfl
        · cases h
      · cases h
    case rowd s =>
      unfold decP at h
      split at h
      · rename_i x0 s' xs ps0
        cases hys : rowAs ⟨0, s', xs, .dead⟩ s with
        | none => rw [hys] at h; cases h
        | some ys =>
          rw [hys] at h
          cases ys with
          | cons y ys => cases h
          | nil =>
            obtain ⟨hs, hx⟩ := rowAs_eq hys
            have hs' : s' = s := hs
            subst hs'
            have hx : [] = xs := hx
            subst hx
            rw [ih h]
            rfl
      · cases h
def emp : List PK → Bool
  | [] => true
  | .undef :: ks => emp ks
  | .nil :: ks => emp ks
  | .rowd _ :: ks => emp ks
  | .int _ :: _ => false
  | .bool :: _ => false
  | .str :: _ => false
  | .i :: _ => false
  | .row _ :: _ => false
def Two (b : Bool) (A B : Type) : Type :=
  match b with
  | true => A
  | false => A × B
def Tup : List PK → Type
  | [] => Unit
  | .int _ :: ks => Two (emp ks) Int (Tup ks)
  | .bool :: ks => Two (emp ks) Bool (Tup ks)
  | .str :: ks => Two (emp ks) ByteArray (Tup ks)
  | .undef :: ks => Tup ks
  | .nil :: ks => Tup ks
  | .rowd _ :: ks => Tup ks
  | .i :: ks => Two (emp ks) Int (Tup ks)
  | .row s :: ks => Two (emp ks) (List s.den) (Tup ks)
def two {A B : Type} : (b : Bool) → A → B → Two b A B
  | true, a, _ => a
  | false, a, b => (a, b)
def spl {A B : Type} : (b : Bool) → (b = true → B) → Two b A B → A × B
  | true, u, x => (x, u rfl)
  | false, _, x => x
theorem spl_two {A B : Type} : ∀ (b : Bool) (u : b = true → B) (a : A) (x : B), (∀ h : b = true, u h = x) → spl b u (two b a x) = (a, x)
  | true, u, a, x, h => by show (a, u rfl) = (a, x); rw [h rfl]
  | false, _, a, x, _ => rfl
def emA : (ks : List PK) → emp ks = true → Args ks
  | [], _ => ()
  | .undef :: ks, h => emA ks h
  | .nil :: ks, h => emA ks h
  | .rowd _ :: ks, h => emA ks h
  | .int _ :: _, h => by cases h
  | .bool :: _, h => by cases h
  | .str :: _, h => by cases h
  | .i :: _, h => by cases h
  | .row _ :: _, h => by cases h
theorem emA_eq : ∀ (ks : List PK) (h : emp ks = true) (a : Args ks), emA ks h = a
  | [], _, _ => rfl
  | .undef :: ks, h, a => emA_eq ks h a
  | .nil :: ks, h, a => emA_eq ks h a
  | .rowd _ :: ks, h, a => emA_eq ks h a
  | .int _ :: _, h, _ => by cases h
  | .bool :: _, h, _ => by cases h
  | .str :: _, h, _ => by cases h
  | .i :: _, h, _ => by cases h
  | .row _ :: _, h, _ => by cases h
def ofA : (ks : List PK) → Args ks → Tup ks
  | [], _ => ()
  | .int _ :: ks, a => two (emp ks) a.1 (ofA ks a.2)
  | .bool :: ks, a => two (emp ks) a.1 (ofA ks a.2)
  | .str :: ks, a => two (emp ks) a.1 (ofA ks a.2)
  | .undef :: ks, a => ofA ks a
  | .nil :: ks, a => ofA ks a
  | .rowd _ :: ks, a => ofA ks a
  | .i :: ks, a => two (emp ks) a.1 (ofA ks a.2)
  | .row _ :: ks, a => two (emp ks) a.1 (ofA ks a.2)
def toA : (ks : List PK) → Tup ks → Args ks
  | [], _ => ()
  | .int _ :: ks, x => ((spl (emp ks) (fun h => ofA ks (emA ks h)) x).1, toA ks (spl (emp ks) (fun h => ofA ks (emA ks h)) x).2)
  | .bool :: ks, x => ((spl (emp ks) (fun h => ofA ks (emA ks h)) x).1, toA ks (spl (emp ks) (fun h => ofA ks (emA ks h)) x).2)
  | .str :: ks, x => ((spl (emp ks) (fun h => ofA ks (emA ks h)) x).1, toA ks (spl (emp ks) (fun h => ofA ks (emA ks h)) x).2)
  | .undef :: ks, x => toA ks x
  | .nil :: ks, x => toA ks x
  | .rowd _ :: ks, x => toA ks x
  | .i :: ks, x => ((spl (emp ks) (fun h => ofA ks (emA ks h)) x).1, toA ks (spl (emp ks) (fun h => ofA ks (emA ks h)) x).2)
  | .row _ :: ks, x => ((spl (emp ks) (fun h => ofA ks (emA ks h)) x).1, toA ks (spl (emp ks) (fun h => ofA ks (emA ks h)) x).2)
theorem spl_of {A : Type} (ks : List PK) (x : A) (a : Args ks) : spl (emp ks) (fun h => ofA ks (emA ks h)) (two (emp ks) x (ofA ks a)) = (x, ofA ks a) := spl_two _ _ _ _ fun h => by rw [emA_eq ks h a]
theorem toA_ofA : ∀ (ks : List PK) (a : Args ks), toA ks (ofA ks a) = a
  | [], _ => rfl
  | .int _ :: ks, a => by
    show ((spl (emp ks) _ (two (emp ks) a.1 (ofA ks a.2))).1, toA ks (spl (emp ks) _ (two (emp ks) a.1 (ofA ks a.2))).2) = a
    rw [spl_of ks a.1 a.2, toA_ofA ks a.2]
    rfl
  | .bool :: ks, a => by
    show ((spl (emp ks) _ (two (emp ks) a.1 (ofA ks a.2))).1, toA ks (spl (emp ks) _ (two (emp ks) a.1 (ofA ks a.2))).2) = a
    rw [spl_of ks a.1 a.2, toA_ofA ks a.2]
    rfl
  | .str :: ks, a => by
    show ((spl (emp ks) _ (two (emp ks) a.1 (ofA ks a.2))).1, toA ks (spl (emp ks) _ (two (emp ks) a.1 (ofA ks a.2))).2) = a
    rw [spl_of ks a.1 a.2, toA_ofA ks a.2]
    rfl
  | .undef :: ks, a => toA_ofA ks a
  | .nil :: ks, a => toA_ofA ks a
  | .rowd _ :: ks, a => toA_ofA ks a
  | .i :: ks, a => by
    show ((spl (emp ks) _ (two (emp ks) a.1 (ofA ks a.2))).1, toA ks (spl (emp ks) _ (two (emp ks) a.1 (ofA ks a.2))).2) = a
    rw [spl_of ks a.1 a.2, toA_ofA ks a.2]
    rfl
  | .row _ :: ks, a => by
    show ((spl (emp ks) _ (two (emp ks) a.1 (ofA ks a.2))).1, toA ks (spl (emp ks) _ (two (emp ks) a.1 (ofA ks a.2))).2) = a
    rw [spl_of ks a.1 a.2, toA_ofA ks a.2]
    rfl
abbrev ho (n : Nat) (xs : List SL) : List SL := List.replicate n .hole ++ xs
abbrev ki (n : Nat) (xs : List PK) : List PK := List.replicate n (.int .i64) ++ xs
structure Sg where
  sk : Skel
  ks : List PK
  rsk : Skel
  rks : List PK
def resOf (rsk : Skel) (ps : List Prm) : Res :=
  match rsk.fl ps with
  | some st => ⟨(A1.uns st.tmps).getD [], st.boxes, st.rows⟩
  | none => ⟨[], [], []⟩
def eOf (s : Sg) (F : Cur s.ks (Option (Tup s.rks))) : Fun2 := fun args bs rs =>
  match s.sk.mt ⟨args, bs, rs⟩ with
  | none => none
  | some ps =>
    match decP s.ks ps with
    | none => none
    | some a => some ⟨Tup s.rks, unc s.ks F a, fun t => resOf s.rsk (encP s.rks (toA s.rks t))⟩
def kOf (s : Sg) (r : Res) : Option (Tup s.rks) :=
  match s.rsk.mt ⟨r.rets.map .s1, r.boxes, r.rows⟩ with
  | none => none
  | some ps => (decP s.rks ps).map (ofA s.rks)
theorem uns_s1 : ∀ xs : List A1, A1.uns (xs.map .s1) = some xs
  | [] => rfl
  | x :: xs => by
    show (match A1.un (.s1 x), A1.uns (xs.map .s1) with | some y, some ys => some (y :: ys) | _, _ => none) = _
    rw [uns_s1 xs]
    rfl
theorem kOf_some {s : Sg} {r : Res} {t : Tup s.rks} (h : kOf s r = some t) : r = resOf s.rsk (encP s.rks (toA s.rks t)) := by
  unfold kOf at h
  split at h
  · cases h
  · rename_i ps hps
    obtain ⟨a, ha, rfl⟩ := Option.map_eq_some_iff.1 h
    rw [toA_ofA, ← decP_some ha]
    unfold resOf
    rw [Skel.mt_fl hps]
    simp only [uns_s1, Option.getD_some]
section
variable {P : Program} {ρ : Type} {G : Env} {L : Nat → St → Kont ρ → Option ρ} {N : Nat × Nat}
noncomputable def evS (P : Program) {ρ : Type} (G : Env) (L : Nat → St → Kont ρ → Option ρ) (N : Nat × Nat) (rn : List Nat) (fn : Func) (c : Code) (K : Res → Option ρ) : Option St → Option ρ
  | some st => evF P G L N rn fn c st.tmps st.boxes st.rows K
  | none => none
theorem evS_cut {rn : List Nat} {fn : Func} {c : Code} {K : Res → Option ρ} {x : Option ρ} {o : Option St} {st : St} (h : o = some st) (h2 : evF P G L N rn fn c st.tmps st.boxes st.rows K = x) : evS P G L N rn fn c K o = x := by
  rw [h]
  exact h2
theorem good_gen {s : Sg} {F : Cur s.ks (Option (Tup s.rks))} {f : FuncId} {fn : Func} {c : Code} {rn : List Nat} {L : Nat → St → Kont (Tup s.rks) → Option (Tup s.rks)}
    (hG : ∀ f E, G f = some E → Good P f E.F) (hL : ∀ x ∈ loopsOf c, ∀ id, firstReg x = some id → LoopOk P N x (L id)) (hf : P.funcs[f]? = some fn) (hn : (fn.name == "runtime.NumGoroutine") = false) (hb : fn.body = some c)
    (hN : ∀ a : Args s.ks, (s.sk.fl (encP s.ks a)).map (fun st => (st.boxes.length, ownN st.rows)) = some N) (hev : ∀ a : Args s.ks, evS P G L N rn fn c (kOf s) (s.sk.fl (encP s.ks a)) = unc s.ks F a) : Good P f (eOf s F) := by
  refine evF_good hG hf hn hb N fun args bs rs out t h1 h2 => ?_
  unfold eOf at h1
  split at h1
  · cases h1
  · rename_i ps hps
    split at h1
    · cases h1
    · rename_i a ha
      injection h1 with h1
      subst h1
      have hfl := Skel.mt_fl hps
      rw [decP_some ha] at hfl
      have h3 := hN a
      have h4 := hev a
      rw [hfl] at h3 h4
      simp only [Option.map_some, Option.some.injEq] at h3
      exact ⟨h3, rn, L, kOf s, hL, fun res t' hk => kOf_some hk, h4.trans h2⟩
theorem good_zero {s : Sg} {F : Cur s.ks (Option (Tup s.rks))} {f : FuncId} {fn : Func} {c : Code} (hf : P.funcs[f]? = some fn) (hn : (fn.name == "runtime.NumGoroutine") = false) (hb : fn.body = some c) (h0 : ∀ a : Args s.ks, unc s.ks F a = none) : Good P f (eOf s F) := by
  refine evF_good (G := envNil) envNil_good hf hn hb (0, 0) fun args bs rs out t h1 h2 => ?_
  unfold eOf at h1
  split at h1
  · cases h1
  · split at h1
    · cases h1
    · rename_i a ha
      injection h1 with h1
      subst h1
      have h3 : unc s.ks F a = some t := h2
      rw [h0 a] at h3
      cases h3
theorem good_ext {s : Sg} {F : Cur s.ks (Option (Tup s.rks))} {f : FuncId} {fn : Func} (hf : P.funcs[f]? = some fn) (hn : (fn.name == "runtime.NumGoroutine") = false) (hb : fn.body.isNone = false)
    (h : ∀ (a : Args s.ks) (t : Tup s.rks) (st : St), s.sk.fl (encP s.ks a) = some st → unc s.ks F a = some t → ∀ (g : Gh) (w : World) (vals : List Value), g.w0 = w → Mem st.boxes st.rows g w → F2 (AV.R g) st.tmps vals →
      Calls P f vals.toArray w (Ends (st.boxes.length, ownN st.rows) (resOf s.rsk (encP s.rks (toA s.rks t))) g)) : Good P f (eOf s F) := by
  refine ⟨⟨fn, hf, hn, hb⟩, fun args bs rs out t h1 h2 g w vals hw hm hfull hin => ?_⟩
  unfold eOf at h1
  split at h1
  · cases h1
  · rename_i ps hps
    split at h1
    · cases h1
    · rename_i a ha
      injection h1 with h1
      subst h1
      have hfl := Skel.mt_fl hps
      rw [decP_some ha] at hfl
      exact h a t _ hfl h2 g w vals hw hm hin
theorem tab_is {P : Program} {name : String} {k : IntKind} {zs : List Int} {i : Nat} (hg : P.globalNamed name = some i) (ht : (i, isL (zs.map (Value.int k))) ∈ tabL) {g : Gh} {w : World} (h : Stab g w) : Lib.TabIs P w name k zs := by
  obtain ⟨cs, t, f, h0, h1⟩ := h.tab _ ht
  have h0 : cs = zs.map (Value.int k) := h0
  subst h0
  have h2 := h.fz h1
  unfold Lib.TabIs World.var?
  rw [hg, Option.bind_some, h2]
def exF (k : Kont ρ) (e : Ex) (sk : Skel) (ks : List PK) : Cur ks (Option ρ) := curr ks fun a =>
  match sk.fl (encP ks a) with
  | some st => k e st
  | none => none
def eL (ks : List PK) (F : Kont ρ → Cur ks (Option ρ)) (ps : List Prm) (k : Kont ρ) : Option ρ :=
  match decP ks ps with
  | some a => unc ks (F k) a
  | none => none
noncomputable def evL (P : Program) {ρ : Type} (G : Env) (L : Nat → St → Kont ρ → Option ρ) (c : Code) (K : Kont ρ) : Option St → Option ρ
  | some st => evC P G L c st K
  | none => none
theorem loop_gen {H : LoopH} {ks : List PK} {x : Code} {Fl : Nat → Kont ρ → Cur ks (Option ρ)} (hG : ∀ f E, G f = some E → Good P f E.F) (hL : ∀ y ∈ loopsOf x, ∀ id, firstReg y = some id → LoopOk P N y (L id))
    (h0 : ∀ (k : Kont ρ) (a : Args ks), unc ks (Fl 0 k) a = none)
    (hev : ∀ (m : Nat) (k : Kont ρ) (a : Args ks), evL P G L x (turn P N H (eL ks (Fl m)) k) (H.sk.fl (encP ks a)) = unc ks (Fl (m + 1) k) a) (m : Nat) : LoopOk P N x (enter P N H (eL ks (Fl m))) := by
  refine loop_ok (Fl := fun m => eL ks (Fl m)) hG hL (fun ps k => ?_) (fun n ps k r h => ?_) m
  · unfold eL
    split
    · exact h0 k _
    · rfl
  · unfold eL at h
    split at h
    · rename_i a ha
      rw [decP_some ha]
      have h1 := hev n k a
      rw [h] at h1
      unfold evL at h1
      split at h1
      · rename_i st hst
        exact ⟨st, hst, h1⟩
      · cases h1
    · cases h
theorem loop_genA {H : LoopH} {ks : List PK} {x : Code} {Fl : Nat → Kont ρ → Cur ks (Option ρ)} {A : St → Kont ρ → Option ρ} {M : Nat} (hA : LoopN P N x M A) (hG : ∀ f E, G f = some E → Good P f E.F) (hL : ∀ y ∈ loopsOf x, ∀ id, firstReg y = some id → LoopOk P N y (L id))
    (h0 : ∀ (k : Kont ρ) (a : Args ks), unc ks (Fl 0 k) a = none)
    (hev : ∀ (m : Nat) (k : Kont ρ) (a : Args ks), evL P G L x (turnA P N H (eL ks (Fl m)) A k) (H.sk.fl (encP ks a)) = unc ks (Fl (m + 1) k) a) (m : Nat) : LoopN P N x (m + M) (enterA P N H (eL ks (Fl m)) A) := by
  refine loop_okA (Fl := fun m => eL ks (Fl m)) hA hG hL (fun ps k => ?_) (fun n ps k r h => ?_) m
  · unfold eL
    split
    · exact h0 k _
    · rfl
  · unfold eL at h
    split at h
    · rename_i a ha
      rw [decP_some ha]
      have h1 := hev n k a
      rw [h] at h1
      unfold evL at h1
      split at h1
      · rename_i st hst
        exact ⟨st, hst, h1⟩
      · cases h1
    · cases h
end
end Go.Proofs.YtmbcnpbgcfiafaaGreat.Vm
