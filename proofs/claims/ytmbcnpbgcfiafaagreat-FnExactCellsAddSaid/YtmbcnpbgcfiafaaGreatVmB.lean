/- A walk by reckoning, second part: the operations on scalars, on the call's own structs, on rows that are read. -/
import Derived.Test.YtmbcnpbgcfiafaaGreatVmA
namespace Go.Proofs.YtmbcnpbgcfiafaaGreat.Vm
open Go Go.RowKit Go.Proofs.YtmbcnpbgcfiafaaGreatW.PrintWords
set_option linter.unusedVariables false
set_option linter.unusedSimpArgs false

inductive R1 where
  | sc (v : Value)
  | row (e : TypeId) (s : Sh) (xs : List s.den)
inductive RV where
  | one (x : R1)
  | agg (xs : List R1)

section
variable (P : Program)
def isAggT (t : TypeId) : Bool :=
  match P.underlying t with
  | some (.struct _) => true
  | some (.array _ _) => true
  | _ => false
end
def St.get (st : St) (t : Tmp) : AV := st.tmps.getD t (.s1 (.one .unk))
def St.put (st : St) (dst : Option Tmp) (x : AV) : St :=
  match dst with
  | some d => { st with tmps := st.tmps.set d x }
  | none => st
def constA : Value → AV
  | .agg cs => .s1 (.agg (cs.toList.map .val))
  | v => .s1 (.one (.val v))
def St.eval (st : St) : Operand → AV
  | .tmp t => st.get t
  | .const v => constA v
  | .func f => .s1 (.one (.fn f []))
  | .global _ => .s1 (.one .unk)
inductive Lv where
  | sc (v : Value)
  | row (e : TypeId) (s : Sh) (xs : List s.den)
  | ror (e : TypeId) (s : Sh) (xs : List s.den)
  | hor (h : HD) (e : TypeId) (s : Sh) (xs : List s.den)
def Sh.leaf : (s : Sh) → s.den → Nat → Option Lv
  | .int k, x, 0 => some (.sc (.int k x))
  | .bool, x, 0 => some (.sc (.bool x))
  | .str, x, 0 => some (.sc (.string x))
  | .sl e s, x, 0 => some (.row e s x)
  | .rs e s, x, 0 => some (.ror e s x)
  | .hr e s, x, 0 => some (.hor x.1 e s x.2)
  | .hv, x, 0 => some (.sc x.v)
  | .pair a b, x, o => if o < a.sz then a.leaf x.1 o else b.leaf x.2 (o - a.sz)
  | _, _, _ + 1 => none
def Row.at_ (row : Row) (i : Int) : row.s.den := row.xs.getD i.toNat row.s.dflt
def Md.child (r sz i : Nat) : Md → Option (Nat → Md)
  | .ro => some fun _ => .ro
  | .rop => some fun _ => .ro
  | .roh _ => some fun _ => .ro
  | .own => some fun o => .sub r sz i o
  | .brw q => some fun _ => .brw q
  | .sub q _ _ _ => some fun _ => .brw q
  | .dead => none
def St.lv (st : St) (cm : Md) : Lv → AL × St
  | .sc v => (.val v, st)
  | .row e s xs => (.sl st.rows.length, { st with rows := st.rows ++ [⟨e, s, xs, cm⟩] })
  | .ror e s xs => (.sl st.rows.length, { st with rows := st.rows ++ [⟨e, s, xs, .ro⟩] })
  | .hor h e s xs => (.sl st.rows.length, { st with rows := st.rows ++ [⟨e, s, xs, .roh h⟩] })
def St.lvs (st : St) (cm : Nat → Md) (s : Sh) (x : s.den) (off : Nat) : Nat → Option (List AL × St)
  | 0 => some ([], st)
  | n + 1 =>
    match s.leaf x off with
    | none => none
    | some l =>
      match (st.lv (cm off) l).2.lvs cm s x (off + 1) n with
      | none => none
      | some (ys, st2) => some ((st.lv (cm off) l).1 :: ys, st2)

open Classical in
noncomputable def same {ρ : Type} (x y : Option ρ) : Option ρ := if x = y then x else none
noncomputable def dup {ρ : Type} (x : Option ρ) : Option ρ := same x x
theorem same_self {ρ : Type} (x : Option ρ) : same x x = x := by unfold same; rw [if_pos rfl]
theorem dup_eq {ρ : Type} (x : Option ρ) : dup x = x := same_self x
theorem same_some {ρ : Type} {x y : Option ρ} {r : ρ} (h : same x y = some r) : x = some r ∧ y = some r := by
  unfold same at h
  split at h
  · rename_i e
    exact ⟨h, e ▸ h⟩
  · cases h
noncomputable def nilA {ρ : Type} (P : Program) (st : St) (r : Nat) (op : BinOp) (xT : TypeId) (k : Value → Option ρ) : Option ρ :=
  match P.underlying xT, st.rows[r]? with
  | some (.slice _), some row =>
    match row.md with
    | .dead => none
    | _ =>
      match op with
      | .eql => cond (decide (row.xs.length = 0)) (same (k (.bool true)) (k (.bool false))) (k (.bool false))
      | .neq => cond (decide (row.xs.length = 0)) (same (k (.bool true)) (k (.bool false))) (k (.bool true))
      | _ => none
  | _, _ => none
section
variable {ρ : Type}
def binA (op : BinOp) (x y : Value) (k : Value → Option ρ) : Option ρ :=
  match x, y with
  | .int ka a, .int kb b =>
    match op with
    | .shl => cond (decide (0 ≤ b)) (k (.int ka (ka.wrap (a * 2 ^ min b.toNat ka.bits)))) none
    | .shr => cond (decide (0 ≤ b)) (k (.int ka (a.fdiv (2 ^ min b.toNat ka.bits)))) none
    | .add => if ka = kb then k (.int ka (ka.wrap (a + b))) else none
    | .sub => if ka = kb then k (.int ka (ka.wrap (a - b))) else none
    | .mul => if ka = kb then k (.int ka (ka.wrap (a * b))) else none
    | .quo => if ka = kb then cond (decide (b = 0)) none (k (.int ka (ka.wrap (a.tdiv b)))) else none
    | .rem => if ka = kb then cond (decide (b = 0)) none (k (.int ka (a.tmod b))) else none
    | .and => if ka = kb then k (.int ka (Go.bits .and ka a b)) else none
    | .or => if ka = kb then k (.int ka (Go.bits .or ka a b)) else none
    | .xor => if ka = kb then k (.int ka (Go.bits .xor ka a b)) else none
    | .eql => if ka = kb then k (.bool (a == b)) else none
    | .neq => if ka = kb then k (.bool (a != b)) else none
    | .lss => if ka = kb then k (.bool (decide (a < b))) else none
    | .leq => if ka = kb then k (.bool (decide (a ≤ b))) else none
    | .gtr => if ka = kb then k (.bool (decide (b < a))) else none
    | .geq => if ka = kb then k (.bool (decide (b ≤ a))) else none
    | _ => none
  | .string a, .string b =>
    match op with
    | .eql => k (.bool (a.toList == b.toList))
    | .neq => k (.bool (!(a.toList == b.toList)))
    | .add => cond (decide (((a.size + b.size : Nat) : Int) ≤ IntKind.i64.max)) (k (.string (a ++ b))) none
    | _ => none
  | _, _ => none
theorem binA_run {P : Program} {op : BinOp} {xT : TypeId} {ox oy : Operand} {x y : Value} {k : Value → Option ρ} {r : ρ} (h : binA op x y k = some r) :
    ∃ v, k v = some r ∧ ∀ w, (do eqGuard op xT ox oy x y; binOp op xT x y : Sem Value).run P w = .ok v w := by
  unfold binA at h
  split at h
  · rename_i ka a kb b
    have hg : ∀ w, (eqGuard op xT ox oy (.int ka a) (.int kb b)).run P w = .ok () w := by
      intro w
      unfold eqGuard
      cases op <;> rfl
    have hb : ∀ {c : Bool} {x : Option ρ}, cond c x none = some r → c = true ∧ x = some r := by intro c x hc; cases c <;> simp_all
    have hb2 : ∀ {c : Bool} {x : Option ρ}, cond c none x = some r → c = false ∧ x = some r := by intro c x hc; cases c <;> simp_all
    split at h
    · obtain ⟨hc, h⟩ := hb h
      refine ⟨_, h, fun w => ?_⟩
      simp only [Sem.run_bind, hg, Result.andThen_ok]
      have : ¬ b < 0 := by simp at hc; omega
      simp [binOp, Op.shift, this]
    · obtain ⟨hc, h⟩ := hb h
      refine ⟨_, h, fun w => ?_⟩
      simp only [Sem.run_bind, hg, Result.andThen_ok]
      have : ¬ b < 0 := by simp at hc; omega
      simp [binOp, Op.shift, this]
    all_goals first
      | (cases h; done)
      | (split at h
         · rename_i hk
           subst hk
           first
             | (refine ⟨_, h, fun w => ?_⟩
                simp only [Sem.run_bind, hg, Result.andThen_ok]
                first
                  | (simp [binOp, Op.intArith]; done)
                  | (simp [binOp, Op.intCmp]; done)
                  | (simp [binOp, Op.intBits, Go.bits]; done))
             | (obtain ⟨hc, h⟩ := hb2 h
                refine ⟨_, h, fun w => ?_⟩
                simp only [Sem.run_bind, hg, Result.andThen_ok]
                have : ¬ b = 0 := by simpa using hc
                simp [binOp, Op.intDiv, this])
         · cases h)
  · rename_i a b
    have hg : ∀ w, (eqGuard op xT ox oy (.string a) (.string b)).run P w = .ok () w := by
      intro w
      unfold eqGuard
      cases op <;> rfl
    have hb : ∀ {c : Bool} {x : Option ρ}, cond c x none = some r → c = true ∧ x = some r := by intro c x hc; cases c <;> simp_all
    split at h
    · exact ⟨_, h, fun w => by simp only [Sem.run_bind, hg, Result.andThen_ok]; simp [binOp, Op.stringOp]⟩
    · exact ⟨_, h, fun w => by simp only [Sem.run_bind, hg, Result.andThen_ok]; simp [binOp, Op.stringOp]⟩
    · obtain ⟨hc, h⟩ := hb h
      refine ⟨_, h, fun w => ?_⟩
      simp only [Sem.run_bind, hg, Result.andThen_ok]
      have : ¬ (((a.size + b.size : Nat) : Int) > IntKind.i64.max) := by have := of_decide_eq_true hc; omega
      simp only [binOp, Op.stringOp, if_neg this]
      rfl
    · cases h
  · cases h
def unA (op : UnOp) (x : Value) (k : Value → Option ρ) : Option ρ :=
  match op, x with
  | .not, .bool b => k (.bool (!b))
  | .neg, .int ka a => k (.int ka (ka.wrap (0 - a)))
  | .xor, .int ka a => k (.int ka (Go.bits .xor ka (if ka.signed then -1 else ka.max) a))
  | _, _ => none
theorem unA_run {P : Program} {op : UnOp} {x : Value} {k : Value → Option ρ} {r : ρ} (h : unA op x k = some r) : ∃ v, k v = some r ∧ ∀ w, (Op.unary op x).run P w = .ok v w := by
  unfold unA at h
  split at h
  · exact ⟨_, h, fun w => by simp [Op.unary]⟩
  · exact ⟨_, h, fun w => by simp [Op.unary, Op.intArith]⟩
  · exact ⟨_, h, fun w => by simp [Op.unary, Op.intBits, Go.bits]⟩
  · cases h
end
end Go.Proofs.YtmbcnpbgcfiafaaGreat.Vm
