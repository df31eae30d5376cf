/-
  No cell of these rows narrows 'for every input' (looked for: loops, veiled, ifaces, maps, wideKeys, modest, calm, conditions, laid).
  DERIVED. THE GIVEN ROWS OF THIS SEAT. 6 by the template 'for every input the law returns true; each argument reads behind the call as it read before'; 0 by the template 'total and deterministic' (their statements: YtpfjklmobjjgpaaTotals.lean).
  GIVEN WITH THE SEED: the statements are not yours to turn. If you find one false, say at which input.
  Laid BY PROGRAM, IN A SANDBOX (cutbox-rows.mjs): the forced cells as the released guide's own fill.sh prints them over the translation 508c7d1e232f9eca… (all of the seat's roots in one cut). By AI agents, Wed Nov 11 2026. No macro, syntax, notation, axiom, sorry.
-/
import Derived.Test.YtpfjklmobjjgpaaChecked
import GoSem.Claim
import GoSem.ClaimJoined
import GoSem.ClaimMapViews
import Derived.JoinedTies
import Derived.KernelRfl
namespace Go.Proofs.Ytpfjklmobjjgpaa
/- THE CELL 'sum', in the pinned program and in every row, IS THE sha256 OF THE DUMP (.gsa) THAT YtpfjklmobjjgpaaProg.lean LOADS. Nothing in Lean hashes anything: it is a label: what it is worth is what the hold of that sum in a sandbox is worth. -/
noncomputable def Try.pinned : Pinned := { name := "ytpfjklmobjjgpaa", sum := "508c7d1e232f9eca5715cf82d1e1993c51c6359a952955f978639f9d508428db", checked := Try.checked }
namespace Rows
def none {H : Type} : Left H := { results := [], args := [] }

/-- 'laws.FnExactNumBytes': WHATEVER THE INPUT: true; the input reads as it did. -/
def fnExactNumBytesSpec : ChangeSpec := { name := "fnExactNumBytes", fn := fun _ => fun
  | [d] => { results := [.lit (.bool true)], args := [d] }
  | _ => none }
def fnExactNumBytesRow : OpenClaim := { program := "ytpfjklmobjjgpaa", sum := "508c7d1e232f9eca5715cf82d1e1993c51c6359a952955f978639f9d508428db", func := "loop.example/g00699/laws.FnExactNumBytes", spec := "fnExactNumBytes", apart := false }
def FnExactNumBytesSaid : Prop := fnExactNumBytesRow.holds Try.pinned (OpenSpec.ofChange fnExactNumBytesSpec)

/-- ITS FALSE NEIGHBOUR: 'it returns false'. Refute it at one input. -/
def fnExactNumBytesWrong : ChangeSpec := { name := "fnExactNumBytes", fn := fun _ => fun
  | [d] => { results := [.lit (.bool false)], args := [d] }
  | _ => none }
def FnExactNumBytesWrongFalsely : Prop := fnExactNumBytesRow.holds Try.pinned (OpenSpec.ofChange fnExactNumBytesWrong)

/-- 'laws.FnExactRecordOf': WHATEVER THE INPUT: true; the input reads as it did. -/
def fnExactRecordOfSpec : ChangeSpec := { name := "fnExactRecordOf", fn := fun _ => fun
  | [d] => { results := [.lit (.bool true)], args := [d] }
  | _ => none }
def fnExactRecordOfRow : OpenClaim := { program := "ytpfjklmobjjgpaa", sum := "508c7d1e232f9eca5715cf82d1e1993c51c6359a952955f978639f9d508428db", func := "loop.example/g00699/laws.FnExactRecordOf", spec := "fnExactRecordOf", apart := false }
def FnExactRecordOfSaid : Prop := fnExactRecordOfRow.holds Try.pinned (OpenSpec.ofChange fnExactRecordOfSpec)

/-- ITS FALSE NEIGHBOUR: 'it returns false'. Refute it at one input. -/
def fnExactRecordOfWrong : ChangeSpec := { name := "fnExactRecordOf", fn := fun _ => fun
  | [d] => { results := [.lit (.bool false)], args := [d] }
  | _ => none }
def FnExactRecordOfWrongFalsely : Prop := fnExactRecordOfRow.holds Try.pinned (OpenSpec.ofChange fnExactRecordOfWrong)

/-- 'laws.FnExactSlotsNew': WHATEVER THE INPUT: true; the input reads as it did. -/
def fnExactSlotsNewSpec : ChangeSpec := { name := "fnExactSlotsNew", fn := fun _ => fun
  | [] => { results := [.lit (.bool true)], args := [] }
  | _ => none }
def fnExactSlotsNewRow : OpenClaim := { program := "ytpfjklmobjjgpaa", sum := "508c7d1e232f9eca5715cf82d1e1993c51c6359a952955f978639f9d508428db", func := "loop.example/g00699/laws.FnExactSlotsNew", spec := "fnExactSlotsNew", apart := false }
def FnExactSlotsNewSaid : Prop := fnExactSlotsNewRow.holds Try.pinned (OpenSpec.ofChange fnExactSlotsNewSpec)

/-- ITS FALSE NEIGHBOUR: 'it returns false'. Refute it at one input. -/
def fnExactSlotsNewWrong : ChangeSpec := { name := "fnExactSlotsNew", fn := fun _ => fun
  | [] => { results := [.lit (.bool false)], args := [] }
  | _ => none }
def FnExactSlotsNewWrongFalsely : Prop := fnExactSlotsNewRow.holds Try.pinned (OpenSpec.ofChange fnExactSlotsNewWrong)

/-- 'laws.FnExactNumRead': WHATEVER THE INPUT: true; the input reads as it did. -/
def fnExactNumReadSpec : ChangeSpec := { name := "fnExactNumRead", fn := fun _ => fun
  | [d1, d2] => { results := [.lit (.bool true)], args := [d1, d2] }
  | _ => none }
def fnExactNumReadRow : OpenClaim := { program := "ytpfjklmobjjgpaa", sum := "508c7d1e232f9eca5715cf82d1e1993c51c6359a952955f978639f9d508428db", func := "loop.example/g00699/laws.FnExactNumRead", spec := "fnExactNumRead", apart := false }
def FnExactNumReadSaid : Prop := fnExactNumReadRow.holds Try.pinned (OpenSpec.ofChange fnExactNumReadSpec)

/-- ITS FALSE NEIGHBOUR: 'it returns false'. Refute it at one input. -/
def fnExactNumReadWrong : ChangeSpec := { name := "fnExactNumRead", fn := fun _ => fun
  | [d1, d2] => { results := [.lit (.bool false)], args := [d1, d2] }
  | _ => none }
def FnExactNumReadWrongFalsely : Prop := fnExactNumReadRow.holds Try.pinned (OpenSpec.ofChange fnExactNumReadWrong)

/-- 'laws.FnExactOpOk': WHATEVER THE INPUT: true; the input reads as it did. -/
def fnExactOpOkSpec : ChangeSpec := { name := "fnExactOpOk", fn := fun _ => fun
  | [d] => { results := [.lit (.bool true)], args := [d] }
  | _ => none }
def fnExactOpOkRow : OpenClaim := { program := "ytpfjklmobjjgpaa", sum := "508c7d1e232f9eca5715cf82d1e1993c51c6359a952955f978639f9d508428db", func := "loop.example/g00699/laws.FnExactOpOk", spec := "fnExactOpOk", apart := false }
def FnExactOpOkSaid : Prop := fnExactOpOkRow.holds Try.pinned (OpenSpec.ofChange fnExactOpOkSpec)

/-- ITS FALSE NEIGHBOUR: 'it returns false'. Refute it at one input. -/
def fnExactOpOkWrong : ChangeSpec := { name := "fnExactOpOk", fn := fun _ => fun
  | [d] => { results := [.lit (.bool false)], args := [d] }
  | _ => none }
def FnExactOpOkWrongFalsely : Prop := fnExactOpOkRow.holds Try.pinned (OpenSpec.ofChange fnExactOpOkWrong)

/-- 'laws.FnExactOpBytes': WHATEVER THE INPUT: true; the input reads as it did. -/
def fnExactOpBytesSpec : ChangeSpec := { name := "fnExactOpBytes", fn := fun _ => fun
  | [d] => { results := [.lit (.bool true)], args := [d] }
  | _ => none }
def fnExactOpBytesRow : OpenClaim := { program := "ytpfjklmobjjgpaa", sum := "508c7d1e232f9eca5715cf82d1e1993c51c6359a952955f978639f9d508428db", func := "loop.example/g00699/laws.FnExactOpBytes", spec := "fnExactOpBytes", apart := false }
def FnExactOpBytesSaid : Prop := fnExactOpBytesRow.holds Try.pinned (OpenSpec.ofChange fnExactOpBytesSpec)

/-- ITS FALSE NEIGHBOUR: 'it returns false'. Refute it at one input. -/
def fnExactOpBytesWrong : ChangeSpec := { name := "fnExactOpBytes", fn := fun _ => fun
  | [d] => { results := [.lit (.bool false)], args := [d] }
  | _ => none }
def FnExactOpBytesWrongFalsely : Prop := fnExactOpBytesRow.holds Try.pinned (OpenSpec.ofChange fnExactOpBytesWrong)

/- THE SECOND FORM. 'bulk': how many values and letters a reading holds, each counted each time it is reached (what is shared counts as often as it is met; a slice's spare places count too). A statement '..UptoSaid' is the law's where the arguments, and the package variables that the reading takes, are together of bulk at most 1048576: NARROWER than '..Said'. Prove '..Said' where nothing that the law and all that it calls make is longer than what came in: it says more and counts as full. Else prove '..UptoSaid'. A law counts once. -/
mutual
def uptoBulk {H : Type} : DataW H → Nat
  | .lit (.string bytes) => bytes.length + 1
  | .lit _ => 1
  | .nil => 1
  | .ptr d => uptoBulk d + 1
  | .slice elems spare => uptoBulkAll elems + uptoBulkAll spare + 1
  | .agg parts => uptoBulkAll parts + 1
  | .iface _ d => uptoBulk d + 1
  | .map entries => uptoBulkEntries entries + 1
  | .held _ => 1
def uptoBulkAll {H : Type} : List (DataW H) → Nat
  | [] => 0
  | d :: r => uptoBulk d + uptoBulkAll r
def uptoBulkEntries {H : Type} : List (Lit × DataW H) → Nat
  | [] => 0
  | x :: r => uptoBulkEntry x + uptoBulkEntries r
def uptoBulkEntry {H : Type} : Lit × DataW H → Nat
  | (.string bytes, d) => bytes.length + uptoBulk d + 1
  | (_, d) => uptoBulk d + 1
 end
def uptoSmall : (H : Type) → List (DataW H) → Bool := fun _ ds => decide (uptoBulkAll ds ≤ 1048576)
def OpenSpec.upto (s : _root_.Go.ChangeSpec) : _root_.Go.OpenSpec := { _root_.Go.OpenSpec.ofChange s with cond := some uptoSmall }

/-- 'laws.FnExactNumBytes', WHERE WHAT IT READS IS OF BULK AT MOST 1048576: true; the input reads as it did. -/
def fnExactNumBytesUptoRow : OpenClaim := { program := "ytpfjklmobjjgpaa", sum := "508c7d1e232f9eca5715cf82d1e1993c51c6359a952955f978639f9d508428db", func := "loop.example/g00699/laws.FnExactNumBytes", spec := "fnExactNumBytes", apart := false, narrowed := true }
def FnExactNumBytesUptoSaid : Prop := fnExactNumBytesUptoRow.holds Try.pinned (OpenSpec.upto fnExactNumBytesSpec)

/-- 'laws.FnExactRecordOf', WHERE WHAT IT READS IS OF BULK AT MOST 1048576: true; the input reads as it did. -/
def fnExactRecordOfUptoRow : OpenClaim := { program := "ytpfjklmobjjgpaa", sum := "508c7d1e232f9eca5715cf82d1e1993c51c6359a952955f978639f9d508428db", func := "loop.example/g00699/laws.FnExactRecordOf", spec := "fnExactRecordOf", apart := false, narrowed := true }
def FnExactRecordOfUptoSaid : Prop := fnExactRecordOfUptoRow.holds Try.pinned (OpenSpec.upto fnExactRecordOfSpec)

/-- 'laws.FnExactSlotsNew', WHERE WHAT IT READS IS OF BULK AT MOST 1048576: true; the input reads as it did. -/
def fnExactSlotsNewUptoRow : OpenClaim := { program := "ytpfjklmobjjgpaa", sum := "508c7d1e232f9eca5715cf82d1e1993c51c6359a952955f978639f9d508428db", func := "loop.example/g00699/laws.FnExactSlotsNew", spec := "fnExactSlotsNew", apart := false, narrowed := true }
def FnExactSlotsNewUptoSaid : Prop := fnExactSlotsNewUptoRow.holds Try.pinned (OpenSpec.upto fnExactSlotsNewSpec)

/-- 'laws.FnExactNumRead', WHERE WHAT IT READS IS OF BULK AT MOST 1048576: true; the input reads as it did. -/
def fnExactNumReadUptoRow : OpenClaim := { program := "ytpfjklmobjjgpaa", sum := "508c7d1e232f9eca5715cf82d1e1993c51c6359a952955f978639f9d508428db", func := "loop.example/g00699/laws.FnExactNumRead", spec := "fnExactNumRead", apart := false, narrowed := true }
def FnExactNumReadUptoSaid : Prop := fnExactNumReadUptoRow.holds Try.pinned (OpenSpec.upto fnExactNumReadSpec)

/-- 'laws.FnExactOpOk', WHERE WHAT IT READS IS OF BULK AT MOST 1048576: true; the input reads as it did. -/
def fnExactOpOkUptoRow : OpenClaim := { program := "ytpfjklmobjjgpaa", sum := "508c7d1e232f9eca5715cf82d1e1993c51c6359a952955f978639f9d508428db", func := "loop.example/g00699/laws.FnExactOpOk", spec := "fnExactOpOk", apart := false, narrowed := true }
def FnExactOpOkUptoSaid : Prop := fnExactOpOkUptoRow.holds Try.pinned (OpenSpec.upto fnExactOpOkSpec)

/-- 'laws.FnExactOpBytes', WHERE WHAT IT READS IS OF BULK AT MOST 1048576: true; the input reads as it did. -/
def fnExactOpBytesUptoRow : OpenClaim := { program := "ytpfjklmobjjgpaa", sum := "508c7d1e232f9eca5715cf82d1e1993c51c6359a952955f978639f9d508428db", func := "loop.example/g00699/laws.FnExactOpBytes", spec := "fnExactOpBytes", apart := false, narrowed := true }
def FnExactOpBytesUptoSaid : Prop := fnExactOpBytesUptoRow.holds Try.pinned (OpenSpec.upto fnExactOpBytesSpec)

end Rows
end Go.Proofs.Ytpfjklmobjjgpaa
