/-
  No cell of these rows narrows 'for every input' (looked for: loops, veiled, ifaces, maps, wideKeys, modest, calm, conditions, laid).
  DERIVED. THE GIVEN ROWS OF THIS SEAT. 10 by the template 'for every input the law returns true; each argument reads behind the call as it read before'; 0 by the template 'total and deterministic' (their statements: YtflagchmcnfigaaTotals.lean).
  GIVEN WITH THE SEED: the statements are not yours to turn. If you find one false, say at which input.
  Laid BY PROGRAM, IN A SANDBOX (cutbox-rows.mjs): the forced cells as the released guide's own fill.sh prints them over the translation 65224f7fa82d16ee… (all of the seat's roots in one cut). By AI agents, Wed Nov 11 2026. No macro, syntax, notation, axiom, sorry.
-/
import Derived.Test.YtflagchmcnfigaaChecked
import GoSem.Claim
import GoSem.ClaimJoined
import GoSem.ClaimMapViews
import Derived.JoinedTies
import Derived.KernelRfl
namespace Go.Proofs.Ytflagchmcnfigaa
/- THE CELL 'sum', in the pinned program and in every row, IS THE sha256 OF THE DUMP (.gsa) THAT YtflagchmcnfigaaProg.lean LOADS. Nothing in Lean hashes anything: it is a label: what it is worth is what the hold of that sum in a sandbox is worth. -/
noncomputable def Try.pinned : Pinned := { name := "ytflagchmcnfigaa", sum := "65224f7fa82d16ee9967e42c48b23091dd5be4290ea114de86664947b0e1f078", checked := Try.checked }
namespace Rows
def none {H : Type} : Left H := { results := [], args := [] }

/-- 'laws.FnExactQueryOk': WHATEVER THE INPUT: true; the input reads as it did. -/
def fnExactQueryOkSpec : ChangeSpec := { name := "fnExactQueryOk", fn := fun _ => fun
  | [d] => { results := [.lit (.bool true)], args := [d] }
  | _ => none }
def fnExactQueryOkRow : OpenClaim := { program := "ytflagchmcnfigaa", sum := "65224f7fa82d16ee9967e42c48b23091dd5be4290ea114de86664947b0e1f078", func := "loop.example/g00699/laws.FnExactQueryOk", spec := "fnExactQueryOk", apart := false }
def FnExactQueryOkSaid : Prop := fnExactQueryOkRow.holds Try.pinned (OpenSpec.ofChange fnExactQueryOkSpec)

/-- ITS FALSE NEIGHBOUR: 'it returns false'. Refute it at one input. -/
def fnExactQueryOkWrong : ChangeSpec := { name := "fnExactQueryOk", fn := fun _ => fun
  | [d] => { results := [.lit (.bool false)], args := [d] }
  | _ => none }
def FnExactQueryOkWrongFalsely : Prop := fnExactQueryOkRow.holds Try.pinned (OpenSpec.ofChange fnExactQueryOkWrong)

/-- 'laws.FnExactOpRead': WHATEVER THE INPUT: true; the input reads as it did. -/
def fnExactOpReadSpec : ChangeSpec := { name := "fnExactOpRead", fn := fun _ => fun
  | [d] => { results := [.lit (.bool true)], args := [d] }
  | _ => none }
def fnExactOpReadRow : OpenClaim := { program := "ytflagchmcnfigaa", sum := "65224f7fa82d16ee9967e42c48b23091dd5be4290ea114de86664947b0e1f078", func := "loop.example/g00699/laws.FnExactOpRead", spec := "fnExactOpRead", apart := false }
def FnExactOpReadSaid : Prop := fnExactOpReadRow.holds Try.pinned (OpenSpec.ofChange fnExactOpReadSpec)

/-- ITS FALSE NEIGHBOUR: 'it returns false'. Refute it at one input. -/
def fnExactOpReadWrong : ChangeSpec := { name := "fnExactOpRead", fn := fun _ => fun
  | [d] => { results := [.lit (.bool false)], args := [d] }
  | _ => none }
def FnExactOpReadWrongFalsely : Prop := fnExactOpReadRow.holds Try.pinned (OpenSpec.ofChange fnExactOpReadWrong)

/-- 'laws.FnExactBoxNew': WHATEVER THE INPUT: true; the input reads as it did. -/
def fnExactBoxNewSpec : ChangeSpec := { name := "fnExactBoxNew", fn := fun _ => fun
  | [d1, d2] => { results := [.lit (.bool true)], args := [d1, d2] }
  | _ => none }
def fnExactBoxNewRow : OpenClaim := { program := "ytflagchmcnfigaa", sum := "65224f7fa82d16ee9967e42c48b23091dd5be4290ea114de86664947b0e1f078", func := "loop.example/g00699/laws.FnExactBoxNew", spec := "fnExactBoxNew", apart := false }
def FnExactBoxNewSaid : Prop := fnExactBoxNewRow.holds Try.pinned (OpenSpec.ofChange fnExactBoxNewSpec)

/-- ITS FALSE NEIGHBOUR: 'it returns false'. Refute it at one input. -/
def fnExactBoxNewWrong : ChangeSpec := { name := "fnExactBoxNew", fn := fun _ => fun
  | [d1, d2] => { results := [.lit (.bool false)], args := [d1, d2] }
  | _ => none }
def FnExactBoxNewWrongFalsely : Prop := fnExactBoxNewRow.holds Try.pinned (OpenSpec.ofChange fnExactBoxNewWrong)

/-- 'laws.FnExactBoxOk': WHATEVER THE INPUT: true; the input reads as it did. -/
def fnExactBoxOkSpec : ChangeSpec := { name := "fnExactBoxOk", fn := fun _ => fun
  | [d] => { results := [.lit (.bool true)], args := [d] }
  | _ => none }
def fnExactBoxOkRow : OpenClaim := { program := "ytflagchmcnfigaa", sum := "65224f7fa82d16ee9967e42c48b23091dd5be4290ea114de86664947b0e1f078", func := "loop.example/g00699/laws.FnExactBoxOk", spec := "fnExactBoxOk", apart := false }
def FnExactBoxOkSaid : Prop := fnExactBoxOkRow.holds Try.pinned (OpenSpec.ofChange fnExactBoxOkSpec)

/-- ITS FALSE NEIGHBOUR: 'it returns false'. Refute it at one input. -/
def fnExactBoxOkWrong : ChangeSpec := { name := "fnExactBoxOk", fn := fun _ => fun
  | [d] => { results := [.lit (.bool false)], args := [d] }
  | _ => none }
def FnExactBoxOkWrongFalsely : Prop := fnExactBoxOkRow.holds Try.pinned (OpenSpec.ofChange fnExactBoxOkWrong)

/-- 'laws.FnExactLogOf': WHATEVER THE INPUT: true; the input reads as it did. -/
def fnExactLogOfSpec : ChangeSpec := { name := "fnExactLogOf", fn := fun _ => fun
  | [d] => { results := [.lit (.bool true)], args := [d] }
  | _ => none }
def fnExactLogOfRow : OpenClaim := { program := "ytflagchmcnfigaa", sum := "65224f7fa82d16ee9967e42c48b23091dd5be4290ea114de86664947b0e1f078", func := "loop.example/g00699/laws.FnExactLogOf", spec := "fnExactLogOf", apart := false }
def FnExactLogOfSaid : Prop := fnExactLogOfRow.holds Try.pinned (OpenSpec.ofChange fnExactLogOfSpec)

/-- ITS FALSE NEIGHBOUR: 'it returns false'. Refute it at one input. -/
def fnExactLogOfWrong : ChangeSpec := { name := "fnExactLogOf", fn := fun _ => fun
  | [d] => { results := [.lit (.bool false)], args := [d] }
  | _ => none }
def FnExactLogOfWrongFalsely : Prop := fnExactLogOfRow.holds Try.pinned (OpenSpec.ofChange fnExactLogOfWrong)

/-- 'laws.FnExactCellOk': WHATEVER THE INPUT: true; the input reads as it did. -/
def fnExactCellOkSpec : ChangeSpec := { name := "fnExactCellOk", fn := fun _ => fun
  | [d] => { results := [.lit (.bool true)], args := [d] }
  | _ => none }
def fnExactCellOkRow : OpenClaim := { program := "ytflagchmcnfigaa", sum := "65224f7fa82d16ee9967e42c48b23091dd5be4290ea114de86664947b0e1f078", func := "loop.example/g00699/laws.FnExactCellOk", spec := "fnExactCellOk", inPlace := ["math/bits.Add64"], apart := false }
def FnExactCellOkSaid : Prop := fnExactCellOkRow.holds Try.pinned (OpenSpec.ofChange fnExactCellOkSpec)

/-- ITS FALSE NEIGHBOUR: 'it returns false'. Refute it at one input. -/
def fnExactCellOkWrong : ChangeSpec := { name := "fnExactCellOk", fn := fun _ => fun
  | [d] => { results := [.lit (.bool false)], args := [d] }
  | _ => none }
def FnExactCellOkWrongFalsely : Prop := fnExactCellOkRow.holds Try.pinned (OpenSpec.ofChange fnExactCellOkWrong)

/-- 'laws.FnExactPanesSort': WHATEVER THE INPUT: true; the input reads as it did. -/
def fnExactPanesSortSpec : ChangeSpec := { name := "fnExactPanesSort", fn := fun _ => fun
  | [d] => { results := [.lit (.bool true)], args := [d] }
  | _ => none }
def fnExactPanesSortRow : OpenClaim := { program := "ytflagchmcnfigaa", sum := "65224f7fa82d16ee9967e42c48b23091dd5be4290ea114de86664947b0e1f078", func := "loop.example/g00699/laws.FnExactPanesSort", spec := "fnExactPanesSort", unfollowed := true, recurses := true, apart := false }
def FnExactPanesSortSaid : Prop := fnExactPanesSortRow.holds Try.pinned (OpenSpec.ofChange fnExactPanesSortSpec)

/-- ITS FALSE NEIGHBOUR: 'it returns false'. Refute it at one input. -/
def fnExactPanesSortWrong : ChangeSpec := { name := "fnExactPanesSort", fn := fun _ => fun
  | [d] => { results := [.lit (.bool false)], args := [d] }
  | _ => none }
def FnExactPanesSortWrongFalsely : Prop := fnExactPanesSortRow.holds Try.pinned (OpenSpec.ofChange fnExactPanesSortWrong)

/-- 'laws.FnExactLogRead': WHATEVER THE INPUT: true; the input reads as it did. -/
def fnExactLogReadSpec : ChangeSpec := { name := "fnExactLogRead", fn := fun _ => fun
  | [d] => { results := [.lit (.bool true)], args := [d] }
  | _ => none }
def fnExactLogReadRow : OpenClaim := { program := "ytflagchmcnfigaa", sum := "65224f7fa82d16ee9967e42c48b23091dd5be4290ea114de86664947b0e1f078", func := "loop.example/g00699/laws.FnExactLogRead", spec := "fnExactLogRead", apart := false }
def FnExactLogReadSaid : Prop := fnExactLogReadRow.holds Try.pinned (OpenSpec.ofChange fnExactLogReadSpec)

/-- ITS FALSE NEIGHBOUR: 'it returns false'. Refute it at one input. -/
def fnExactLogReadWrong : ChangeSpec := { name := "fnExactLogRead", fn := fun _ => fun
  | [d] => { results := [.lit (.bool false)], args := [d] }
  | _ => none }
def FnExactLogReadWrongFalsely : Prop := fnExactLogReadRow.holds Try.pinned (OpenSpec.ofChange fnExactLogReadWrong)

/-- 'laws.FnExactCellsOk': WHATEVER THE INPUT: true; the input reads as it did. -/
def fnExactCellsOkSpec : ChangeSpec := { name := "fnExactCellsOk", fn := fun _ => fun
  | [d] => { results := [.lit (.bool true)], args := [d] }
  | _ => none }
def fnExactCellsOkRow : OpenClaim := { program := "ytflagchmcnfigaa", sum := "65224f7fa82d16ee9967e42c48b23091dd5be4290ea114de86664947b0e1f078", func := "loop.example/g00699/laws.FnExactCellsOk", spec := "fnExactCellsOk", inPlace := ["math/bits.Add64"], apart := false }
def FnExactCellsOkSaid : Prop := fnExactCellsOkRow.holds Try.pinned (OpenSpec.ofChange fnExactCellsOkSpec)

/-- ITS FALSE NEIGHBOUR: 'it returns false'. Refute it at one input. -/
def fnExactCellsOkWrong : ChangeSpec := { name := "fnExactCellsOk", fn := fun _ => fun
  | [d] => { results := [.lit (.bool false)], args := [d] }
  | _ => none }
def FnExactCellsOkWrongFalsely : Prop := fnExactCellsOkRow.holds Try.pinned (OpenSpec.ofChange fnExactCellsOkWrong)

/-- 'laws.FnExactQueryTake': WHATEVER THE INPUT: true; the input reads as it did. -/
def fnExactQueryTakeSpec : ChangeSpec := { name := "fnExactQueryTake", fn := fun _ => fun
  | [d1, d2] => { results := [.lit (.bool true)], args := [d1, d2] }
  | _ => none }
def fnExactQueryTakeRow : OpenClaim := { program := "ytflagchmcnfigaa", sum := "65224f7fa82d16ee9967e42c48b23091dd5be4290ea114de86664947b0e1f078", func := "loop.example/g00699/laws.FnExactQueryTake", spec := "fnExactQueryTake", apart := false }
def FnExactQueryTakeSaid : Prop := fnExactQueryTakeRow.holds Try.pinned (OpenSpec.ofChange fnExactQueryTakeSpec)

/-- ITS FALSE NEIGHBOUR: 'it returns false'. Refute it at one input. -/
def fnExactQueryTakeWrong : ChangeSpec := { name := "fnExactQueryTake", fn := fun _ => fun
  | [d1, d2] => { results := [.lit (.bool false)], args := [d1, d2] }
  | _ => none }
def FnExactQueryTakeWrongFalsely : Prop := fnExactQueryTakeRow.holds Try.pinned (OpenSpec.ofChange fnExactQueryTakeWrong)

/- THE SECOND FORM. 'bulk': how many values and letters a reading holds, each counted each time it is reached (what is shared counts as often as it is met; a slice's spare places count too). A statement '..UptoSaid' is the law's where the arguments, and the package variables that the reading takes, are together of bulk at most 1048576: NARROWER than '..Said'. Prove '..Said' where nothing that the law and all that it calls make is longer than what came in: it says more and counts as full. Else prove '..UptoSaid'. A law counts once. -/
mutual
def uptoBulk {H : Type} : DataW H → Nat
  | .lit (.string bytes) => bytes.length + 1
  | .lit _ => 1
  | .nil => 1
  | .ptr d => uptoBulk d + 1
  | .slice elems spare => uptoBulkAll elems + uptoBulkAll spare + 1
  | .agg parts => uptoBulkAll parts + 1
  | .iface _ d => uptoBulk d + 1
  | .map entries => uptoBulkEntries entries + 1
  | .held _ => 1
def uptoBulkAll {H : Type} : List (DataW H) → Nat
  | [] => 0
  | d :: r => uptoBulk d + uptoBulkAll r
def uptoBulkEntries {H : Type} : List (Lit × DataW H) → Nat
  | [] => 0
  | x :: r => uptoBulkEntry x + uptoBulkEntries r
def uptoBulkEntry {H : Type} : Lit × DataW H → Nat
  | (.string bytes, d) => bytes.length + uptoBulk d + 1
  | (_, d) => uptoBulk d + 1
 end
def uptoSmall : (H : Type) → List (DataW H) → Bool := fun _ ds => decide (uptoBulkAll ds ≤ 1048576)
def OpenSpec.upto (s : _root_.Go.ChangeSpec) : _root_.Go.OpenSpec := { _root_.Go.OpenSpec.ofChange s with cond := some uptoSmall }

/-- 'laws.FnExactQueryOk', WHERE WHAT IT READS IS OF BULK AT MOST 1048576: true; the input reads as it did. -/
def fnExactQueryOkUptoRow : OpenClaim := { program := "ytflagchmcnfigaa", sum := "65224f7fa82d16ee9967e42c48b23091dd5be4290ea114de86664947b0e1f078", func := "loop.example/g00699/laws.FnExactQueryOk", spec := "fnExactQueryOk", apart := false, narrowed := true }
def FnExactQueryOkUptoSaid : Prop := fnExactQueryOkUptoRow.holds Try.pinned (OpenSpec.upto fnExactQueryOkSpec)

/-- 'laws.FnExactOpRead', WHERE WHAT IT READS IS OF BULK AT MOST 1048576: true; the input reads as it did. -/
def fnExactOpReadUptoRow : OpenClaim := { program := "ytflagchmcnfigaa", sum := "65224f7fa82d16ee9967e42c48b23091dd5be4290ea114de86664947b0e1f078", func := "loop.example/g00699/laws.FnExactOpRead", spec := "fnExactOpRead", apart := false, narrowed := true }
def FnExactOpReadUptoSaid : Prop := fnExactOpReadUptoRow.holds Try.pinned (OpenSpec.upto fnExactOpReadSpec)

/-- 'laws.FnExactBoxNew', WHERE WHAT IT READS IS OF BULK AT MOST 1048576: true; the input reads as it did. -/
def fnExactBoxNewUptoRow : OpenClaim := { program := "ytflagchmcnfigaa", sum := "65224f7fa82d16ee9967e42c48b23091dd5be4290ea114de86664947b0e1f078", func := "loop.example/g00699/laws.FnExactBoxNew", spec := "fnExactBoxNew", apart := false, narrowed := true }
def FnExactBoxNewUptoSaid : Prop := fnExactBoxNewUptoRow.holds Try.pinned (OpenSpec.upto fnExactBoxNewSpec)

/-- 'laws.FnExactBoxOk', WHERE WHAT IT READS IS OF BULK AT MOST 1048576: true; the input reads as it did. -/
def fnExactBoxOkUptoRow : OpenClaim := { program := "ytflagchmcnfigaa", sum := "65224f7fa82d16ee9967e42c48b23091dd5be4290ea114de86664947b0e1f078", func := "loop.example/g00699/laws.FnExactBoxOk", spec := "fnExactBoxOk", apart := false, narrowed := true }
def FnExactBoxOkUptoSaid : Prop := fnExactBoxOkUptoRow.holds Try.pinned (OpenSpec.upto fnExactBoxOkSpec)

/-- 'laws.FnExactLogOf', WHERE WHAT IT READS IS OF BULK AT MOST 1048576: true; the input reads as it did. -/
def fnExactLogOfUptoRow : OpenClaim := { program := "ytflagchmcnfigaa", sum := "65224f7fa82d16ee9967e42c48b23091dd5be4290ea114de86664947b0e1f078", func := "loop.example/g00699/laws.FnExactLogOf", spec := "fnExactLogOf", apart := false, narrowed := true }
def FnExactLogOfUptoSaid : Prop := fnExactLogOfUptoRow.holds Try.pinned (OpenSpec.upto fnExactLogOfSpec)

/-- 'laws.FnExactCellOk', WHERE WHAT IT READS IS OF BULK AT MOST 1048576: true; the input reads as it did. -/
def fnExactCellOkUptoRow : OpenClaim := { program := "ytflagchmcnfigaa", sum := "65224f7fa82d16ee9967e42c48b23091dd5be4290ea114de86664947b0e1f078", func := "loop.example/g00699/laws.FnExactCellOk", spec := "fnExactCellOk", inPlace := ["math/bits.Add64"], apart := false, narrowed := true }
def FnExactCellOkUptoSaid : Prop := fnExactCellOkUptoRow.holds Try.pinned (OpenSpec.upto fnExactCellOkSpec)

/-- 'laws.FnExactPanesSort', WHERE WHAT IT READS IS OF BULK AT MOST 1048576: true; the input reads as it did. -/
def fnExactPanesSortUptoRow : OpenClaim := { program := "ytflagchmcnfigaa", sum := "65224f7fa82d16ee9967e42c48b23091dd5be4290ea114de86664947b0e1f078", func := "loop.example/g00699/laws.FnExactPanesSort", spec := "fnExactPanesSort", unfollowed := true, recurses := true, apart := false, narrowed := true }
def FnExactPanesSortUptoSaid : Prop := fnExactPanesSortUptoRow.holds Try.pinned (OpenSpec.upto fnExactPanesSortSpec)

/-- 'laws.FnExactLogRead', WHERE WHAT IT READS IS OF BULK AT MOST 1048576: true; the input reads as it did. -/
def fnExactLogReadUptoRow : OpenClaim := { program := "ytflagchmcnfigaa", sum := "65224f7fa82d16ee9967e42c48b23091dd5be4290ea114de86664947b0e1f078", func := "loop.example/g00699/laws.FnExactLogRead", spec := "fnExactLogRead", apart := false, narrowed := true }
def FnExactLogReadUptoSaid : Prop := fnExactLogReadUptoRow.holds Try.pinned (OpenSpec.upto fnExactLogReadSpec)

/-- 'laws.FnExactCellsOk', WHERE WHAT IT READS IS OF BULK AT MOST 1048576: true; the input reads as it did. -/
def fnExactCellsOkUptoRow : OpenClaim := { program := "ytflagchmcnfigaa", sum := "65224f7fa82d16ee9967e42c48b23091dd5be4290ea114de86664947b0e1f078", func := "loop.example/g00699/laws.FnExactCellsOk", spec := "fnExactCellsOk", inPlace := ["math/bits.Add64"], apart := false, narrowed := true }
def FnExactCellsOkUptoSaid : Prop := fnExactCellsOkUptoRow.holds Try.pinned (OpenSpec.upto fnExactCellsOkSpec)

/-- 'laws.FnExactQueryTake', WHERE WHAT IT READS IS OF BULK AT MOST 1048576: true; the input reads as it did. -/
def fnExactQueryTakeUptoRow : OpenClaim := { program := "ytflagchmcnfigaa", sum := "65224f7fa82d16ee9967e42c48b23091dd5be4290ea114de86664947b0e1f078", func := "loop.example/g00699/laws.FnExactQueryTake", spec := "fnExactQueryTake", apart := false, narrowed := true }
def FnExactQueryTakeUptoSaid : Prop := fnExactQueryTakeUptoRow.holds Try.pinned (OpenSpec.upto fnExactQueryTakeSpec)

end Rows
end Go.Proofs.Ytflagchmcnfigaa
