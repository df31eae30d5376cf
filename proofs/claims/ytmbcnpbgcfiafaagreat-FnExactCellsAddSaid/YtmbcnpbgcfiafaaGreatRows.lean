/-
  No cell of these rows narrows 'for every input' (looked for: loops, veiled, ifaces, maps, wideKeys, modest, calm, conditions, laid).
  DERIVED. THE GIVEN ROWS OF THIS SEAT. 5 by the template 'for every input the law returns true; each argument reads behind the call as it read before'; 0 by the template 'total and deterministic' (their statements: YtmbcnpbgcfiafaaGreatTotals.lean).
  GIVEN WITH THE SEED: the statements are not yours to turn. If you find one false, say at which input.
  Laid BY PROGRAM, IN A SANDBOX (cutbox-rows.mjs): the forced cells as the released guide's own fill.sh prints them over the translation 122d703d02d5f172… (all of the seat's roots in one cut). By AI agents, Wed Nov 11 2026. No macro, syntax, notation, axiom, sorry.
-/
import Derived.Test.YtmbcnpbgcfiafaaGreatChecked
import GoSem.Claim
import GoSem.ClaimJoined
import GoSem.ClaimMapViews
import Derived.JoinedTies
import Derived.KernelRfl
namespace Go.Proofs.YtmbcnpbgcfiafaaGreat
/- THE CELL 'sum', in the pinned program and in every row, IS THE sha256 OF THE DUMP (.gsa) THAT YtmbcnpbgcfiafaaGreatProg.lean LOADS. Nothing in Lean hashes anything: it is a label: what it is worth is what the hold of that sum in a sandbox is worth. -/
noncomputable def Tryz.pinned : Pinned := { name := "ytmbcnpbgcfiafaagreat", sum := "122d703d02d5f1727c46483c190a0223e3a7e0bd9bc238a237eb2d91a3a236c8", checked := Tryz.checked }
namespace Rows
def none {H : Type} : Left H := { results := [], args := [] }

/-- 'laws.FnExactCellsAdd': WHATEVER THE INPUT: true; the input reads as it did. -/
def fnExactCellsAddSpec : ChangeSpec := { name := "fnExactCellsAdd", fn := fun _ => fun
  | [d1, d2, d3, d4, d5, d6, d7] => { results := [.lit (.bool true)], args := [d1, d2, d3, d4, d5, d6, d7] }
  | _ => none }
def fnExactCellsAddRow : OpenClaim := { program := "ytmbcnpbgcfiafaagreat", sum := "122d703d02d5f1727c46483c190a0223e3a7e0bd9bc238a237eb2d91a3a236c8", func := "loop.example/g00699/laws.FnExactCellsAdd", spec := "fnExactCellsAdd", inPlace := ["math/bits.Add64", "slices.overlaps[loop.example/g00699/impl.Cell]"], unfollowed := true, recurses := true, plainKeys := false, apart := false }
def FnExactCellsAddSaid : Prop := fnExactCellsAddRow.holds Tryz.pinned (OpenSpec.ofChange fnExactCellsAddSpec)

/-- ITS FALSE NEIGHBOUR: 'it returns false'. Refute it at one input. -/
def fnExactCellsAddWrong : ChangeSpec := { name := "fnExactCellsAdd", fn := fun _ => fun
  | [d1, d2, d3, d4, d5, d6, d7] => { results := [.lit (.bool false)], args := [d1, d2, d3, d4, d5, d6, d7] }
  | _ => none }
def FnExactCellsAddWrongFalsely : Prop := fnExactCellsAddRow.holds Tryz.pinned (OpenSpec.ofChange fnExactCellsAddWrong)

/-- 'laws.FnExactCellsSeen': WHATEVER THE INPUT: true; the input reads as it did. -/
def fnExactCellsSeenSpec : ChangeSpec := { name := "fnExactCellsSeen", fn := fun _ => fun
  | [d1, d2, d3, d4] => { results := [.lit (.bool true)], args := [d1, d2, d3, d4] }
  | _ => none }
def fnExactCellsSeenRow : OpenClaim := { program := "ytmbcnpbgcfiafaagreat", sum := "122d703d02d5f1727c46483c190a0223e3a7e0bd9bc238a237eb2d91a3a236c8", func := "loop.example/g00699/laws.FnExactCellsSeen", spec := "fnExactCellsSeen", inPlace := ["math/bits.Add64"], unfollowed := true, recurses := true, plainKeys := false, apart := false }
def FnExactCellsSeenSaid : Prop := fnExactCellsSeenRow.holds Tryz.pinned (OpenSpec.ofChange fnExactCellsSeenSpec)

/-- ITS FALSE NEIGHBOUR: 'it returns false'. Refute it at one input. -/
def fnExactCellsSeenWrong : ChangeSpec := { name := "fnExactCellsSeen", fn := fun _ => fun
  | [d1, d2, d3, d4] => { results := [.lit (.bool false)], args := [d1, d2, d3, d4] }
  | _ => none }
def FnExactCellsSeenWrongFalsely : Prop := fnExactCellsSeenRow.holds Tryz.pinned (OpenSpec.ofChange fnExactCellsSeenWrong)

/-- 'laws.FnExactCellsLeft': WHATEVER THE INPUT: true; the input reads as it did. -/
def fnExactCellsLeftSpec : ChangeSpec := { name := "fnExactCellsLeft", fn := fun _ => fun
  | [d1, d2, d3, d4] => { results := [.lit (.bool true)], args := [d1, d2, d3, d4] }
  | _ => none }
def fnExactCellsLeftRow : OpenClaim := { program := "ytmbcnpbgcfiafaagreat", sum := "122d703d02d5f1727c46483c190a0223e3a7e0bd9bc238a237eb2d91a3a236c8", func := "loop.example/g00699/laws.FnExactCellsLeft", spec := "fnExactCellsLeft", inPlace := ["math/bits.Add64"], unfollowed := true, recurses := true, plainKeys := false, apart := false }
def FnExactCellsLeftSaid : Prop := fnExactCellsLeftRow.holds Tryz.pinned (OpenSpec.ofChange fnExactCellsLeftSpec)

/-- ITS FALSE NEIGHBOUR: 'it returns false'. Refute it at one input. -/
def fnExactCellsLeftWrong : ChangeSpec := { name := "fnExactCellsLeft", fn := fun _ => fun
  | [d1, d2, d3, d4] => { results := [.lit (.bool false)], args := [d1, d2, d3, d4] }
  | _ => none }
def FnExactCellsLeftWrongFalsely : Prop := fnExactCellsLeftRow.holds Tryz.pinned (OpenSpec.ofChange fnExactCellsLeftWrong)

/-- 'laws.FnExactTable': WHATEVER THE INPUT: true; the input reads as it did. -/
def fnExactTableSpec : ChangeSpec := { name := "fnExactTable", fn := fun _ => fun
  | [d1, d2, d3, d4] => { results := [.lit (.bool true)], args := [d1, d2, d3, d4] }
  | _ => none }
def fnExactTableRow : OpenClaim := { program := "ytmbcnpbgcfiafaagreat", sum := "122d703d02d5f1727c46483c190a0223e3a7e0bd9bc238a237eb2d91a3a236c8", func := "loop.example/g00699/laws.FnExactTable", spec := "fnExactTable", inPlace := ["math/bits.Add64"], unfollowed := true, recurses := true, named := ["math/bits.divideError", "math/bits.overflowError"], plainKeys := false, apart := false }
def FnExactTableSaid : Prop := fnExactTableRow.holds Tryz.pinned (OpenSpec.ofChange fnExactTableSpec)

/-- ITS FALSE NEIGHBOUR: 'it returns false'. Refute it at one input. -/
def fnExactTableWrong : ChangeSpec := { name := "fnExactTable", fn := fun _ => fun
  | [d1, d2, d3, d4] => { results := [.lit (.bool false)], args := [d1, d2, d3, d4] }
  | _ => none }
def FnExactTableWrongFalsely : Prop := fnExactTableRow.holds Tryz.pinned (OpenSpec.ofChange fnExactTableWrong)

/-- 'laws.FnExactEngPanes': WHATEVER THE INPUT: true; the input reads as it did. -/
def fnExactEngPanesSpec : ChangeSpec := { name := "fnExactEngPanes", fn := fun _ => fun
  | [d1, d2, d3, d4] => { results := [.lit (.bool true)], args := [d1, d2, d3, d4] }
  | _ => none }
def fnExactEngPanesRow : OpenClaim := { program := "ytmbcnpbgcfiafaagreat", sum := "122d703d02d5f1727c46483c190a0223e3a7e0bd9bc238a237eb2d91a3a236c8", func := "loop.example/g00699/laws.FnExactEngPanes", spec := "fnExactEngPanes", inPlace := ["math/bits.Add64"], unfollowed := true, recurses := true, named := ["math/bits.divideError", "math/bits.overflowError"], plainKeys := false, apart := false }
def FnExactEngPanesSaid : Prop := fnExactEngPanesRow.holds Tryz.pinned (OpenSpec.ofChange fnExactEngPanesSpec)

/-- ITS FALSE NEIGHBOUR: 'it returns false'. Refute it at one input. -/
def fnExactEngPanesWrong : ChangeSpec := { name := "fnExactEngPanes", fn := fun _ => fun
  | [d1, d2, d3, d4] => { results := [.lit (.bool false)], args := [d1, d2, d3, d4] }
  | _ => none }
def FnExactEngPanesWrongFalsely : Prop := fnExactEngPanesRow.holds Tryz.pinned (OpenSpec.ofChange fnExactEngPanesWrong)

/- THE SECOND FORM. 'bulk': how many values and letters a reading holds, each counted each time it is reached (what is shared counts as often as it is met; a slice's spare places count too). A statement '..UptoSaid' is the law's where the arguments, and the package variables that the reading takes, are together of bulk at most 1048576: NARROWER than '..Said'. Prove '..Said' where nothing that the law and all that it calls make is longer than what came in: it says more and counts as full. Else prove '..UptoSaid'. A law counts once. -/
mutual
def uptoBulk {H : Type} : DataW H → Nat
  | .lit (.string bytes) => bytes.length + 1
  | .lit _ => 1
  | .nil => 1
  | .ptr d => uptoBulk d + 1
  | .slice elems spare => uptoBulkAll elems + uptoBulkAll spare + 1
  | .agg parts => uptoBulkAll parts + 1
  | .iface _ d => uptoBulk d + 1
  | .map entries => uptoBulkEntries entries + 1
  | .held _ => 1
def uptoBulkAll {H : Type} : List (DataW H) → Nat
  | [] => 0
  | d :: r => uptoBulk d + uptoBulkAll r
def uptoBulkEntries {H : Type} : List (Lit × DataW H) → Nat
  | [] => 0
  | x :: r => uptoBulkEntry x + uptoBulkEntries r
def uptoBulkEntry {H : Type} : Lit × DataW H → Nat
  | (.string bytes, d) => bytes.length + uptoBulk d + 1
  | (_, d) => uptoBulk d + 1
 end
def uptoSmall : (H : Type) → List (DataW H) → Bool := fun _ ds => decide (uptoBulkAll ds ≤ 1048576)
def OpenSpec.upto (s : _root_.Go.ChangeSpec) : _root_.Go.OpenSpec := { _root_.Go.OpenSpec.ofChange s with cond := some uptoSmall }

/-- 'laws.FnExactCellsAdd', WHERE WHAT IT READS IS OF BULK AT MOST 1048576: true; the input reads as it did. -/
def fnExactCellsAddUptoRow : OpenClaim := { program := "ytmbcnpbgcfiafaagreat", sum := "122d703d02d5f1727c46483c190a0223e3a7e0bd9bc238a237eb2d91a3a236c8", func := "loop.example/g00699/laws.FnExactCellsAdd", spec := "fnExactCellsAdd", inPlace := ["math/bits.Add64", "slices.overlaps[loop.example/g00699/impl.Cell]"], unfollowed := true, recurses := true, plainKeys := false, apart := false, narrowed := true }
def FnExactCellsAddUptoSaid : Prop := fnExactCellsAddUptoRow.holds Tryz.pinned (OpenSpec.upto fnExactCellsAddSpec)

/-- 'laws.FnExactCellsSeen', WHERE WHAT IT READS IS OF BULK AT MOST 1048576: true; the input reads as it did. -/
def fnExactCellsSeenUptoRow : OpenClaim := { program := "ytmbcnpbgcfiafaagreat", sum := "122d703d02d5f1727c46483c190a0223e3a7e0bd9bc238a237eb2d91a3a236c8", func := "loop.example/g00699/laws.FnExactCellsSeen", spec := "fnExactCellsSeen", inPlace := ["math/bits.Add64"], unfollowed := true, recurses := true, plainKeys := false, apart := false, narrowed := true }
def FnExactCellsSeenUptoSaid : Prop := fnExactCellsSeenUptoRow.holds Tryz.pinned (OpenSpec.upto fnExactCellsSeenSpec)

/-- 'laws.FnExactCellsLeft', WHERE WHAT IT READS IS OF BULK AT MOST 1048576: true; the input reads as it did. -/
def fnExactCellsLeftUptoRow : OpenClaim := { program := "ytmbcnpbgcfiafaagreat", sum := "122d703d02d5f1727c46483c190a0223e3a7e0bd9bc238a237eb2d91a3a236c8", func := "loop.example/g00699/laws.FnExactCellsLeft", spec := "fnExactCellsLeft", inPlace := ["math/bits.Add64"], unfollowed := true, recurses := true, plainKeys := false, apart := false, narrowed := true }
def FnExactCellsLeftUptoSaid : Prop := fnExactCellsLeftUptoRow.holds Tryz.pinned (OpenSpec.upto fnExactCellsLeftSpec)

/-- 'laws.FnExactTable', WHERE WHAT IT READS IS OF BULK AT MOST 1048576: true; the input reads as it did. -/
def fnExactTableUptoRow : OpenClaim := { program := "ytmbcnpbgcfiafaagreat", sum := "122d703d02d5f1727c46483c190a0223e3a7e0bd9bc238a237eb2d91a3a236c8", func := "loop.example/g00699/laws.FnExactTable", spec := "fnExactTable", inPlace := ["math/bits.Add64"], unfollowed := true, recurses := true, named := ["math/bits.divideError", "math/bits.overflowError"], plainKeys := false, apart := false, narrowed := true }
def FnExactTableUptoSaid : Prop := fnExactTableUptoRow.holds Tryz.pinned (OpenSpec.upto fnExactTableSpec)

/-- 'laws.FnExactEngPanes', WHERE WHAT IT READS IS OF BULK AT MOST 1048576: true; the input reads as it did. -/
def fnExactEngPanesUptoRow : OpenClaim := { program := "ytmbcnpbgcfiafaagreat", sum := "122d703d02d5f1727c46483c190a0223e3a7e0bd9bc238a237eb2d91a3a236c8", func := "loop.example/g00699/laws.FnExactEngPanes", spec := "fnExactEngPanes", inPlace := ["math/bits.Add64"], unfollowed := true, recurses := true, named := ["math/bits.divideError", "math/bits.overflowError"], plainKeys := false, apart := false, narrowed := true }
def FnExactEngPanesUptoSaid : Prop := fnExactEngPanesUptoRow.holds Tryz.pinned (OpenSpec.upto fnExactEngPanesSpec)

end Rows
end Go.Proofs.YtmbcnpbgcfiafaaGreat
