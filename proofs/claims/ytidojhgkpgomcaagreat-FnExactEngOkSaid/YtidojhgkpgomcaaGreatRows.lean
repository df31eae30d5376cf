/-
  No cell of these rows narrows 'for every input' (looked for: loops, veiled, ifaces, maps, wideKeys, modest, calm, conditions, laid).
  DERIVED. THE GIVEN ROWS OF THIS SEAT. 5 by the template 'for every input the law returns true; each argument reads behind the call as it read before'; 0 by the template 'total and deterministic' (their statements: YtidojhgkpgomcaaGreatTotals.lean).
  GIVEN WITH THE SEED: the statements are not yours to turn. If you find one false, say at which input.
  Laid BY PROGRAM, IN A SANDBOX (cutbox-rows.mjs): the forced cells as the released guide's own fill.sh prints them over the translation cd41b0333c49a1eb… (all of the seat's roots in one cut). By AI agents, Wed Nov 11 2026. No macro, syntax, notation, axiom, sorry.
-/
import Derived.Test.YtidojhgkpgomcaaGreatChecked
import GoSem.Claim
import GoSem.ClaimJoined
import GoSem.ClaimMapViews
import Derived.JoinedTies
import Derived.KernelRfl
namespace Go.Proofs.YtidojhgkpgomcaaGreat
/- THE CELL 'sum', in the pinned program and in every row, IS THE sha256 OF THE DUMP (.gsa) THAT YtidojhgkpgomcaaGreatProg.lean LOADS. Nothing in Lean hashes anything: it is a label: what it is worth is what the hold of that sum in a sandbox is worth. -/
noncomputable def Tryz.pinned : Pinned := { name := "ytidojhgkpgomcaagreat", sum := "cd41b0333c49a1eb9dfa1d0b3c035d2f08a52a9139b0dee5b613cad974fefde3", checked := Tryz.checked }
namespace Rows
def none {H : Type} : Left H := { results := [], args := [] }

/-- 'laws.FnExactCellsAdd': WHATEVER THE INPUT: true; the input reads as it did. -/
def fnExactCellsAddSpec : ChangeSpec := { name := "fnExactCellsAdd", fn := fun _ => fun
  | [d1, d2, d3, d4, d5, d6, d7] => { results := [.lit (.bool true)], args := [d1, d2, d3, d4, d5, d6, d7] }
  | _ => none }
def fnExactCellsAddRow : OpenClaim := { program := "ytidojhgkpgomcaagreat", sum := "cd41b0333c49a1eb9dfa1d0b3c035d2f08a52a9139b0dee5b613cad974fefde3", func := "loop.example/g00699/laws.FnExactCellsAdd", spec := "fnExactCellsAdd", inPlace := ["math/bits.Add64", "slices.overlaps[loop.example/g00699/impl.Cell]"], unfollowed := true, recurses := true, apart := false }
def FnExactCellsAddSaid : Prop := fnExactCellsAddRow.holds Tryz.pinned (OpenSpec.ofChange fnExactCellsAddSpec)

/-- ITS FALSE NEIGHBOUR: 'it returns false'. Refute it at one input. -/
def fnExactCellsAddWrong : ChangeSpec := { name := "fnExactCellsAdd", fn := fun _ => fun
  | [d1, d2, d3, d4, d5, d6, d7] => { results := [.lit (.bool false)], args := [d1, d2, d3, d4, d5, d6, d7] }
  | _ => none }
def FnExactCellsAddWrongFalsely : Prop := fnExactCellsAddRow.holds Tryz.pinned (OpenSpec.ofChange fnExactCellsAddWrong)

/-- 'laws.FnExactEngNew': WHATEVER THE INPUT: true; the input reads as it did. -/
def fnExactEngNewSpec : ChangeSpec := { name := "fnExactEngNew", fn := fun _ => fun
  | [d] => { results := [.lit (.bool true)], args := [d] }
  | _ => none }
def fnExactEngNewRow : OpenClaim := { program := "ytidojhgkpgomcaagreat", sum := "cd41b0333c49a1eb9dfa1d0b3c035d2f08a52a9139b0dee5b613cad974fefde3", func := "loop.example/g00699/laws.FnExactEngNew", spec := "fnExactEngNew", unfollowed := true, recurses := true, apart := false }
def FnExactEngNewSaid : Prop := fnExactEngNewRow.holds Tryz.pinned (OpenSpec.ofChange fnExactEngNewSpec)

/-- ITS FALSE NEIGHBOUR: 'it returns false'. Refute it at one input. -/
def fnExactEngNewWrong : ChangeSpec := { name := "fnExactEngNew", fn := fun _ => fun
  | [d] => { results := [.lit (.bool false)], args := [d] }
  | _ => none }
def FnExactEngNewWrongFalsely : Prop := fnExactEngNewRow.holds Tryz.pinned (OpenSpec.ofChange fnExactEngNewWrong)

/-- 'laws.FnExactCellsSeen': WHATEVER THE INPUT: true; the input reads as it did. -/
def fnExactCellsSeenSpec : ChangeSpec := { name := "fnExactCellsSeen", fn := fun _ => fun
  | [d1, d2, d3, d4] => { results := [.lit (.bool true)], args := [d1, d2, d3, d4] }
  | _ => none }
def fnExactCellsSeenRow : OpenClaim := { program := "ytidojhgkpgomcaagreat", sum := "cd41b0333c49a1eb9dfa1d0b3c035d2f08a52a9139b0dee5b613cad974fefde3", func := "loop.example/g00699/laws.FnExactCellsSeen", spec := "fnExactCellsSeen", inPlace := ["math/bits.Add64"], unfollowed := true, recurses := true, apart := false }
def FnExactCellsSeenSaid : Prop := fnExactCellsSeenRow.holds Tryz.pinned (OpenSpec.ofChange fnExactCellsSeenSpec)

/-- ITS FALSE NEIGHBOUR: 'it returns false'. Refute it at one input. -/
def fnExactCellsSeenWrong : ChangeSpec := { name := "fnExactCellsSeen", fn := fun _ => fun
  | [d1, d2, d3, d4] => { results := [.lit (.bool false)], args := [d1, d2, d3, d4] }
  | _ => none }
def FnExactCellsSeenWrongFalsely : Prop := fnExactCellsSeenRow.holds Tryz.pinned (OpenSpec.ofChange fnExactCellsSeenWrong)

/-- 'laws.FnExactEngOk': WHATEVER THE INPUT: true; the input reads as it did. -/
def fnExactEngOkSpec : ChangeSpec := { name := "fnExactEngOk", fn := fun _ => fun
  | [d] => { results := [.lit (.bool true)], args := [d] }
  | _ => none }
def fnExactEngOkRow : OpenClaim := { program := "ytidojhgkpgomcaagreat", sum := "cd41b0333c49a1eb9dfa1d0b3c035d2f08a52a9139b0dee5b613cad974fefde3", func := "loop.example/g00699/laws.FnExactEngOk", spec := "fnExactEngOk", inPlace := ["math/bits.Add64"], unfollowed := true, recurses := true, apart := false }
def FnExactEngOkSaid : Prop := fnExactEngOkRow.holds Tryz.pinned (OpenSpec.ofChange fnExactEngOkSpec)

/-- ITS FALSE NEIGHBOUR: 'it returns false'. Refute it at one input. -/
def fnExactEngOkWrong : ChangeSpec := { name := "fnExactEngOk", fn := fun _ => fun
  | [d] => { results := [.lit (.bool false)], args := [d] }
  | _ => none }
def FnExactEngOkWrongFalsely : Prop := fnExactEngOkRow.holds Tryz.pinned (OpenSpec.ofChange fnExactEngOkWrong)

/-- 'laws.FnExactCellsLeft': WHATEVER THE INPUT: true; the input reads as it did. -/
def fnExactCellsLeftSpec : ChangeSpec := { name := "fnExactCellsLeft", fn := fun _ => fun
  | [d1, d2, d3, d4] => { results := [.lit (.bool true)], args := [d1, d2, d3, d4] }
  | _ => none }
def fnExactCellsLeftRow : OpenClaim := { program := "ytidojhgkpgomcaagreat", sum := "cd41b0333c49a1eb9dfa1d0b3c035d2f08a52a9139b0dee5b613cad974fefde3", func := "loop.example/g00699/laws.FnExactCellsLeft", spec := "fnExactCellsLeft", inPlace := ["math/bits.Add64"], unfollowed := true, recurses := true, apart := false }
def FnExactCellsLeftSaid : Prop := fnExactCellsLeftRow.holds Tryz.pinned (OpenSpec.ofChange fnExactCellsLeftSpec)

/-- ITS FALSE NEIGHBOUR: 'it returns false'. Refute it at one input. -/
def fnExactCellsLeftWrong : ChangeSpec := { name := "fnExactCellsLeft", fn := fun _ => fun
  | [d1, d2, d3, d4] => { results := [.lit (.bool false)], args := [d1, d2, d3, d4] }
  | _ => none }
def FnExactCellsLeftWrongFalsely : Prop := fnExactCellsLeftRow.holds Tryz.pinned (OpenSpec.ofChange fnExactCellsLeftWrong)

/- THE SECOND FORM. 'bulk': how many values and letters a reading holds, each counted each time it is reached (what is shared counts as often as it is met; a slice's spare places count too). A statement '..UptoSaid' is the law's where the arguments, and the package variables that the reading takes, are together of bulk at most 1048576: NARROWER than '..Said'. Prove '..Said' where nothing that the law and all that it calls make is longer than what came in: it says more and counts as full. Else prove '..UptoSaid'. A law counts once. -/
mutual
def uptoBulk {H : Type} : DataW H → Nat
  | .lit (.string bytes) => bytes.length + 1
  | .lit _ => 1
  | .nil => 1
  | .ptr d => uptoBulk d + 1
  | .slice elems spare => uptoBulkAll elems + uptoBulkAll spare + 1
  | .agg parts => uptoBulkAll parts + 1
  | .iface _ d => uptoBulk d + 1
  | .map entries => uptoBulkEntries entries + 1
  | .held _ => 1
def uptoBulkAll {H : Type} : List (DataW H) → Nat
  | [] => 0
  | d :: r => uptoBulk d + uptoBulkAll r
def uptoBulkEntries {H : Type} : List (Lit × DataW H) → Nat
  | [] => 0
  | x :: r => uptoBulkEntry x + uptoBulkEntries r
def uptoBulkEntry {H : Type} : Lit × DataW H → Nat
  | (.string bytes, d) => bytes.length + uptoBulk d + 1
  | (_, d) => uptoBulk d + 1
 end
def uptoSmall : (H : Type) → List (DataW H) → Bool := fun _ ds => decide (uptoBulkAll ds ≤ 1048576)
def OpenSpec.upto (s : _root_.Go.ChangeSpec) : _root_.Go.OpenSpec := { _root_.Go.OpenSpec.ofChange s with cond := some uptoSmall }

/-- 'laws.FnExactCellsAdd', WHERE WHAT IT READS IS OF BULK AT MOST 1048576: true; the input reads as it did. -/
def fnExactCellsAddUptoRow : OpenClaim := { program := "ytidojhgkpgomcaagreat", sum := "cd41b0333c49a1eb9dfa1d0b3c035d2f08a52a9139b0dee5b613cad974fefde3", func := "loop.example/g00699/laws.FnExactCellsAdd", spec := "fnExactCellsAdd", inPlace := ["math/bits.Add64", "slices.overlaps[loop.example/g00699/impl.Cell]"], unfollowed := true, recurses := true, apart := false, narrowed := true }
def FnExactCellsAddUptoSaid : Prop := fnExactCellsAddUptoRow.holds Tryz.pinned (OpenSpec.upto fnExactCellsAddSpec)

/-- 'laws.FnExactEngNew', WHERE WHAT IT READS IS OF BULK AT MOST 1048576: true; the input reads as it did. -/
def fnExactEngNewUptoRow : OpenClaim := { program := "ytidojhgkpgomcaagreat", sum := "cd41b0333c49a1eb9dfa1d0b3c035d2f08a52a9139b0dee5b613cad974fefde3", func := "loop.example/g00699/laws.FnExactEngNew", spec := "fnExactEngNew", unfollowed := true, recurses := true, apart := false, narrowed := true }
def FnExactEngNewUptoSaid : Prop := fnExactEngNewUptoRow.holds Tryz.pinned (OpenSpec.upto fnExactEngNewSpec)

/-- 'laws.FnExactCellsSeen', WHERE WHAT IT READS IS OF BULK AT MOST 1048576: true; the input reads as it did. -/
def fnExactCellsSeenUptoRow : OpenClaim := { program := "ytidojhgkpgomcaagreat", sum := "cd41b0333c49a1eb9dfa1d0b3c035d2f08a52a9139b0dee5b613cad974fefde3", func := "loop.example/g00699/laws.FnExactCellsSeen", spec := "fnExactCellsSeen", inPlace := ["math/bits.Add64"], unfollowed := true, recurses := true, apart := false, narrowed := true }
def FnExactCellsSeenUptoSaid : Prop := fnExactCellsSeenUptoRow.holds Tryz.pinned (OpenSpec.upto fnExactCellsSeenSpec)

/-- 'laws.FnExactEngOk', WHERE WHAT IT READS IS OF BULK AT MOST 1048576: true; the input reads as it did. -/
def fnExactEngOkUptoRow : OpenClaim := { program := "ytidojhgkpgomcaagreat", sum := "cd41b0333c49a1eb9dfa1d0b3c035d2f08a52a9139b0dee5b613cad974fefde3", func := "loop.example/g00699/laws.FnExactEngOk", spec := "fnExactEngOk", inPlace := ["math/bits.Add64"], unfollowed := true, recurses := true, apart := false, narrowed := true }
def FnExactEngOkUptoSaid : Prop := fnExactEngOkUptoRow.holds Tryz.pinned (OpenSpec.upto fnExactEngOkSpec)

/-- 'laws.FnExactCellsLeft', WHERE WHAT IT READS IS OF BULK AT MOST 1048576: true; the input reads as it did. -/
def fnExactCellsLeftUptoRow : OpenClaim := { program := "ytidojhgkpgomcaagreat", sum := "cd41b0333c49a1eb9dfa1d0b3c035d2f08a52a9139b0dee5b613cad974fefde3", func := "loop.example/g00699/laws.FnExactCellsLeft", spec := "fnExactCellsLeft", inPlace := ["math/bits.Add64"], unfollowed := true, recurses := true, apart := false, narrowed := true }
def FnExactCellsLeftUptoSaid : Prop := fnExactCellsLeftUptoRow.holds Tryz.pinned (OpenSpec.upto fnExactCellsLeftSpec)

end Rows
end Go.Proofs.YtidojhgkpgomcaaGreat
