/-
  No cell of these rows narrows 'for every input' (looked for: loops, veiled, ifaces, maps, wideKeys, modest, calm, conditions, laid).
  DERIVED. THE GIVEN ROWS OF THIS SEAT. 11 by the template 'for every input the law returns true; each argument reads behind the call as it read before'; 0 by the template 'total and deterministic' (their statements: YthddkomphkanbaaTotals.lean).
  GIVEN WITH THE SEED: the statements are not yours to turn. If you find one false, say at which input.
  Laid BY PROGRAM, IN A SANDBOX (cutbox-rows.mjs): the forced cells as the released guide's own fill.sh prints them over the translation 4d71564fbec13eb2… (all of the seat's roots in one cut). By AI agents, Wed Nov 11 2026. No macro, syntax, notation, axiom, sorry.
-/
import Derived.Test.YthddkomphkanbaaChecked
import GoSem.Claim
import GoSem.ClaimJoined
import GoSem.ClaimMapViews
import Derived.JoinedTies
import Derived.KernelRfl
namespace Go.Proofs.Ythddkomphkanbaa
/- THE CELL 'sum', in the pinned program and in every row, IS THE sha256 OF THE DUMP (.gsa) THAT YthddkomphkanbaaProg.lean LOADS. Nothing in Lean hashes anything: it is a label: what it is worth is what the hold of that sum in a sandbox is worth. -/
noncomputable def Try.pinned : Pinned := { name := "ythddkomphkanbaa", sum := "4d71564fbec13eb21eab68ebb9e81ce655c1db2386a4d9d8e6f505536ad829d3", checked := Try.checked }
namespace Rows
def none {H : Type} : Left H := { results := [], args := [] }

/-- 'laws.FnExactBoxPoll': WHATEVER THE INPUT: true; the input reads as it did. -/
def fnExactBoxPollSpec : ChangeSpec := { name := "fnExactBoxPoll", fn := fun _ => fun
  | [d1, d2] => { results := [.lit (.bool true)], args := [d1, d2] }
  | _ => none }
def fnExactBoxPollRow : OpenClaim := { program := "ythddkomphkanbaa", sum := "4d71564fbec13eb21eab68ebb9e81ce655c1db2386a4d9d8e6f505536ad829d3", func := "loop.example/g00699/laws.FnExactBoxPoll", spec := "fnExactBoxPoll", apart := false }
def FnExactBoxPollSaid : Prop := fnExactBoxPollRow.holds Try.pinned (OpenSpec.ofChange fnExactBoxPollSpec)

/-- ITS FALSE NEIGHBOUR: 'it returns false'. Refute it at one input. -/
def fnExactBoxPollWrong : ChangeSpec := { name := "fnExactBoxPoll", fn := fun _ => fun
  | [d1, d2] => { results := [.lit (.bool false)], args := [d1, d2] }
  | _ => none }
def FnExactBoxPollWrongFalsely : Prop := fnExactBoxPollRow.holds Try.pinned (OpenSpec.ofChange fnExactBoxPollWrong)

/-- 'laws.FnExactBoxAudit': WHATEVER THE INPUT: true; the input reads as it did. -/
def fnExactBoxAuditSpec : ChangeSpec := { name := "fnExactBoxAudit", fn := fun _ => fun
  | [d1, d2] => { results := [.lit (.bool true)], args := [d1, d2] }
  | _ => none }
def fnExactBoxAuditRow : OpenClaim := { program := "ythddkomphkanbaa", sum := "4d71564fbec13eb21eab68ebb9e81ce655c1db2386a4d9d8e6f505536ad829d3", func := "loop.example/g00699/laws.FnExactBoxAudit", spec := "fnExactBoxAudit", apart := false }
def FnExactBoxAuditSaid : Prop := fnExactBoxAuditRow.holds Try.pinned (OpenSpec.ofChange fnExactBoxAuditSpec)

/-- ITS FALSE NEIGHBOUR: 'it returns false'. Refute it at one input. -/
def fnExactBoxAuditWrong : ChangeSpec := { name := "fnExactBoxAudit", fn := fun _ => fun
  | [d1, d2] => { results := [.lit (.bool false)], args := [d1, d2] }
  | _ => none }
def FnExactBoxAuditWrongFalsely : Prop := fnExactBoxAuditRow.holds Try.pinned (OpenSpec.ofChange fnExactBoxAuditWrong)

/-- 'laws.FnExactBothOf': WHATEVER THE INPUT: true; the input reads as it did. -/
def fnExactBothOfSpec : ChangeSpec := { name := "fnExactBothOf", fn := fun _ => fun
  | [d1, d2, d3] => { results := [.lit (.bool true)], args := [d1, d2, d3] }
  | _ => none }
def fnExactBothOfRow : OpenClaim := { program := "ythddkomphkanbaa", sum := "4d71564fbec13eb21eab68ebb9e81ce655c1db2386a4d9d8e6f505536ad829d3", func := "loop.example/g00699/laws.FnExactBothOf", spec := "fnExactBothOf", unfollowed := true, recurses := true, apart := false }
def FnExactBothOfSaid : Prop := fnExactBothOfRow.holds Try.pinned (OpenSpec.ofChange fnExactBothOfSpec)

/-- ITS FALSE NEIGHBOUR: 'it returns false'. Refute it at one input. -/
def fnExactBothOfWrong : ChangeSpec := { name := "fnExactBothOf", fn := fun _ => fun
  | [d1, d2, d3] => { results := [.lit (.bool false)], args := [d1, d2, d3] }
  | _ => none }
def FnExactBothOfWrongFalsely : Prop := fnExactBothOfRow.holds Try.pinned (OpenSpec.ofChange fnExactBothOfWrong)

/-- 'laws.FnExactBoxPut': WHATEVER THE INPUT: true; the input reads as it did. -/
def fnExactBoxPutSpec : ChangeSpec := { name := "fnExactBoxPut", fn := fun _ => fun
  | [d1, d2, d3] => { results := [.lit (.bool true)], args := [d1, d2, d3] }
  | _ => none }
def fnExactBoxPutRow : OpenClaim := { program := "ythddkomphkanbaa", sum := "4d71564fbec13eb21eab68ebb9e81ce655c1db2386a4d9d8e6f505536ad829d3", func := "loop.example/g00699/laws.FnExactBoxPut", spec := "fnExactBoxPut", apart := false }
def FnExactBoxPutSaid : Prop := fnExactBoxPutRow.holds Try.pinned (OpenSpec.ofChange fnExactBoxPutSpec)

/-- ITS FALSE NEIGHBOUR: 'it returns false'. Refute it at one input. -/
def fnExactBoxPutWrong : ChangeSpec := { name := "fnExactBoxPut", fn := fun _ => fun
  | [d1, d2, d3] => { results := [.lit (.bool false)], args := [d1, d2, d3] }
  | _ => none }
def FnExactBoxPutWrongFalsely : Prop := fnExactBoxPutRow.holds Try.pinned (OpenSpec.ofChange fnExactBoxPutWrong)

/-- 'laws.FnExactBoxAck': WHATEVER THE INPUT: true; the input reads as it did. -/
def fnExactBoxAckSpec : ChangeSpec := { name := "fnExactBoxAck", fn := fun _ => fun
  | [d1, d2] => { results := [.lit (.bool true)], args := [d1, d2] }
  | _ => none }
def fnExactBoxAckRow : OpenClaim := { program := "ythddkomphkanbaa", sum := "4d71564fbec13eb21eab68ebb9e81ce655c1db2386a4d9d8e6f505536ad829d3", func := "loop.example/g00699/laws.FnExactBoxAck", spec := "fnExactBoxAck", unfollowed := true, recurses := true, apart := false }
def FnExactBoxAckSaid : Prop := fnExactBoxAckRow.holds Try.pinned (OpenSpec.ofChange fnExactBoxAckSpec)

/-- ITS FALSE NEIGHBOUR: 'it returns false'. Refute it at one input. -/
def fnExactBoxAckWrong : ChangeSpec := { name := "fnExactBoxAck", fn := fun _ => fun
  | [d1, d2] => { results := [.lit (.bool false)], args := [d1, d2] }
  | _ => none }
def FnExactBoxAckWrongFalsely : Prop := fnExactBoxAckRow.holds Try.pinned (OpenSpec.ofChange fnExactBoxAckWrong)

/-- 'laws.FnExactCellsOf': WHATEVER THE INPUT: true; the input reads as it did. -/
def fnExactCellsOfSpec : ChangeSpec := { name := "fnExactCellsOf", fn := fun _ => fun
  | [d1, d2] => { results := [.lit (.bool true)], args := [d1, d2] }
  | _ => none }
def fnExactCellsOfRow : OpenClaim := { program := "ythddkomphkanbaa", sum := "4d71564fbec13eb21eab68ebb9e81ce655c1db2386a4d9d8e6f505536ad829d3", func := "loop.example/g00699/laws.FnExactCellsOf", spec := "fnExactCellsOf", inPlace := ["math/bits.Add64"], unfollowed := true, recurses := true, apart := false }
def FnExactCellsOfSaid : Prop := fnExactCellsOfRow.holds Try.pinned (OpenSpec.ofChange fnExactCellsOfSpec)

/-- ITS FALSE NEIGHBOUR: 'it returns false'. Refute it at one input. -/
def fnExactCellsOfWrong : ChangeSpec := { name := "fnExactCellsOf", fn := fun _ => fun
  | [d1, d2] => { results := [.lit (.bool false)], args := [d1, d2] }
  | _ => none }
def FnExactCellsOfWrongFalsely : Prop := fnExactCellsOfRow.holds Try.pinned (OpenSpec.ofChange fnExactCellsOfWrong)

/-- 'laws.FnExactCellsDue': WHATEVER THE INPUT: true; the input reads as it did. -/
def fnExactCellsDueSpec : ChangeSpec := { name := "fnExactCellsDue", fn := fun _ => fun
  | [d1, d2, d3] => { results := [.lit (.bool true)], args := [d1, d2, d3] }
  | _ => none }
def fnExactCellsDueRow : OpenClaim := { program := "ythddkomphkanbaa", sum := "4d71564fbec13eb21eab68ebb9e81ce655c1db2386a4d9d8e6f505536ad829d3", func := "loop.example/g00699/laws.FnExactCellsDue", spec := "fnExactCellsDue", inPlace := ["math/bits.Add64"], unfollowed := true, recurses := true, apart := false }
def FnExactCellsDueSaid : Prop := fnExactCellsDueRow.holds Try.pinned (OpenSpec.ofChange fnExactCellsDueSpec)

/-- ITS FALSE NEIGHBOUR: 'it returns false'. Refute it at one input. -/
def fnExactCellsDueWrong : ChangeSpec := { name := "fnExactCellsDue", fn := fun _ => fun
  | [d1, d2, d3] => { results := [.lit (.bool false)], args := [d1, d2, d3] }
  | _ => none }
def FnExactCellsDueWrongFalsely : Prop := fnExactCellsDueRow.holds Try.pinned (OpenSpec.ofChange fnExactCellsDueWrong)

/-- 'laws.FnExactBoxPuts': WHATEVER THE INPUT: true; the input reads as it did. -/
def fnExactBoxPutsSpec : ChangeSpec := { name := "fnExactBoxPuts", fn := fun _ => fun
  | [d1, d2, d3] => { results := [.lit (.bool true)], args := [d1, d2, d3] }
  | _ => none }
def fnExactBoxPutsRow : OpenClaim := { program := "ythddkomphkanbaa", sum := "4d71564fbec13eb21eab68ebb9e81ce655c1db2386a4d9d8e6f505536ad829d3", func := "loop.example/g00699/laws.FnExactBoxPuts", spec := "fnExactBoxPuts", apart := false }
def FnExactBoxPutsSaid : Prop := fnExactBoxPutsRow.holds Try.pinned (OpenSpec.ofChange fnExactBoxPutsSpec)

/-- ITS FALSE NEIGHBOUR: 'it returns false'. Refute it at one input. -/
def fnExactBoxPutsWrong : ChangeSpec := { name := "fnExactBoxPuts", fn := fun _ => fun
  | [d1, d2, d3] => { results := [.lit (.bool false)], args := [d1, d2, d3] }
  | _ => none }
def FnExactBoxPutsWrongFalsely : Prop := fnExactBoxPutsRow.holds Try.pinned (OpenSpec.ofChange fnExactBoxPutsWrong)

/-- 'laws.FnExactSeenBy': WHATEVER THE INPUT: true; the input reads as it did. -/
def fnExactSeenBySpec : ChangeSpec := { name := "fnExactSeenBy", fn := fun _ => fun
  | [d1, d2, d3] => { results := [.lit (.bool true)], args := [d1, d2, d3] }
  | _ => none }
def fnExactSeenByRow : OpenClaim := { program := "ythddkomphkanbaa", sum := "4d71564fbec13eb21eab68ebb9e81ce655c1db2386a4d9d8e6f505536ad829d3", func := "loop.example/g00699/laws.FnExactSeenBy", spec := "fnExactSeenBy", unfollowed := true, recurses := true, apart := false }
def FnExactSeenBySaid : Prop := fnExactSeenByRow.holds Try.pinned (OpenSpec.ofChange fnExactSeenBySpec)

/-- ITS FALSE NEIGHBOUR: 'it returns false'. Refute it at one input. -/
def fnExactSeenByWrong : ChangeSpec := { name := "fnExactSeenBy", fn := fun _ => fun
  | [d1, d2, d3] => { results := [.lit (.bool false)], args := [d1, d2, d3] }
  | _ => none }
def FnExactSeenByWrongFalsely : Prop := fnExactSeenByRow.holds Try.pinned (OpenSpec.ofChange fnExactSeenByWrong)

/-- 'laws.FnExactPanesSort': WHATEVER THE INPUT: true; the input reads as it did. -/
def fnExactPanesSortSpec : ChangeSpec := { name := "fnExactPanesSort", fn := fun _ => fun
  | [d] => { results := [.lit (.bool true)], args := [d] }
  | _ => none }
def fnExactPanesSortRow : OpenClaim := { program := "ythddkomphkanbaa", sum := "4d71564fbec13eb21eab68ebb9e81ce655c1db2386a4d9d8e6f505536ad829d3", func := "loop.example/g00699/laws.FnExactPanesSort", spec := "fnExactPanesSort", unfollowed := true, recurses := true, apart := false }
def FnExactPanesSortSaid : Prop := fnExactPanesSortRow.holds Try.pinned (OpenSpec.ofChange fnExactPanesSortSpec)

/-- ITS FALSE NEIGHBOUR: 'it returns false'. Refute it at one input. -/
def fnExactPanesSortWrong : ChangeSpec := { name := "fnExactPanesSort", fn := fun _ => fun
  | [d] => { results := [.lit (.bool false)], args := [d] }
  | _ => none }
def FnExactPanesSortWrongFalsely : Prop := fnExactPanesSortRow.holds Try.pinned (OpenSpec.ofChange fnExactPanesSortWrong)

/-- 'laws.FnExactPaneOf': WHATEVER THE INPUT: true; the input reads as it did. -/
def fnExactPaneOfSpec : ChangeSpec := { name := "fnExactPaneOf", fn := fun _ => fun
  | [d1, d2, d3, d4, d5, d6] => { results := [.lit (.bool true)], args := [d1, d2, d3, d4, d5, d6] }
  | _ => none }
def fnExactPaneOfRow : OpenClaim := { program := "ythddkomphkanbaa", sum := "4d71564fbec13eb21eab68ebb9e81ce655c1db2386a4d9d8e6f505536ad829d3", func := "loop.example/g00699/laws.FnExactPaneOf", spec := "fnExactPaneOf", inPlace := ["math/bits.Add64"], named := ["math/bits.divideError", "math/bits.overflowError"], apart := false }
def FnExactPaneOfSaid : Prop := fnExactPaneOfRow.holds Try.pinned (OpenSpec.ofChange fnExactPaneOfSpec)

/-- ITS FALSE NEIGHBOUR: 'it returns false'. Refute it at one input. -/
def fnExactPaneOfWrong : ChangeSpec := { name := "fnExactPaneOf", fn := fun _ => fun
  | [d1, d2, d3, d4, d5, d6] => { results := [.lit (.bool false)], args := [d1, d2, d3, d4, d5, d6] }
  | _ => none }
def FnExactPaneOfWrongFalsely : Prop := fnExactPaneOfRow.holds Try.pinned (OpenSpec.ofChange fnExactPaneOfWrong)

/- THE SECOND FORM. 'bulk': how many values and letters a reading holds, each counted each time it is reached (what is shared counts as often as it is met; a slice's spare places count too). A statement '..UptoSaid' is the law's where the arguments, and the package variables that the reading takes, are together of bulk at most 1048576: NARROWER than '..Said'. Prove '..Said' where nothing that the law and all that it calls make is longer than what came in: it says more and counts as full. Else prove '..UptoSaid'. A law counts once. -/
mutual
def uptoBulk {H : Type} : DataW H → Nat
  | .lit (.string bytes) => bytes.length + 1
  | .lit _ => 1
  | .nil => 1
  | .ptr d => uptoBulk d + 1
  | .slice elems spare => uptoBulkAll elems + uptoBulkAll spare + 1
  | .agg parts => uptoBulkAll parts + 1
  | .iface _ d => uptoBulk d + 1
  | .map entries => uptoBulkEntries entries + 1
  | .held _ => 1
def uptoBulkAll {H : Type} : List (DataW H) → Nat
  | [] => 0
  | d :: r => uptoBulk d + uptoBulkAll r
def uptoBulkEntries {H : Type} : List (Lit × DataW H) → Nat
  | [] => 0
  | x :: r => uptoBulkEntry x + uptoBulkEntries r
def uptoBulkEntry {H : Type} : Lit × DataW H → Nat
  | (.string bytes, d) => bytes.length + uptoBulk d + 1
  | (_, d) => uptoBulk d + 1
 end
def uptoSmall : (H : Type) → List (DataW H) → Bool := fun _ ds => decide (uptoBulkAll ds ≤ 1048576)
def OpenSpec.upto (s : _root_.Go.ChangeSpec) : _root_.Go.OpenSpec := { _root_.Go.OpenSpec.ofChange s with cond := some uptoSmall }

/-- 'laws.FnExactBoxPoll', WHERE WHAT IT READS IS OF BULK AT MOST 1048576: true; the input reads as it did. -/
def fnExactBoxPollUptoRow : OpenClaim := { program := "ythddkomphkanbaa", sum := "4d71564fbec13eb21eab68ebb9e81ce655c1db2386a4d9d8e6f505536ad829d3", func := "loop.example/g00699/laws.FnExactBoxPoll", spec := "fnExactBoxPoll", apart := false, narrowed := true }
def FnExactBoxPollUptoSaid : Prop := fnExactBoxPollUptoRow.holds Try.pinned (OpenSpec.upto fnExactBoxPollSpec)

/-- 'laws.FnExactBoxAudit', WHERE WHAT IT READS IS OF BULK AT MOST 1048576: true; the input reads as it did. -/
def fnExactBoxAuditUptoRow : OpenClaim := { program := "ythddkomphkanbaa", sum := "4d71564fbec13eb21eab68ebb9e81ce655c1db2386a4d9d8e6f505536ad829d3", func := "loop.example/g00699/laws.FnExactBoxAudit", spec := "fnExactBoxAudit", apart := false, narrowed := true }
def FnExactBoxAuditUptoSaid : Prop := fnExactBoxAuditUptoRow.holds Try.pinned (OpenSpec.upto fnExactBoxAuditSpec)

/-- 'laws.FnExactBothOf', WHERE WHAT IT READS IS OF BULK AT MOST 1048576: true; the input reads as it did. -/
def fnExactBothOfUptoRow : OpenClaim := { program := "ythddkomphkanbaa", sum := "4d71564fbec13eb21eab68ebb9e81ce655c1db2386a4d9d8e6f505536ad829d3", func := "loop.example/g00699/laws.FnExactBothOf", spec := "fnExactBothOf", unfollowed := true, recurses := true, apart := false, narrowed := true }
def FnExactBothOfUptoSaid : Prop := fnExactBothOfUptoRow.holds Try.pinned (OpenSpec.upto fnExactBothOfSpec)

/-- 'laws.FnExactBoxPut', WHERE WHAT IT READS IS OF BULK AT MOST 1048576: true; the input reads as it did. -/
def fnExactBoxPutUptoRow : OpenClaim := { program := "ythddkomphkanbaa", sum := "4d71564fbec13eb21eab68ebb9e81ce655c1db2386a4d9d8e6f505536ad829d3", func := "loop.example/g00699/laws.FnExactBoxPut", spec := "fnExactBoxPut", apart := false, narrowed := true }
def FnExactBoxPutUptoSaid : Prop := fnExactBoxPutUptoRow.holds Try.pinned (OpenSpec.upto fnExactBoxPutSpec)

/-- 'laws.FnExactBoxAck', WHERE WHAT IT READS IS OF BULK AT MOST 1048576: true; the input reads as it did. -/
def fnExactBoxAckUptoRow : OpenClaim := { program := "ythddkomphkanbaa", sum := "4d71564fbec13eb21eab68ebb9e81ce655c1db2386a4d9d8e6f505536ad829d3", func := "loop.example/g00699/laws.FnExactBoxAck", spec := "fnExactBoxAck", unfollowed := true, recurses := true, apart := false, narrowed := true }
def FnExactBoxAckUptoSaid : Prop := fnExactBoxAckUptoRow.holds Try.pinned (OpenSpec.upto fnExactBoxAckSpec)

/-- 'laws.FnExactCellsOf', WHERE WHAT IT READS IS OF BULK AT MOST 1048576: true; the input reads as it did. -/
def fnExactCellsOfUptoRow : OpenClaim := { program := "ythddkomphkanbaa", sum := "4d71564fbec13eb21eab68ebb9e81ce655c1db2386a4d9d8e6f505536ad829d3", func := "loop.example/g00699/laws.FnExactCellsOf", spec := "fnExactCellsOf", inPlace := ["math/bits.Add64"], unfollowed := true, recurses := true, apart := false, narrowed := true }
def FnExactCellsOfUptoSaid : Prop := fnExactCellsOfUptoRow.holds Try.pinned (OpenSpec.upto fnExactCellsOfSpec)

/-- 'laws.FnExactCellsDue', WHERE WHAT IT READS IS OF BULK AT MOST 1048576: true; the input reads as it did. -/
def fnExactCellsDueUptoRow : OpenClaim := { program := "ythddkomphkanbaa", sum := "4d71564fbec13eb21eab68ebb9e81ce655c1db2386a4d9d8e6f505536ad829d3", func := "loop.example/g00699/laws.FnExactCellsDue", spec := "fnExactCellsDue", inPlace := ["math/bits.Add64"], unfollowed := true, recurses := true, apart := false, narrowed := true }
def FnExactCellsDueUptoSaid : Prop := fnExactCellsDueUptoRow.holds Try.pinned (OpenSpec.upto fnExactCellsDueSpec)

/-- 'laws.FnExactBoxPuts', WHERE WHAT IT READS IS OF BULK AT MOST 1048576: true; the input reads as it did. -/
def fnExactBoxPutsUptoRow : OpenClaim := { program := "ythddkomphkanbaa", sum := "4d71564fbec13eb21eab68ebb9e81ce655c1db2386a4d9d8e6f505536ad829d3", func := "loop.example/g00699/laws.FnExactBoxPuts", spec := "fnExactBoxPuts", apart := false, narrowed := true }
def FnExactBoxPutsUptoSaid : Prop := fnExactBoxPutsUptoRow.holds Try.pinned (OpenSpec.upto fnExactBoxPutsSpec)

/-- 'laws.FnExactSeenBy', WHERE WHAT IT READS IS OF BULK AT MOST 1048576: true; the input reads as it did. -/
def fnExactSeenByUptoRow : OpenClaim := { program := "ythddkomphkanbaa", sum := "4d71564fbec13eb21eab68ebb9e81ce655c1db2386a4d9d8e6f505536ad829d3", func := "loop.example/g00699/laws.FnExactSeenBy", spec := "fnExactSeenBy", unfollowed := true, recurses := true, apart := false, narrowed := true }
def FnExactSeenByUptoSaid : Prop := fnExactSeenByUptoRow.holds Try.pinned (OpenSpec.upto fnExactSeenBySpec)

/-- 'laws.FnExactPanesSort', WHERE WHAT IT READS IS OF BULK AT MOST 1048576: true; the input reads as it did. -/
def fnExactPanesSortUptoRow : OpenClaim := { program := "ythddkomphkanbaa", sum := "4d71564fbec13eb21eab68ebb9e81ce655c1db2386a4d9d8e6f505536ad829d3", func := "loop.example/g00699/laws.FnExactPanesSort", spec := "fnExactPanesSort", unfollowed := true, recurses := true, apart := false, narrowed := true }
def FnExactPanesSortUptoSaid : Prop := fnExactPanesSortUptoRow.holds Try.pinned (OpenSpec.upto fnExactPanesSortSpec)

/-- 'laws.FnExactPaneOf', WHERE WHAT IT READS IS OF BULK AT MOST 1048576: true; the input reads as it did. -/
def fnExactPaneOfUptoRow : OpenClaim := { program := "ythddkomphkanbaa", sum := "4d71564fbec13eb21eab68ebb9e81ce655c1db2386a4d9d8e6f505536ad829d3", func := "loop.example/g00699/laws.FnExactPaneOf", spec := "fnExactPaneOf", inPlace := ["math/bits.Add64"], named := ["math/bits.divideError", "math/bits.overflowError"], apart := false, narrowed := true }
def FnExactPaneOfUptoSaid : Prop := fnExactPaneOfUptoRow.holds Try.pinned (OpenSpec.upto fnExactPaneOfSpec)

end Rows
end Go.Proofs.Ythddkomphkanbaa
