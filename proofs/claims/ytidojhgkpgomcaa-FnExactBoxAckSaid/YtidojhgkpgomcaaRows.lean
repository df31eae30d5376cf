/-
  No cell of these rows narrows 'for every input' (looked for: loops, veiled, ifaces, maps, wideKeys, modest, calm, conditions, laid).
  DERIVED. THE GIVEN ROWS OF THIS SEAT. 3 by the template 'for every input the law returns true; each argument reads behind the call as it read before'; 0 by the template 'total and deterministic' (their statements: YtidojhgkpgomcaaTotals.lean).
  GIVEN WITH THE SEED: the statements are not yours to turn. If you find one false, say at which input.
  Laid BY PROGRAM, IN A SANDBOX (cutbox-rows.mjs): the forced cells as the released guide's own fill.sh prints them over the translation 7b030524aa09d448… (all of the seat's roots in one cut). By AI agents, Wed Nov 11 2026. No macro, syntax, notation, axiom, sorry.
-/
import Derived.Test.YtidojhgkpgomcaaChecked
import GoSem.Claim
import GoSem.ClaimJoined
import GoSem.ClaimMapViews
import Derived.JoinedTies
import Derived.KernelRfl
namespace Go.Proofs.Ytidojhgkpgomcaa
/- THE CELL 'sum', in the pinned program and in every row, IS THE sha256 OF THE DUMP (.gsa) THAT YtidojhgkpgomcaaProg.lean LOADS. Nothing in Lean hashes anything: it is a label: what it is worth is what the hold of that sum in a sandbox is worth. -/
noncomputable def Try.pinned : Pinned := { name := "ytidojhgkpgomcaa", sum := "7b030524aa09d44851f99f025ea169c3af46f43ed622331a64f89c90d2c1173c", checked := Try.checked }
namespace Rows
def none {H : Type} : Left H := { results := [], args := [] }

/-- 'laws.FnExactPanesSort': WHATEVER THE INPUT: true; the input reads as it did. -/
def fnExactPanesSortSpec : ChangeSpec := { name := "fnExactPanesSort", fn := fun _ => fun
  | [d] => { results := [.lit (.bool true)], args := [d] }
  | _ => none }
def fnExactPanesSortRow : OpenClaim := { program := "ytidojhgkpgomcaa", sum := "7b030524aa09d44851f99f025ea169c3af46f43ed622331a64f89c90d2c1173c", func := "loop.example/g00699/laws.FnExactPanesSort", spec := "fnExactPanesSort", unfollowed := true, recurses := true, apart := false }
def FnExactPanesSortSaid : Prop := fnExactPanesSortRow.holds Try.pinned (OpenSpec.ofChange fnExactPanesSortSpec)

/-- ITS FALSE NEIGHBOUR: 'it returns false'. Refute it at one input. -/
def fnExactPanesSortWrong : ChangeSpec := { name := "fnExactPanesSort", fn := fun _ => fun
  | [d] => { results := [.lit (.bool false)], args := [d] }
  | _ => none }
def FnExactPanesSortWrongFalsely : Prop := fnExactPanesSortRow.holds Try.pinned (OpenSpec.ofChange fnExactPanesSortWrong)

/-- 'laws.FnExactBoxAck': WHATEVER THE INPUT: true; the input reads as it did. -/
def fnExactBoxAckSpec : ChangeSpec := { name := "fnExactBoxAck", fn := fun _ => fun
  | [d1, d2] => { results := [.lit (.bool true)], args := [d1, d2] }
  | _ => none }
def fnExactBoxAckRow : OpenClaim := { program := "ytidojhgkpgomcaa", sum := "7b030524aa09d44851f99f025ea169c3af46f43ed622331a64f89c90d2c1173c", func := "loop.example/g00699/laws.FnExactBoxAck", spec := "fnExactBoxAck", unfollowed := true, recurses := true, apart := false }
def FnExactBoxAckSaid : Prop := fnExactBoxAckRow.holds Try.pinned (OpenSpec.ofChange fnExactBoxAckSpec)

/-- ITS FALSE NEIGHBOUR: 'it returns false'. Refute it at one input. -/
def fnExactBoxAckWrong : ChangeSpec := { name := "fnExactBoxAck", fn := fun _ => fun
  | [d1, d2] => { results := [.lit (.bool false)], args := [d1, d2] }
  | _ => none }
def FnExactBoxAckWrongFalsely : Prop := fnExactBoxAckRow.holds Try.pinned (OpenSpec.ofChange fnExactBoxAckWrong)

/-- 'laws.FnExactPaneOf': WHATEVER THE INPUT: true; the input reads as it did. -/
def fnExactPaneOfSpec : ChangeSpec := { name := "fnExactPaneOf", fn := fun _ => fun
  | [d1, d2, d3, d4, d5, d6] => { results := [.lit (.bool true)], args := [d1, d2, d3, d4, d5, d6] }
  | _ => none }
def fnExactPaneOfRow : OpenClaim := { program := "ytidojhgkpgomcaa", sum := "7b030524aa09d44851f99f025ea169c3af46f43ed622331a64f89c90d2c1173c", func := "loop.example/g00699/laws.FnExactPaneOf", spec := "fnExactPaneOf", inPlace := ["math/bits.Add64"], named := ["math/bits.divideError", "math/bits.overflowError"], apart := false }
def FnExactPaneOfSaid : Prop := fnExactPaneOfRow.holds Try.pinned (OpenSpec.ofChange fnExactPaneOfSpec)

/-- ITS FALSE NEIGHBOUR: 'it returns false'. Refute it at one input. -/
def fnExactPaneOfWrong : ChangeSpec := { name := "fnExactPaneOf", fn := fun _ => fun
  | [d1, d2, d3, d4, d5, d6] => { results := [.lit (.bool false)], args := [d1, d2, d3, d4, d5, d6] }
  | _ => none }
def FnExactPaneOfWrongFalsely : Prop := fnExactPaneOfRow.holds Try.pinned (OpenSpec.ofChange fnExactPaneOfWrong)

/- THE SECOND FORM. 'bulk': how many values and letters a reading holds, each counted each time it is reached (what is shared counts as often as it is met; a slice's spare places count too). A statement '..UptoSaid' is the law's where the arguments, and the package variables that the reading takes, are together of bulk at most 1048576: NARROWER than '..Said'. Prove '..Said' where nothing that the law and all that it calls make is longer than what came in: it says more and counts as full. Else prove '..UptoSaid'. A law counts once. -/
mutual
def uptoBulk {H : Type} : DataW H → Nat
  | .lit (.string bytes) => bytes.length + 1
  | .lit _ => 1
  | .nil => 1
  | .ptr d => uptoBulk d + 1
  | .slice elems spare => uptoBulkAll elems + uptoBulkAll spare + 1
  | .agg parts => uptoBulkAll parts + 1
  | .iface _ d => uptoBulk d + 1
  | .map entries => uptoBulkEntries entries + 1
  | .held _ => 1
def uptoBulkAll {H : Type} : List (DataW H) → Nat
  | [] => 0
  | d :: r => uptoBulk d + uptoBulkAll r
def uptoBulkEntries {H : Type} : List (Lit × DataW H) → Nat
  | [] => 0
  | x :: r => uptoBulkEntry x + uptoBulkEntries r
def uptoBulkEntry {H : Type} : Lit × DataW H → Nat
  | (.string bytes, d) => bytes.length + uptoBulk d + 1
  | (_, d) => uptoBulk d + 1
 end
def uptoSmall : (H : Type) → List (DataW H) → Bool := fun _ ds => decide (uptoBulkAll ds ≤ 1048576)
def OpenSpec.upto (s : _root_.Go.ChangeSpec) : _root_.Go.OpenSpec := { _root_.Go.OpenSpec.ofChange s with cond := some uptoSmall }

/-- 'laws.FnExactPanesSort', WHERE WHAT IT READS IS OF BULK AT MOST 1048576: true; the input reads as it did. -/
def fnExactPanesSortUptoRow : OpenClaim := { program := "ytidojhgkpgomcaa", sum := "7b030524aa09d44851f99f025ea169c3af46f43ed622331a64f89c90d2c1173c", func := "loop.example/g00699/laws.FnExactPanesSort", spec := "fnExactPanesSort", unfollowed := true, recurses := true, apart := false, narrowed := true }
def FnExactPanesSortUptoSaid : Prop := fnExactPanesSortUptoRow.holds Try.pinned (OpenSpec.upto fnExactPanesSortSpec)

/-- 'laws.FnExactBoxAck', WHERE WHAT IT READS IS OF BULK AT MOST 1048576: true; the input reads as it did. -/
def fnExactBoxAckUptoRow : OpenClaim := { program := "ytidojhgkpgomcaa", sum := "7b030524aa09d44851f99f025ea169c3af46f43ed622331a64f89c90d2c1173c", func := "loop.example/g00699/laws.FnExactBoxAck", spec := "fnExactBoxAck", unfollowed := true, recurses := true, apart := false, narrowed := true }
def FnExactBoxAckUptoSaid : Prop := fnExactBoxAckUptoRow.holds Try.pinned (OpenSpec.upto fnExactBoxAckSpec)

/-- 'laws.FnExactPaneOf', WHERE WHAT IT READS IS OF BULK AT MOST 1048576: true; the input reads as it did. -/
def fnExactPaneOfUptoRow : OpenClaim := { program := "ytidojhgkpgomcaa", sum := "7b030524aa09d44851f99f025ea169c3af46f43ed622331a64f89c90d2c1173c", func := "loop.example/g00699/laws.FnExactPaneOf", spec := "fnExactPaneOf", inPlace := ["math/bits.Add64"], named := ["math/bits.divideError", "math/bits.overflowError"], apart := false, narrowed := true }
def FnExactPaneOfUptoSaid : Prop := fnExactPaneOfUptoRow.holds Try.pinned (OpenSpec.upto fnExactPaneOfSpec)

end Rows
end Go.Proofs.Ytidojhgkpgomcaa
