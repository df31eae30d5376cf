/-
  DERIVED. GIVEN WITH THE SEED: THE CARDS: each row of YtlaklfpelkmjjaaGreatDoorRows.lean that lists a variable, with what it lists TIED to the program's text (the seventh form; the later family's looks); each row that meets fmt, with fmt's text TOLD by the authors' own Lean function (tested against real Go, not proved from fmt's source: count such statements apart). THE CARD IS WHAT COUNTS. Prove the row's statement (the work); the ties are given (YtlaklfpelkmjjaaGreatDoorTie.lean); close each card by the builder's one call (the guide's Derived/Test/ToyasCard.lean, 'card_holds'). Laid BY PROGRAM, IN A SANDBOX (cutbox-door.mjs). By AI agents, Wed Nov 11 2026. No macro, syntax, notation, axiom, sorry.
-/
import Derived.Test.YtlaklfpelkmjjaaGreatDoorRows
import GoSem.ClaimSeven
namespace Go.Proofs.YtlaklfpelkmjjaaGreatDoor
namespace Rows

def fnExactOpTextReadCard : Claim7 := { stood := { row := fnExactOpTextReadRow, standIns := [], harness := (true, "d4a33c1bdd37947acb33eb5f66e8b16e86f5bfd11b8c9736975d3bd6766a0ca3"), looks := true }, kinds := [], alts := [], laidByText := true, laidKinds := [.data, .data, .data, .data, .sentinel, .sentinel, .listed, .data, .pinned], laidTests := true, laidLooks := .later }
def FnExactOpTextReadCardSaid : Prop := Claim7.holds Tryz.pinned (.plain (OpenSpec.ofChange fnExactOpTextReadSpec)) fnExactOpTextReadCard

def fnExactOpTextReadUptoCard : Claim7 := { stood := { row := fnExactOpTextReadUptoRow, standIns := [], harness := (true, "d4a33c1bdd37947acb33eb5f66e8b16e86f5bfd11b8c9736975d3bd6766a0ca3"), looks := true }, kinds := [], alts := [], laidByText := true, laidKinds := [.data, .data, .data, .data, .sentinel, .sentinel, .listed, .data, .pinned], laidTests := true, laidLooks := .later }
def FnExactOpTextReadUptoCardSaid : Prop := Claim7.holds Tryz.pinned (.plain (OpenSpec.upto fnExactOpTextReadSpec)) fnExactOpTextReadUptoCard
end Rows
end Go.Proofs.YtlaklfpelkmjjaaGreatDoor
