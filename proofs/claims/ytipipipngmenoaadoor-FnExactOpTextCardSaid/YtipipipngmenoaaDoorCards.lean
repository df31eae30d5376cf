/-
  DERIVED. GIVEN WITH THE SEED: THE CARDS: each row of YtipipipngmenoaaDoorRows.lean that lists a variable, with what it lists TIED to the program's text (the seventh form; the later family's looks); each row that meets fmt, with fmt's text TOLD by the authors' own Lean function (tested against real Go, not proved from fmt's source: count such statements apart). THE CARD IS WHAT COUNTS. Prove the row's statement (the work); the ties are given (YtipipipngmenoaaDoorTie.lean); close each card by the builder's one call (the guide's Derived/Test/ToyasCard.lean, 'card_holds'). Laid BY PROGRAM, IN A SANDBOX (cutbox-door.mjs). By AI agents, Wed Nov 11 2026. No macro, syntax, notation, axiom, sorry.
-/
import Derived.Test.YtipipipngmenoaaDoorRows
import GoSem.ClaimSeven
namespace Go.Proofs.YtipipipngmenoaaDoor
namespace Rows

def fnExactBothTextCard : Claim7 := { stood := { row := fnExactBothTextRow, standIns := [], harness := (true, "ec9e9a289add74e964231e9c9886c35c1b846603b9a5ba0e5f16eeb1fe3504f6"), looks := false }, kinds := [], alts := [], laidByText := true, laidKinds := [.data, .data, .data], laidTests := true, laidLooks := .later }
def FnExactBothTextCardSaid : Prop := Claim7.holds Tryd.pinned (.plain (OpenSpec.ofChange fnExactBothTextSpec)) fnExactBothTextCard

def fnExactPaneTextCard : Claim7 := { stood := { row := fnExactPaneTextRow, standIns := [], harness := (true, "ec9e9a289add74e964231e9c9886c35c1b846603b9a5ba0e5f16eeb1fe3504f6"), looks := false }, kinds := [], alts := [], laidByText := true, laidKinds := [.data, .data, .data], laidTests := true, laidLooks := .later }
def FnExactPaneTextCardSaid : Prop := Claim7.holds Tryd.pinned (.plain (OpenSpec.ofChange fnExactPaneTextSpec)) fnExactPaneTextCard

def fnExactToldTextCard : Claim7 := { stood := { row := fnExactToldTextRow, standIns := [], harness := (true, "ec9e9a289add74e964231e9c9886c35c1b846603b9a5ba0e5f16eeb1fe3504f6"), looks := false }, kinds := [], alts := [], laidByText := true, laidKinds := [.data, .data, .data], laidTests := true, laidLooks := .later }
def FnExactToldTextCardSaid : Prop := Claim7.holds Tryd.pinned (.plain (OpenSpec.ofChange fnExactToldTextSpec)) fnExactToldTextCard

def fnExactOpTextCard : Claim7 := { stood := { row := fnExactOpTextRow, standIns := [], harness := (true, "ec9e9a289add74e964231e9c9886c35c1b846603b9a5ba0e5f16eeb1fe3504f6"), looks := false }, kinds := [], alts := [], laidByText := true, laidKinds := [.data, .data, .data, .listed, .data], laidTests := true, laidLooks := .later }
def FnExactOpTextCardSaid : Prop := Claim7.holds Tryd.pinned (.plain (OpenSpec.ofChange fnExactOpTextSpec)) fnExactOpTextCard

def fnExactBothTextUptoCard : Claim7 := { stood := { row := fnExactBothTextUptoRow, standIns := [], harness := (true, "ec9e9a289add74e964231e9c9886c35c1b846603b9a5ba0e5f16eeb1fe3504f6"), looks := false }, kinds := [], alts := [], laidByText := true, laidKinds := [.data, .data, .data], laidTests := true, laidLooks := .later }
def FnExactBothTextUptoCardSaid : Prop := Claim7.holds Tryd.pinned (.plain (OpenSpec.upto fnExactBothTextSpec)) fnExactBothTextUptoCard

def fnExactPaneTextUptoCard : Claim7 := { stood := { row := fnExactPaneTextUptoRow, standIns := [], harness := (true, "ec9e9a289add74e964231e9c9886c35c1b846603b9a5ba0e5f16eeb1fe3504f6"), looks := false }, kinds := [], alts := [], laidByText := true, laidKinds := [.data, .data, .data], laidTests := true, laidLooks := .later }
def FnExactPaneTextUptoCardSaid : Prop := Claim7.holds Tryd.pinned (.plain (OpenSpec.upto fnExactPaneTextSpec)) fnExactPaneTextUptoCard

def fnExactToldTextUptoCard : Claim7 := { stood := { row := fnExactToldTextUptoRow, standIns := [], harness := (true, "ec9e9a289add74e964231e9c9886c35c1b846603b9a5ba0e5f16eeb1fe3504f6"), looks := false }, kinds := [], alts := [], laidByText := true, laidKinds := [.data, .data, .data], laidTests := true, laidLooks := .later }
def FnExactToldTextUptoCardSaid : Prop := Claim7.holds Tryd.pinned (.plain (OpenSpec.upto fnExactToldTextSpec)) fnExactToldTextUptoCard

def fnExactOpTextUptoCard : Claim7 := { stood := { row := fnExactOpTextUptoRow, standIns := [], harness := (true, "ec9e9a289add74e964231e9c9886c35c1b846603b9a5ba0e5f16eeb1fe3504f6"), looks := false }, kinds := [], alts := [], laidByText := true, laidKinds := [.data, .data, .data, .listed, .data], laidTests := true, laidLooks := .later }
def FnExactOpTextUptoCardSaid : Prop := Claim7.holds Tryd.pinned (.plain (OpenSpec.upto fnExactOpTextSpec)) fnExactOpTextUptoCard
end Rows
end Go.Proofs.YtipipipngmenoaaDoor
