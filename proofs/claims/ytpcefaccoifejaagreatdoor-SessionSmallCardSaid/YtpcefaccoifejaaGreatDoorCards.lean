/-
  DERIVED. GIVEN WITH THE SEED: THE CARDS: each row of YtpcefaccoifejaaGreatDoorRows.lean that lists a variable, with what it lists TIED to the program's text (the seventh form; the later family's looks); each row that meets fmt, with fmt's text TOLD by the authors' own Lean function (tested against real Go, not proved from fmt's source: count such statements apart). THE CARD IS WHAT COUNTS. Prove the row's statement (the work); the ties are given (YtpcefaccoifejaaGreatDoorTie.lean); close each card by the builder's one call (the guide's Derived/Test/ToyasCard.lean, 'card_holds'). Laid BY PROGRAM, IN A SANDBOX (cutbox-door.mjs). By AI agents, Wed Nov 11 2026. No macro, syntax, notation, axiom, sorry.
-/
import Derived.Test.YtpcefaccoifejaaGreatDoorRows
import GoSem.ClaimSeven
namespace Go.Proofs.YtpcefaccoifejaaGreatDoor
namespace Rows

/-- THE TIED CARD OF 'custoslaw13.SessionTexts'. -/
def sessionTextsCard : Claim7 := { stood := { row := sessionTextsRow, standIns := [], harness := (true, "3e3ecdf29ed93853138e48dd29d453707e2546d499f2be2c7ecc285bd9415c36"), looks := true }, kinds := [], alts := [], laidByText := true, laidKinds := [.data, .data, .data, .data, .sentinel, .sentinel, .pinned], laidTests := true, laidLooks := .later }
def SessionTextsCardSaid : Prop := Claim7.holds Tryz.pinned (.plain (OpenSpec.ofChange sessionTextsSpec)) sessionTextsCard

/-- THE TIED CARD OF 'custoslaw13.SessionSmall'. -/
def sessionSmallCard : Claim7 := { stood := { row := sessionSmallRow, standIns := [], harness := (true, "3e3ecdf29ed93853138e48dd29d453707e2546d499f2be2c7ecc285bd9415c36"), looks := true }, kinds := [], alts := [], laidByText := true, laidKinds := [.data, .data, .data, .data, .sentinel, .sentinel, .pinned], laidTests := true, laidLooks := .later }
def SessionSmallCardSaid : Prop := Claim7.holds Tryz.pinned (.plain (OpenSpec.ofChange sessionSmallSpec)) sessionSmallCard

/-- THE SECOND FORM's CARD OF 'custoslaw13.SessionTexts'. -/
def sessionTextsUptoCard : Claim7 := { stood := { row := sessionTextsUptoRow, standIns := [], harness := (true, "3e3ecdf29ed93853138e48dd29d453707e2546d499f2be2c7ecc285bd9415c36"), looks := true }, kinds := [], alts := [], laidByText := true, laidKinds := [.data, .data, .data, .data, .sentinel, .sentinel, .pinned], laidTests := true, laidLooks := .later }
def SessionTextsUptoCardSaid : Prop := Claim7.holds Tryz.pinned (.plain (OpenSpec.upto sessionTextsSpec)) sessionTextsUptoCard

/-- THE SECOND FORM's CARD OF 'custoslaw13.SessionSmall'. -/
def sessionSmallUptoCard : Claim7 := { stood := { row := sessionSmallUptoRow, standIns := [], harness := (true, "3e3ecdf29ed93853138e48dd29d453707e2546d499f2be2c7ecc285bd9415c36"), looks := true }, kinds := [], alts := [], laidByText := true, laidKinds := [.data, .data, .data, .data, .sentinel, .sentinel, .pinned], laidTests := true, laidLooks := .later }
def SessionSmallUptoCardSaid : Prop := Claim7.holds Tryz.pinned (.plain (OpenSpec.upto sessionSmallSpec)) sessionSmallUptoCard
end Rows
end Go.Proofs.YtpcefaccoifejaaGreatDoor
