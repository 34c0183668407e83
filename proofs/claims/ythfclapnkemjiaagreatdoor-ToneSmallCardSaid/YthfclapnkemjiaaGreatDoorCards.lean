/-
  DERIVED. GIVEN WITH THE SEED: THE CARDS: each row of YthfclapnkemjiaaGreatDoorRows.lean that lists a variable, with what it lists TIED to the program's text (the seventh form; the later family's looks); each row that meets fmt, with fmt's text TOLD by the authors' own Lean function (tested against real Go, not proved from fmt's source: count such statements apart). THE CARD IS WHAT COUNTS. Prove the row's statement (the work); the ties are given (YthfclapnkemjiaaGreatDoorTie.lean); close each card by the builder's one call (the guide's Derived/Test/ToyasCard.lean, 'card_holds'). Laid BY PROGRAM, IN A SANDBOX (cutbox-door.mjs). By AI agents, Wed Nov 11 2026. No macro, syntax, notation, axiom, sorry.
-/
import Derived.Test.YthfclapnkemjiaaGreatDoorRows
import GoSem.ClaimSeven
namespace Go.Proofs.YthfclapnkemjiaaGreatDoor
namespace Rows

/-- THE TIED CARD OF 'custoslaw05.ToneSmall'. -/
def toneSmallCard : Claim7 := { stood := { row := toneSmallRow, standIns := [], harness := (true, "6b4a91e2136428aa70c7f14f673dcff4a42c144beea60f9ce98b42c147829ca4"), looks := false }, kinds := [], alts := [], laidByText := true, laidKinds := [.data, .data, .data], laidTests := true, laidLooks := .later }
def ToneSmallCardSaid : Prop := Claim7.holds Tryz.pinned (.plain (OpenSpec.ofChange toneSmallSpec)) toneSmallCard

/-- THE SECOND FORM's CARD OF 'custoslaw05.ToneSmall'. -/
def toneSmallUptoCard : Claim7 := { stood := { row := toneSmallUptoRow, standIns := [], harness := (true, "6b4a91e2136428aa70c7f14f673dcff4a42c144beea60f9ce98b42c147829ca4"), looks := false }, kinds := [], alts := [], laidByText := true, laidKinds := [.data, .data, .data], laidTests := true, laidLooks := .later }
def ToneSmallUptoCardSaid : Prop := Claim7.holds Tryz.pinned (.plain (OpenSpec.upto toneSmallSpec)) toneSmallUptoCard
end Rows
end Go.Proofs.YthfclapnkemjiaaGreatDoor
