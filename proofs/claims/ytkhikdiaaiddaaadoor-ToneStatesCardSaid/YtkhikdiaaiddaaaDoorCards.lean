/-
  DERIVED. GIVEN WITH THE SEED: THE CARDS: each row of YtkhikdiaaiddaaaDoorRows.lean that lists a variable, with what it lists TIED to the program's text (the seventh form; the later family's looks); each row that meets fmt, with fmt's text TOLD by the authors' own Lean function (tested against real Go, not proved from fmt's source: count such statements apart). THE CARD IS WHAT COUNTS. Prove the row's statement (the work); the ties are given (YtkhikdiaaiddaaaDoorTie.lean); close each card by the builder's one call (the guide's Derived/Test/ToyasCard.lean, 'card_holds'). Laid BY PROGRAM, IN A SANDBOX (cutbox-door.mjs). By AI agents, Wed Nov 11 2026. No macro, syntax, notation, axiom, sorry.
-/
import Derived.Test.YtkhikdiaaiddaaaDoorRows
import GoSem.ClaimSeven
namespace Go.Proofs.YtkhikdiaaiddaaaDoor
namespace Rows

/-- THE TIED CARD OF 'custoslaw05.ToneHeard'. -/
def toneHeardCard : Claim7 := { stood := { row := toneHeardRow, standIns := [], harness := (true, "cf615ac3a62663ceb63cb5a46f36c9030f1af0e40db2121f9da97a300828156f"), looks := false }, kinds := [], alts := [], laidByText := true, laidKinds := [.data, .data, .data], laidTests := true, laidLooks := .later }
def ToneHeardCardSaid : Prop := Claim7.holds Tryd.pinned (.plain (OpenSpec.ofChange toneHeardSpec)) toneHeardCard

/-- THE TIED CARD OF 'custoslaw05.ToneLengths'. -/
def toneLengthsCard : Claim7 := { stood := { row := toneLengthsRow, standIns := [], harness := (true, "cf615ac3a62663ceb63cb5a46f36c9030f1af0e40db2121f9da97a300828156f"), looks := false }, kinds := [], alts := [], laidByText := true, laidKinds := [.data, .data, .data], laidTests := true, laidLooks := .later }
def ToneLengthsCardSaid : Prop := Claim7.holds Tryd.pinned (.plain (OpenSpec.ofChange toneLengthsSpec)) toneLengthsCard

/-- THE TIED CARD OF 'custoslaw05.ToneLasts'. -/
def toneLastsCard : Claim7 := { stood := { row := toneLastsRow, standIns := [], harness := (true, "cf615ac3a62663ceb63cb5a46f36c9030f1af0e40db2121f9da97a300828156f"), looks := false }, kinds := [], alts := [], laidByText := true, laidKinds := [.data, .data, .data], laidTests := true, laidLooks := .later }
def ToneLastsCardSaid : Prop := Claim7.holds Tryd.pinned (.plain (OpenSpec.ofChange toneLastsSpec)) toneLastsCard

/-- THE TIED CARD OF 'custoslaw05.ToneStates'. -/
def toneStatesCard : Claim7 := { stood := { row := toneStatesRow, standIns := [], harness := (true, "cf615ac3a62663ceb63cb5a46f36c9030f1af0e40db2121f9da97a300828156f"), looks := false }, kinds := [], alts := [], laidByText := true, laidKinds := [.data, .data, .data], laidTests := true, laidLooks := .later }
def ToneStatesCardSaid : Prop := Claim7.holds Tryd.pinned (.plain (OpenSpec.ofChange toneStatesSpec)) toneStatesCard

/-- THE TIED CARD OF 'custoslaw05.TonePitches'. -/
def tonePitchesCard : Claim7 := { stood := { row := tonePitchesRow, standIns := [], harness := (true, "cf615ac3a62663ceb63cb5a46f36c9030f1af0e40db2121f9da97a300828156f"), looks := false }, kinds := [], alts := [], laidByText := true, laidKinds := [.data, .data, .data], laidTests := true, laidLooks := .later }
def TonePitchesCardSaid : Prop := Claim7.holds Tryd.pinned (.plain (OpenSpec.ofChange tonePitchesSpec)) tonePitchesCard

/-- THE TIED CARD OF 'custoslaw05.ToneStaves'. -/
def toneStavesCard : Claim7 := { stood := { row := toneStavesRow, standIns := [], harness := (true, "cf615ac3a62663ceb63cb5a46f36c9030f1af0e40db2121f9da97a300828156f"), looks := false }, kinds := [], alts := [], laidByText := true, laidKinds := [.data, .data, .data], laidTests := true, laidLooks := .later }
def ToneStavesCardSaid : Prop := Claim7.holds Tryd.pinned (.plain (OpenSpec.ofChange toneStavesSpec)) toneStavesCard

/-- THE TIED CARD OF 'custoslaw05.ToneFractions'. -/
def toneFractionsCard : Claim7 := { stood := { row := toneFractionsRow, standIns := [], harness := (true, "cf615ac3a62663ceb63cb5a46f36c9030f1af0e40db2121f9da97a300828156f"), looks := false }, kinds := [], alts := [], laidByText := true, laidKinds := [.data, .data, .data], laidTests := true, laidLooks := .later }
def ToneFractionsCardSaid : Prop := Claim7.holds Tryd.pinned (.plain (OpenSpec.ofChange toneFractionsSpec)) toneFractionsCard

/-- THE TIED CARD OF 'custoslaw05.ToneField'. -/
def toneFieldCard : Claim7 := { stood := { row := toneFieldRow, standIns := [], harness := (true, "cf615ac3a62663ceb63cb5a46f36c9030f1af0e40db2121f9da97a300828156f"), looks := false }, kinds := [], alts := [], laidByText := true, laidKinds := [.data, .data, .data], laidTests := true, laidLooks := .later }
def ToneFieldCardSaid : Prop := Claim7.holds Tryd.pinned (.plain (OpenSpec.ofChange toneFieldSpec)) toneFieldCard

/-- THE TIED CARD OF 'custoslaw05.ToneIntervals'. -/
def toneIntervalsCard : Claim7 := { stood := { row := toneIntervalsRow, standIns := [], harness := (true, "cf615ac3a62663ceb63cb5a46f36c9030f1af0e40db2121f9da97a300828156f"), looks := false }, kinds := [], alts := [], laidByText := true, laidKinds := [.data, .data, .data], laidTests := true, laidLooks := .later }
def ToneIntervalsCardSaid : Prop := Claim7.holds Tryd.pinned (.plain (OpenSpec.ofChange toneIntervalsSpec)) toneIntervalsCard

/-- THE TIED CARD OF 'custoslaw05.ToneMoves'. -/
def toneMovesCard : Claim7 := { stood := { row := toneMovesRow, standIns := [], harness := (true, "cf615ac3a62663ceb63cb5a46f36c9030f1af0e40db2121f9da97a300828156f"), looks := false }, kinds := [], alts := [], laidByText := true, laidKinds := [.data, .data, .data], laidTests := true, laidLooks := .later }
def ToneMovesCardSaid : Prop := Claim7.holds Tryd.pinned (.plain (OpenSpec.ofChange toneMovesSpec)) toneMovesCard

/-- THE TIED CARD OF 'custoslaw05.ToneNames'. -/
def toneNamesCard : Claim7 := { stood := { row := toneNamesRow, standIns := [], harness := (true, "cf615ac3a62663ceb63cb5a46f36c9030f1af0e40db2121f9da97a300828156f"), looks := false }, kinds := [], alts := [], laidByText := true, laidKinds := [.data, .data, .data], laidTests := true, laidLooks := .later }
def ToneNamesCardSaid : Prop := Claim7.holds Tryd.pinned (.plain (OpenSpec.ofChange toneNamesSpec)) toneNamesCard

/-- THE SECOND FORM's CARD OF 'custoslaw05.ToneHeard'. -/
def toneHeardUptoCard : Claim7 := { stood := { row := toneHeardUptoRow, standIns := [], harness := (true, "cf615ac3a62663ceb63cb5a46f36c9030f1af0e40db2121f9da97a300828156f"), looks := false }, kinds := [], alts := [], laidByText := true, laidKinds := [.data, .data, .data], laidTests := true, laidLooks := .later }
def ToneHeardUptoCardSaid : Prop := Claim7.holds Tryd.pinned (.plain (OpenSpec.upto toneHeardSpec)) toneHeardUptoCard

/-- THE SECOND FORM's CARD OF 'custoslaw05.ToneLengths'. -/
def toneLengthsUptoCard : Claim7 := { stood := { row := toneLengthsUptoRow, standIns := [], harness := (true, "cf615ac3a62663ceb63cb5a46f36c9030f1af0e40db2121f9da97a300828156f"), looks := false }, kinds := [], alts := [], laidByText := true, laidKinds := [.data, .data, .data], laidTests := true, laidLooks := .later }
def ToneLengthsUptoCardSaid : Prop := Claim7.holds Tryd.pinned (.plain (OpenSpec.upto toneLengthsSpec)) toneLengthsUptoCard

/-- THE SECOND FORM's CARD OF 'custoslaw05.ToneLasts'. -/
def toneLastsUptoCard : Claim7 := { stood := { row := toneLastsUptoRow, standIns := [], harness := (true, "cf615ac3a62663ceb63cb5a46f36c9030f1af0e40db2121f9da97a300828156f"), looks := false }, kinds := [], alts := [], laidByText := true, laidKinds := [.data, .data, .data], laidTests := true, laidLooks := .later }
def ToneLastsUptoCardSaid : Prop := Claim7.holds Tryd.pinned (.plain (OpenSpec.upto toneLastsSpec)) toneLastsUptoCard

/-- THE SECOND FORM's CARD OF 'custoslaw05.ToneStates'. -/
def toneStatesUptoCard : Claim7 := { stood := { row := toneStatesUptoRow, standIns := [], harness := (true, "cf615ac3a62663ceb63cb5a46f36c9030f1af0e40db2121f9da97a300828156f"), looks := false }, kinds := [], alts := [], laidByText := true, laidKinds := [.data, .data, .data], laidTests := true, laidLooks := .later }
def ToneStatesUptoCardSaid : Prop := Claim7.holds Tryd.pinned (.plain (OpenSpec.upto toneStatesSpec)) toneStatesUptoCard

/-- THE SECOND FORM's CARD OF 'custoslaw05.TonePitches'. -/
def tonePitchesUptoCard : Claim7 := { stood := { row := tonePitchesUptoRow, standIns := [], harness := (true, "cf615ac3a62663ceb63cb5a46f36c9030f1af0e40db2121f9da97a300828156f"), looks := false }, kinds := [], alts := [], laidByText := true, laidKinds := [.data, .data, .data], laidTests := true, laidLooks := .later }
def TonePitchesUptoCardSaid : Prop := Claim7.holds Tryd.pinned (.plain (OpenSpec.upto tonePitchesSpec)) tonePitchesUptoCard

/-- THE SECOND FORM's CARD OF 'custoslaw05.ToneStaves'. -/
def toneStavesUptoCard : Claim7 := { stood := { row := toneStavesUptoRow, standIns := [], harness := (true, "cf615ac3a62663ceb63cb5a46f36c9030f1af0e40db2121f9da97a300828156f"), looks := false }, kinds := [], alts := [], laidByText := true, laidKinds := [.data, .data, .data], laidTests := true, laidLooks := .later }
def ToneStavesUptoCardSaid : Prop := Claim7.holds Tryd.pinned (.plain (OpenSpec.upto toneStavesSpec)) toneStavesUptoCard

/-- THE SECOND FORM's CARD OF 'custoslaw05.ToneFractions'. -/
def toneFractionsUptoCard : Claim7 := { stood := { row := toneFractionsUptoRow, standIns := [], harness := (true, "cf615ac3a62663ceb63cb5a46f36c9030f1af0e40db2121f9da97a300828156f"), looks := false }, kinds := [], alts := [], laidByText := true, laidKinds := [.data, .data, .data], laidTests := true, laidLooks := .later }
def ToneFractionsUptoCardSaid : Prop := Claim7.holds Tryd.pinned (.plain (OpenSpec.upto toneFractionsSpec)) toneFractionsUptoCard

/-- THE SECOND FORM's CARD OF 'custoslaw05.ToneField'. -/
def toneFieldUptoCard : Claim7 := { stood := { row := toneFieldUptoRow, standIns := [], harness := (true, "cf615ac3a62663ceb63cb5a46f36c9030f1af0e40db2121f9da97a300828156f"), looks := false }, kinds := [], alts := [], laidByText := true, laidKinds := [.data, .data, .data], laidTests := true, laidLooks := .later }
def ToneFieldUptoCardSaid : Prop := Claim7.holds Tryd.pinned (.plain (OpenSpec.upto toneFieldSpec)) toneFieldUptoCard

/-- THE SECOND FORM's CARD OF 'custoslaw05.ToneIntervals'. -/
def toneIntervalsUptoCard : Claim7 := { stood := { row := toneIntervalsUptoRow, standIns := [], harness := (true, "cf615ac3a62663ceb63cb5a46f36c9030f1af0e40db2121f9da97a300828156f"), looks := false }, kinds := [], alts := [], laidByText := true, laidKinds := [.data, .data, .data], laidTests := true, laidLooks := .later }
def ToneIntervalsUptoCardSaid : Prop := Claim7.holds Tryd.pinned (.plain (OpenSpec.upto toneIntervalsSpec)) toneIntervalsUptoCard

/-- THE SECOND FORM's CARD OF 'custoslaw05.ToneMoves'. -/
def toneMovesUptoCard : Claim7 := { stood := { row := toneMovesUptoRow, standIns := [], harness := (true, "cf615ac3a62663ceb63cb5a46f36c9030f1af0e40db2121f9da97a300828156f"), looks := false }, kinds := [], alts := [], laidByText := true, laidKinds := [.data, .data, .data], laidTests := true, laidLooks := .later }
def ToneMovesUptoCardSaid : Prop := Claim7.holds Tryd.pinned (.plain (OpenSpec.upto toneMovesSpec)) toneMovesUptoCard

/-- THE SECOND FORM's CARD OF 'custoslaw05.ToneNames'. -/
def toneNamesUptoCard : Claim7 := { stood := { row := toneNamesUptoRow, standIns := [], harness := (true, "cf615ac3a62663ceb63cb5a46f36c9030f1af0e40db2121f9da97a300828156f"), looks := false }, kinds := [], alts := [], laidByText := true, laidKinds := [.data, .data, .data], laidTests := true, laidLooks := .later }
def ToneNamesUptoCardSaid : Prop := Claim7.holds Tryd.pinned (.plain (OpenSpec.upto toneNamesSpec)) toneNamesUptoCard
end Rows
end Go.Proofs.YtkhikdiaaiddaaaDoor
