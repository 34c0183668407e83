/-
  DERIVED. GIVEN WITH THE SEED: THE CARDS: each row of YtpcefaccoifejaaDoorRows.lean that lists a variable, with what it lists TIED to the program's text (the seventh form; the later family's looks); each row that meets fmt, with fmt's text TOLD by the authors' own Lean function (tested against real Go, not proved from fmt's source: count such statements apart). THE CARD IS WHAT COUNTS. Prove the row's statement (the work); the ties are given (YtpcefaccoifejaaDoorTie.lean); close each card by the builder's one call (the guide's Derived/Test/ToyasCard.lean, 'card_holds'). Laid BY PROGRAM, IN A SANDBOX (cutbox-door.mjs). By AI agents, Wed Nov 11 2026. No macro, syntax, notation, axiom, sorry.
-/
import Derived.Test.YtpcefaccoifejaaDoorRows
import GoSem.ClaimSeven
namespace Go.Proofs.YtpcefaccoifejaaDoor
namespace Rows

/-- THE TIED CARD OF 'custoslaw13.SessionReplays'. -/
def sessionReplaysCard : Claim7 := { stood := { row := sessionReplaysRow, standIns := [], harness := (true, "ed27f0bf54ab348a93d4e4af4d861580fca3f71b1406fc6afc60a227927f2e60"), looks := true }, kinds := [], alts := [], laidByText := true, laidKinds := [.data, .data, .data], laidTests := true, laidLooks := .later }
def SessionReplaysCardSaid : Prop := Claim7.holds Tryd.pinned (.plain (OpenSpec.ofChange sessionReplaysSpec)) sessionReplaysCard

/-- THE TIED CARD OF 'custoslaw13.SessionRuns'. -/
def sessionRunsCard : Claim7 := { stood := { row := sessionRunsRow, standIns := [], harness := (true, "ed27f0bf54ab348a93d4e4af4d861580fca3f71b1406fc6afc60a227927f2e60"), looks := true }, kinds := [], alts := [], laidByText := true, laidKinds := [.data, .data, .data], laidTests := true, laidLooks := .later }
def SessionRunsCardSaid : Prop := Claim7.holds Tryd.pinned (.plain (OpenSpec.ofChange sessionRunsSpec)) sessionRunsCard

/-- THE TIED CARD OF 'custoslaw13.SessionMerges'. -/
def sessionMergesCard : Claim7 := { stood := { row := sessionMergesRow, standIns := [], harness := (true, "ed27f0bf54ab348a93d4e4af4d861580fca3f71b1406fc6afc60a227927f2e60"), looks := true }, kinds := [], alts := [], laidByText := true, laidKinds := [.data, .data, .data], laidTests := true, laidLooks := .later }
def SessionMergesCardSaid : Prop := Claim7.holds Tryd.pinned (.plain (OpenSpec.ofChange sessionMergesSpec)) sessionMergesCard

/-- THE TIED CARD OF 'custoslaw13.SessionLines'. -/
def sessionLinesCard : Claim7 := { stood := { row := sessionLinesRow, standIns := [], harness := (true, "ed27f0bf54ab348a93d4e4af4d861580fca3f71b1406fc6afc60a227927f2e60"), looks := true }, kinds := [], alts := [], laidByText := true, laidKinds := [.data, .data, .data, .data, .sentinel, .sentinel, .pinned], laidTests := true, laidLooks := .later }
def SessionLinesCardSaid : Prop := Claim7.holds Tryd.pinned (.plain (OpenSpec.ofChange sessionLinesSpec)) sessionLinesCard

/-- THE SECOND FORM's CARD OF 'custoslaw13.SessionReplays'. -/
def sessionReplaysUptoCard : Claim7 := { stood := { row := sessionReplaysUptoRow, standIns := [], harness := (true, "ed27f0bf54ab348a93d4e4af4d861580fca3f71b1406fc6afc60a227927f2e60"), looks := true }, kinds := [], alts := [], laidByText := true, laidKinds := [.data, .data, .data], laidTests := true, laidLooks := .later }
def SessionReplaysUptoCardSaid : Prop := Claim7.holds Tryd.pinned (.plain (OpenSpec.upto sessionReplaysSpec)) sessionReplaysUptoCard

/-- THE SECOND FORM's CARD OF 'custoslaw13.SessionRuns'. -/
def sessionRunsUptoCard : Claim7 := { stood := { row := sessionRunsUptoRow, standIns := [], harness := (true, "ed27f0bf54ab348a93d4e4af4d861580fca3f71b1406fc6afc60a227927f2e60"), looks := true }, kinds := [], alts := [], laidByText := true, laidKinds := [.data, .data, .data], laidTests := true, laidLooks := .later }
def SessionRunsUptoCardSaid : Prop := Claim7.holds Tryd.pinned (.plain (OpenSpec.upto sessionRunsSpec)) sessionRunsUptoCard

/-- THE SECOND FORM's CARD OF 'custoslaw13.SessionMerges'. -/
def sessionMergesUptoCard : Claim7 := { stood := { row := sessionMergesUptoRow, standIns := [], harness := (true, "ed27f0bf54ab348a93d4e4af4d861580fca3f71b1406fc6afc60a227927f2e60"), looks := true }, kinds := [], alts := [], laidByText := true, laidKinds := [.data, .data, .data], laidTests := true, laidLooks := .later }
def SessionMergesUptoCardSaid : Prop := Claim7.holds Tryd.pinned (.plain (OpenSpec.upto sessionMergesSpec)) sessionMergesUptoCard

/-- THE SECOND FORM's CARD OF 'custoslaw13.SessionLines'. -/
def sessionLinesUptoCard : Claim7 := { stood := { row := sessionLinesUptoRow, standIns := [], harness := (true, "ed27f0bf54ab348a93d4e4af4d861580fca3f71b1406fc6afc60a227927f2e60"), looks := true }, kinds := [], alts := [], laidByText := true, laidKinds := [.data, .data, .data, .data, .sentinel, .sentinel, .pinned], laidTests := true, laidLooks := .later }
def SessionLinesUptoCardSaid : Prop := Claim7.holds Tryd.pinned (.plain (OpenSpec.upto sessionLinesSpec)) sessionLinesUptoCard
end Rows
end Go.Proofs.YtpcefaccoifejaaDoor
