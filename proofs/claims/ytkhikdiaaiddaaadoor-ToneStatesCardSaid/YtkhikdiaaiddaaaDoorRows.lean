/-
  NARROWER THAN 'FOR EVERY INPUT', by the rows' own cells (each row's printed sentence says how): ToneHeard: laid · ToneLengths: laid · ToneLasts: laid · ToneStates: laid · TonePitches: laid · ToneStaves: laid · ToneFractions: laid · ToneField: laid · ToneIntervals: laid · ToneMoves: laid · ToneNames: laid.
  DERIVED. THE GIVEN ROWS OF THIS SEAT. 11 by the template 'for every input the law returns true; each argument reads behind the call as it read before'; 0 by the template 'total and deterministic' (their statements: YtkhikdiaaiddaaaDoorTotals.lean).
  GIVEN WITH THE SEED: the statements are not yours to turn. If you find one false, say at which input.
  Laid BY PROGRAM, IN A SANDBOX (cutbox-rows.mjs): the forced cells as the released guide's own fill.sh prints them over the translation a5344279fdec4235… (all of the seat's roots in one cut). By AI agents, Wed Nov 11 2026. No macro, syntax, notation, axiom, sorry.
-/
import Derived.Test.YtkhikdiaaiddaaaDoorChecked
import GoSem.Claim
import GoSem.ClaimJoined
import GoSem.ClaimMapViews
import Derived.JoinedTies
import Derived.KernelRfl
namespace Go.Proofs.YtkhikdiaaiddaaaDoor
/- THE CELL 'sum', in the pinned program and in every row, IS THE sha256 OF THE DUMP (.gsa) THAT YtkhikdiaaiddaaaDoorProg.lean LOADS. Nothing in Lean hashes anything: it is a label: what it is worth is what the hold of that sum in a sandbox is worth. -/
noncomputable def Tryd.pinned : Pinned := { name := "ytkhikdiaaiddaaadoor", sum := "a5344279fdec423527441fe13ba266026c3aa93d66c01990d1bc1839a73306fe", checked := Tryd.checked }
namespace Rows
def none {H : Type} : Left H := { results := [], args := [] }

/- WHAT THE LISTED PACKAGE-LEVEL VARIABLES READ AS WHEN THE CALL BEGINS. Each datum BY PROGRAM (the guide's laid-datum.mjs) off the statement by which the dump's own 'gosem.cut.vars' lays the variable. In a bare row this is a premise. The card (YtkhikdiaaiddaaaDoorCards.lean) ties it to the program's text. -/
def laid_math_bits_deBruijn32tab {H : Type} : DataW H := .agg [.lit (.int .u8 0), .lit (.int .u8 1), .lit (.int .u8 28), .lit (.int .u8 2), .lit (.int .u8 29), .lit (.int .u8 14), .lit (.int .u8 24), .lit (.int .u8 3), .lit (.int .u8 30), .lit (.int .u8 22), .lit (.int .u8 20), .lit (.int .u8 15), .lit (.int .u8 25), .lit (.int .u8 17), .lit (.int .u8 4), .lit (.int .u8 8), .lit (.int .u8 31), .lit (.int .u8 27), .lit (.int .u8 13), .lit (.int .u8 23), .lit (.int .u8 21), .lit (.int .u8 19), .lit (.int .u8 16), .lit (.int .u8 7), .lit (.int .u8 26), .lit (.int .u8 12), .lit (.int .u8 18), .lit (.int .u8 6), .lit (.int .u8 11), .lit (.int .u8 5), .lit (.int .u8 10), .lit (.int .u8 9)]
def laid_math_bits_deBruijn64tab {H : Type} : DataW H := .agg [.lit (.int .u8 0), .lit (.int .u8 1), .lit (.int .u8 56), .lit (.int .u8 2), .lit (.int .u8 57), .lit (.int .u8 49), .lit (.int .u8 28), .lit (.int .u8 3), .lit (.int .u8 61), .lit (.int .u8 58), .lit (.int .u8 42), .lit (.int .u8 50), .lit (.int .u8 38), .lit (.int .u8 29), .lit (.int .u8 17), .lit (.int .u8 4), .lit (.int .u8 62), .lit (.int .u8 47), .lit (.int .u8 59), .lit (.int .u8 36), .lit (.int .u8 45), .lit (.int .u8 43), .lit (.int .u8 51), .lit (.int .u8 22), .lit (.int .u8 53), .lit (.int .u8 39), .lit (.int .u8 33), .lit (.int .u8 30), .lit (.int .u8 24), .lit (.int .u8 18), .lit (.int .u8 12), .lit (.int .u8 5), .lit (.int .u8 63), .lit (.int .u8 55), .lit (.int .u8 48), .lit (.int .u8 27), .lit (.int .u8 60), .lit (.int .u8 41), .lit (.int .u8 37), .lit (.int .u8 16), .lit (.int .u8 46), .lit (.int .u8 35), .lit (.int .u8 44), .lit (.int .u8 21), .lit (.int .u8 52), .lit (.int .u8 32), .lit (.int .u8 23), .lit (.int .u8 11), .lit (.int .u8 54), .lit (.int .u8 26), .lit (.int .u8 40), .lit (.int .u8 15), .lit (.int .u8 34), .lit (.int .u8 20), .lit (.int .u8 31), .lit (.int .u8 10), .lit (.int .u8 25), .lit (.int .u8 14), .lit (.int .u8 19), .lit (.int .u8 9), .lit (.int .u8 13), .lit (.int .u8 8), .lit (.int .u8 7), .lit (.int .u8 6)]
def laid_internal_strconv_uint64pow10 {H : Type} : DataW H := .agg [.lit (.int .u64 1), .lit (.int .u64 10), .lit (.int .u64 100), .lit (.int .u64 1000), .lit (.int .u64 10000), .lit (.int .u64 100000), .lit (.int .u64 1000000), .lit (.int .u64 10000000), .lit (.int .u64 100000000), .lit (.int .u64 1000000000), .lit (.int .u64 10000000000), .lit (.int .u64 100000000000), .lit (.int .u64 1000000000000), .lit (.int .u64 10000000000000), .lit (.int .u64 100000000000000), .lit (.int .u64 1000000000000000), .lit (.int .u64 10000000000000000), .lit (.int .u64 100000000000000000), .lit (.int .u64 1000000000000000000), .lit (.int .u64 10000000000000000000)]

/-- 'custoslaw05.ToneHeard': WHATEVER THE INPUT: true; the input reads as it did. -/
def toneHeardSpec : ChangeSpec := { name := "toneHeard", fn := fun _ => fun
  | [d1, d2] => { results := [.lit (.bool true)], args := [d1, d2] }
  | _ => none }
def toneHeardRow : OpenClaim := { program := "ytkhikdiaaiddaaadoor", sum := "a5344279fdec423527441fe13ba266026c3aa93d66c01990d1bc1839a73306fe", func := "custos/custoslaw05.ToneHeard", spec := "toneHeard", unfollowed := true, recurses := true, named := ["internal/strconv.uint64pow10", "math/bits.deBruijn32tab", "math/bits.deBruijn64tab"], apart := false, laid := [("math/bits.deBruijn32tab", laid_math_bits_deBruijn32tab), ("math/bits.deBruijn64tab", laid_math_bits_deBruijn64tab), ("internal/strconv.uint64pow10", laid_internal_strconv_uint64pow10)] }
def ToneHeardSaid : Prop := toneHeardRow.holds Tryd.pinned (OpenSpec.ofChange toneHeardSpec)

/-- ITS FALSE NEIGHBOUR: 'it returns false'. Refute it at one input. -/
def toneHeardWrong : ChangeSpec := { name := "toneHeard", fn := fun _ => fun
  | [d1, d2] => { results := [.lit (.bool false)], args := [d1, d2] }
  | _ => none }
def ToneHeardWrongFalsely : Prop := toneHeardRow.holds Tryd.pinned (OpenSpec.ofChange toneHeardWrong)

/-- 'custoslaw05.ToneLengths': WHATEVER THE INPUT: true; the input reads as it did. -/
def toneLengthsSpec : ChangeSpec := { name := "toneLengths", fn := fun _ => fun
  | [d1, d2, d3, d4, d5] => { results := [.lit (.bool true)], args := [d1, d2, d3, d4, d5] }
  | _ => none }
def toneLengthsRow : OpenClaim := { program := "ytkhikdiaaiddaaadoor", sum := "a5344279fdec423527441fe13ba266026c3aa93d66c01990d1bc1839a73306fe", func := "custos/custoslaw05.ToneLengths", spec := "toneLengths", unfollowed := true, recurses := true, named := ["internal/strconv.uint64pow10", "math/bits.deBruijn32tab", "math/bits.deBruijn64tab"], apart := false, laid := [("math/bits.deBruijn32tab", laid_math_bits_deBruijn32tab), ("math/bits.deBruijn64tab", laid_math_bits_deBruijn64tab), ("internal/strconv.uint64pow10", laid_internal_strconv_uint64pow10)] }
def ToneLengthsSaid : Prop := toneLengthsRow.holds Tryd.pinned (OpenSpec.ofChange toneLengthsSpec)

/-- ITS FALSE NEIGHBOUR: 'it returns false'. Refute it at one input. -/
def toneLengthsWrong : ChangeSpec := { name := "toneLengths", fn := fun _ => fun
  | [d1, d2, d3, d4, d5] => { results := [.lit (.bool false)], args := [d1, d2, d3, d4, d5] }
  | _ => none }
def ToneLengthsWrongFalsely : Prop := toneLengthsRow.holds Tryd.pinned (OpenSpec.ofChange toneLengthsWrong)

/-- 'custoslaw05.ToneLasts': WHATEVER THE INPUT: true; the input reads as it did. -/
def toneLastsSpec : ChangeSpec := { name := "toneLasts", fn := fun _ => fun
  | [d1, d2, d3] => { results := [.lit (.bool true)], args := [d1, d2, d3] }
  | _ => none }
def toneLastsRow : OpenClaim := { program := "ytkhikdiaaiddaaadoor", sum := "a5344279fdec423527441fe13ba266026c3aa93d66c01990d1bc1839a73306fe", func := "custos/custoslaw05.ToneLasts", spec := "toneLasts", unfollowed := true, recurses := true, named := ["internal/strconv.uint64pow10", "math/bits.deBruijn32tab", "math/bits.deBruijn64tab"], apart := false, laid := [("math/bits.deBruijn32tab", laid_math_bits_deBruijn32tab), ("math/bits.deBruijn64tab", laid_math_bits_deBruijn64tab), ("internal/strconv.uint64pow10", laid_internal_strconv_uint64pow10)] }
def ToneLastsSaid : Prop := toneLastsRow.holds Tryd.pinned (OpenSpec.ofChange toneLastsSpec)

/-- ITS FALSE NEIGHBOUR: 'it returns false'. Refute it at one input. -/
def toneLastsWrong : ChangeSpec := { name := "toneLasts", fn := fun _ => fun
  | [d1, d2, d3] => { results := [.lit (.bool false)], args := [d1, d2, d3] }
  | _ => none }
def ToneLastsWrongFalsely : Prop := toneLastsRow.holds Tryd.pinned (OpenSpec.ofChange toneLastsWrong)

/-- 'custoslaw05.ToneStates': WHATEVER THE INPUT: true; the input reads as it did. -/
def toneStatesSpec : ChangeSpec := { name := "toneStates", fn := fun _ => fun
  | [d1, d2] => { results := [.lit (.bool true)], args := [d1, d2] }
  | _ => none }
def toneStatesRow : OpenClaim := { program := "ytkhikdiaaiddaaadoor", sum := "a5344279fdec423527441fe13ba266026c3aa93d66c01990d1bc1839a73306fe", func := "custos/custoslaw05.ToneStates", spec := "toneStates", unfollowed := true, recurses := true, named := ["internal/strconv.uint64pow10", "math/bits.deBruijn32tab", "math/bits.deBruijn64tab"], apart := false, laid := [("math/bits.deBruijn32tab", laid_math_bits_deBruijn32tab), ("math/bits.deBruijn64tab", laid_math_bits_deBruijn64tab), ("internal/strconv.uint64pow10", laid_internal_strconv_uint64pow10)] }
def ToneStatesSaid : Prop := toneStatesRow.holds Tryd.pinned (OpenSpec.ofChange toneStatesSpec)

/-- ITS FALSE NEIGHBOUR: 'it returns false'. Refute it at one input. -/
def toneStatesWrong : ChangeSpec := { name := "toneStates", fn := fun _ => fun
  | [d1, d2] => { results := [.lit (.bool false)], args := [d1, d2] }
  | _ => none }
def ToneStatesWrongFalsely : Prop := toneStatesRow.holds Tryd.pinned (OpenSpec.ofChange toneStatesWrong)

/-- 'custoslaw05.TonePitches': WHATEVER THE INPUT: true; the input reads as it did. -/
def tonePitchesSpec : ChangeSpec := { name := "tonePitches", fn := fun _ => fun
  | [d1, d2] => { results := [.lit (.bool true)], args := [d1, d2] }
  | _ => none }
def tonePitchesRow : OpenClaim := { program := "ytkhikdiaaiddaaadoor", sum := "a5344279fdec423527441fe13ba266026c3aa93d66c01990d1bc1839a73306fe", func := "custos/custoslaw05.TonePitches", spec := "tonePitches", inPlace := ["internal/bytealg.IndexByteString"], unfollowed := true, recurses := true, named := ["internal/strconv.uint64pow10", "math/bits.deBruijn32tab", "math/bits.deBruijn64tab"], apart := false, laid := [("math/bits.deBruijn32tab", laid_math_bits_deBruijn32tab), ("math/bits.deBruijn64tab", laid_math_bits_deBruijn64tab), ("internal/strconv.uint64pow10", laid_internal_strconv_uint64pow10)] }
def TonePitchesSaid : Prop := tonePitchesRow.holds Tryd.pinned (OpenSpec.ofChange tonePitchesSpec)

/-- ITS FALSE NEIGHBOUR: 'it returns false'. Refute it at one input. -/
def tonePitchesWrong : ChangeSpec := { name := "tonePitches", fn := fun _ => fun
  | [d1, d2] => { results := [.lit (.bool false)], args := [d1, d2] }
  | _ => none }
def TonePitchesWrongFalsely : Prop := tonePitchesRow.holds Tryd.pinned (OpenSpec.ofChange tonePitchesWrong)

/-- 'custoslaw05.ToneStaves': WHATEVER THE INPUT: true; the input reads as it did. -/
def toneStavesSpec : ChangeSpec := { name := "toneStaves", fn := fun _ => fun
  | [d1, d2, d3, d4, d5] => { results := [.lit (.bool true)], args := [d1, d2, d3, d4, d5] }
  | _ => none }
def toneStavesRow : OpenClaim := { program := "ytkhikdiaaiddaaadoor", sum := "a5344279fdec423527441fe13ba266026c3aa93d66c01990d1bc1839a73306fe", func := "custos/custoslaw05.ToneStaves", spec := "toneStaves", unfollowed := true, recurses := true, named := ["internal/strconv.uint64pow10", "math/bits.deBruijn32tab", "math/bits.deBruijn64tab"], apart := false, laid := [("math/bits.deBruijn32tab", laid_math_bits_deBruijn32tab), ("math/bits.deBruijn64tab", laid_math_bits_deBruijn64tab), ("internal/strconv.uint64pow10", laid_internal_strconv_uint64pow10)] }
def ToneStavesSaid : Prop := toneStavesRow.holds Tryd.pinned (OpenSpec.ofChange toneStavesSpec)

/-- ITS FALSE NEIGHBOUR: 'it returns false'. Refute it at one input. -/
def toneStavesWrong : ChangeSpec := { name := "toneStaves", fn := fun _ => fun
  | [d1, d2, d3, d4, d5] => { results := [.lit (.bool false)], args := [d1, d2, d3, d4, d5] }
  | _ => none }
def ToneStavesWrongFalsely : Prop := toneStavesRow.holds Tryd.pinned (OpenSpec.ofChange toneStavesWrong)

/-- 'custoslaw05.ToneFractions': WHATEVER THE INPUT: true; the input reads as it did. -/
def toneFractionsSpec : ChangeSpec := { name := "toneFractions", fn := fun _ => fun
  | [d1, d2, d3, d4] => { results := [.lit (.bool true)], args := [d1, d2, d3, d4] }
  | _ => none }
def toneFractionsRow : OpenClaim := { program := "ytkhikdiaaiddaaadoor", sum := "a5344279fdec423527441fe13ba266026c3aa93d66c01990d1bc1839a73306fe", func := "custos/custoslaw05.ToneFractions", spec := "toneFractions", unfollowed := true, recurses := true, named := ["internal/strconv.uint64pow10", "math/bits.deBruijn32tab", "math/bits.deBruijn64tab"], apart := false, laid := [("math/bits.deBruijn32tab", laid_math_bits_deBruijn32tab), ("math/bits.deBruijn64tab", laid_math_bits_deBruijn64tab), ("internal/strconv.uint64pow10", laid_internal_strconv_uint64pow10)] }
def ToneFractionsSaid : Prop := toneFractionsRow.holds Tryd.pinned (OpenSpec.ofChange toneFractionsSpec)

/-- ITS FALSE NEIGHBOUR: 'it returns false'. Refute it at one input. -/
def toneFractionsWrong : ChangeSpec := { name := "toneFractions", fn := fun _ => fun
  | [d1, d2, d3, d4] => { results := [.lit (.bool false)], args := [d1, d2, d3, d4] }
  | _ => none }
def ToneFractionsWrongFalsely : Prop := toneFractionsRow.holds Tryd.pinned (OpenSpec.ofChange toneFractionsWrong)

/-- 'custoslaw05.ToneField': WHATEVER THE INPUT: true; the input reads as it did. -/
def toneFieldSpec : ChangeSpec := { name := "toneField", fn := fun _ => fun
  | [d1, d2, d3, d4, d5, d6] => { results := [.lit (.bool true)], args := [d1, d2, d3, d4, d5, d6] }
  | _ => none }
def toneFieldRow : OpenClaim := { program := "ytkhikdiaaiddaaadoor", sum := "a5344279fdec423527441fe13ba266026c3aa93d66c01990d1bc1839a73306fe", func := "custos/custoslaw05.ToneField", spec := "toneField", unfollowed := true, recurses := true, named := ["internal/strconv.uint64pow10", "math/bits.deBruijn32tab", "math/bits.deBruijn64tab"], apart := false, laid := [("math/bits.deBruijn32tab", laid_math_bits_deBruijn32tab), ("math/bits.deBruijn64tab", laid_math_bits_deBruijn64tab), ("internal/strconv.uint64pow10", laid_internal_strconv_uint64pow10)] }
def ToneFieldSaid : Prop := toneFieldRow.holds Tryd.pinned (OpenSpec.ofChange toneFieldSpec)

/-- ITS FALSE NEIGHBOUR: 'it returns false'. Refute it at one input. -/
def toneFieldWrong : ChangeSpec := { name := "toneField", fn := fun _ => fun
  | [d1, d2, d3, d4, d5, d6] => { results := [.lit (.bool false)], args := [d1, d2, d3, d4, d5, d6] }
  | _ => none }
def ToneFieldWrongFalsely : Prop := toneFieldRow.holds Tryd.pinned (OpenSpec.ofChange toneFieldWrong)

/-- 'custoslaw05.ToneIntervals': WHATEVER THE INPUT: true; the input reads as it did. -/
def toneIntervalsSpec : ChangeSpec := { name := "toneIntervals", fn := fun _ => fun
  | [d1, d2, d3, d4, d5] => { results := [.lit (.bool true)], args := [d1, d2, d3, d4, d5] }
  | _ => none }
def toneIntervalsRow : OpenClaim := { program := "ytkhikdiaaiddaaadoor", sum := "a5344279fdec423527441fe13ba266026c3aa93d66c01990d1bc1839a73306fe", func := "custos/custoslaw05.ToneIntervals", spec := "toneIntervals", unfollowed := true, recurses := true, named := ["internal/strconv.uint64pow10", "math/bits.deBruijn32tab", "math/bits.deBruijn64tab"], apart := false, laid := [("math/bits.deBruijn32tab", laid_math_bits_deBruijn32tab), ("math/bits.deBruijn64tab", laid_math_bits_deBruijn64tab), ("internal/strconv.uint64pow10", laid_internal_strconv_uint64pow10)] }
def ToneIntervalsSaid : Prop := toneIntervalsRow.holds Tryd.pinned (OpenSpec.ofChange toneIntervalsSpec)

/-- ITS FALSE NEIGHBOUR: 'it returns false'. Refute it at one input. -/
def toneIntervalsWrong : ChangeSpec := { name := "toneIntervals", fn := fun _ => fun
  | [d1, d2, d3, d4, d5] => { results := [.lit (.bool false)], args := [d1, d2, d3, d4, d5] }
  | _ => none }
def ToneIntervalsWrongFalsely : Prop := toneIntervalsRow.holds Tryd.pinned (OpenSpec.ofChange toneIntervalsWrong)

/-- 'custoslaw05.ToneMoves': WHATEVER THE INPUT: true; the input reads as it did. -/
def toneMovesSpec : ChangeSpec := { name := "toneMoves", fn := fun _ => fun
  | [d1, d2, d3, d4, d5, d6, d7, d8, d9] => { results := [.lit (.bool true)], args := [d1, d2, d3, d4, d5, d6, d7, d8, d9] }
  | _ => none }
def toneMovesRow : OpenClaim := { program := "ytkhikdiaaiddaaadoor", sum := "a5344279fdec423527441fe13ba266026c3aa93d66c01990d1bc1839a73306fe", func := "custos/custoslaw05.ToneMoves", spec := "toneMoves", unfollowed := true, recurses := true, named := ["internal/strconv.uint64pow10", "math/bits.deBruijn32tab", "math/bits.deBruijn64tab"], apart := false, laid := [("math/bits.deBruijn32tab", laid_math_bits_deBruijn32tab), ("math/bits.deBruijn64tab", laid_math_bits_deBruijn64tab), ("internal/strconv.uint64pow10", laid_internal_strconv_uint64pow10)] }
def ToneMovesSaid : Prop := toneMovesRow.holds Tryd.pinned (OpenSpec.ofChange toneMovesSpec)

/-- ITS FALSE NEIGHBOUR: 'it returns false'. Refute it at one input. -/
def toneMovesWrong : ChangeSpec := { name := "toneMoves", fn := fun _ => fun
  | [d1, d2, d3, d4, d5, d6, d7, d8, d9] => { results := [.lit (.bool false)], args := [d1, d2, d3, d4, d5, d6, d7, d8, d9] }
  | _ => none }
def ToneMovesWrongFalsely : Prop := toneMovesRow.holds Tryd.pinned (OpenSpec.ofChange toneMovesWrong)

/-- 'custoslaw05.ToneNames': WHATEVER THE INPUT: true; the input reads as it did. -/
def toneNamesSpec : ChangeSpec := { name := "toneNames", fn := fun _ => fun
  | [d1, d2, d3, d4, d5, d6, d7] => { results := [.lit (.bool true)], args := [d1, d2, d3, d4, d5, d6, d7] }
  | _ => none }
def toneNamesRow : OpenClaim := { program := "ytkhikdiaaiddaaadoor", sum := "a5344279fdec423527441fe13ba266026c3aa93d66c01990d1bc1839a73306fe", func := "custos/custoslaw05.ToneNames", spec := "toneNames", inPlace := ["internal/bytealg.IndexByteString"], unfollowed := true, recurses := true, named := ["internal/strconv.uint64pow10", "math/bits.deBruijn32tab", "math/bits.deBruijn64tab"], apart := false, laid := [("math/bits.deBruijn32tab", laid_math_bits_deBruijn32tab), ("math/bits.deBruijn64tab", laid_math_bits_deBruijn64tab), ("internal/strconv.uint64pow10", laid_internal_strconv_uint64pow10)] }
def ToneNamesSaid : Prop := toneNamesRow.holds Tryd.pinned (OpenSpec.ofChange toneNamesSpec)

/-- ITS FALSE NEIGHBOUR: 'it returns false'. Refute it at one input. -/
def toneNamesWrong : ChangeSpec := { name := "toneNames", fn := fun _ => fun
  | [d1, d2, d3, d4, d5, d6, d7] => { results := [.lit (.bool false)], args := [d1, d2, d3, d4, d5, d6, d7] }
  | _ => none }
def ToneNamesWrongFalsely : Prop := toneNamesRow.holds Tryd.pinned (OpenSpec.ofChange toneNamesWrong)

/- THE SECOND FORM. 'bulk': how many values and letters a reading holds, each counted each time it is reached (what is shared counts as often as it is met; a slice's spare places count too). A statement '..UptoSaid' is the law's where the arguments, and the package variables that the reading takes, are together of bulk at most 1048576: NARROWER than '..Said'. Prove '..Said' where nothing that the law and all that it calls make is longer than what came in: it says more and counts as full. Else prove '..UptoSaid'. A law counts once. -/
mutual
def uptoBulk {H : Type} : DataW H → Nat
  | .lit (.string bytes) => bytes.length + 1
  | .lit _ => 1
  | .nil => 1
  | .ptr d => uptoBulk d + 1
  | .slice elems spare => uptoBulkAll elems + uptoBulkAll spare + 1
  | .agg parts => uptoBulkAll parts + 1
  | .iface _ d => uptoBulk d + 1
  | .map entries => uptoBulkEntries entries + 1
  | .held _ => 1
def uptoBulkAll {H : Type} : List (DataW H) → Nat
  | [] => 0
  | d :: r => uptoBulk d + uptoBulkAll r
def uptoBulkEntries {H : Type} : List (Lit × DataW H) → Nat
  | [] => 0
  | x :: r => uptoBulkEntry x + uptoBulkEntries r
def uptoBulkEntry {H : Type} : Lit × DataW H → Nat
  | (.string bytes, d) => bytes.length + uptoBulk d + 1
  | (_, d) => uptoBulk d + 1
 end
def uptoSmall : (H : Type) → List (DataW H) → Bool := fun _ ds => decide (uptoBulkAll ds ≤ 1048576)
def OpenSpec.upto (s : _root_.Go.ChangeSpec) : _root_.Go.OpenSpec := { _root_.Go.OpenSpec.ofChange s with cond := some uptoSmall }

/-- 'custoslaw05.ToneHeard', WHERE WHAT IT READS IS OF BULK AT MOST 1048576: true; the input reads as it did. -/
def toneHeardUptoRow : OpenClaim := { program := "ytkhikdiaaiddaaadoor", sum := "a5344279fdec423527441fe13ba266026c3aa93d66c01990d1bc1839a73306fe", func := "custos/custoslaw05.ToneHeard", spec := "toneHeard", unfollowed := true, recurses := true, named := ["internal/strconv.uint64pow10", "math/bits.deBruijn32tab", "math/bits.deBruijn64tab"], apart := false, laid := [("math/bits.deBruijn32tab", laid_math_bits_deBruijn32tab), ("math/bits.deBruijn64tab", laid_math_bits_deBruijn64tab), ("internal/strconv.uint64pow10", laid_internal_strconv_uint64pow10)], narrowed := true }
def ToneHeardUptoSaid : Prop := toneHeardUptoRow.holds Tryd.pinned (OpenSpec.upto toneHeardSpec)

/-- 'custoslaw05.ToneLengths', WHERE WHAT IT READS IS OF BULK AT MOST 1048576: true; the input reads as it did. -/
def toneLengthsUptoRow : OpenClaim := { program := "ytkhikdiaaiddaaadoor", sum := "a5344279fdec423527441fe13ba266026c3aa93d66c01990d1bc1839a73306fe", func := "custos/custoslaw05.ToneLengths", spec := "toneLengths", unfollowed := true, recurses := true, named := ["internal/strconv.uint64pow10", "math/bits.deBruijn32tab", "math/bits.deBruijn64tab"], apart := false, laid := [("math/bits.deBruijn32tab", laid_math_bits_deBruijn32tab), ("math/bits.deBruijn64tab", laid_math_bits_deBruijn64tab), ("internal/strconv.uint64pow10", laid_internal_strconv_uint64pow10)], narrowed := true }
def ToneLengthsUptoSaid : Prop := toneLengthsUptoRow.holds Tryd.pinned (OpenSpec.upto toneLengthsSpec)

/-- 'custoslaw05.ToneLasts', WHERE WHAT IT READS IS OF BULK AT MOST 1048576: true; the input reads as it did. -/
def toneLastsUptoRow : OpenClaim := { program := "ytkhikdiaaiddaaadoor", sum := "a5344279fdec423527441fe13ba266026c3aa93d66c01990d1bc1839a73306fe", func := "custos/custoslaw05.ToneLasts", spec := "toneLasts", unfollowed := true, recurses := true, named := ["internal/strconv.uint64pow10", "math/bits.deBruijn32tab", "math/bits.deBruijn64tab"], apart := false, laid := [("math/bits.deBruijn32tab", laid_math_bits_deBruijn32tab), ("math/bits.deBruijn64tab", laid_math_bits_deBruijn64tab), ("internal/strconv.uint64pow10", laid_internal_strconv_uint64pow10)], narrowed := true }
def ToneLastsUptoSaid : Prop := toneLastsUptoRow.holds Tryd.pinned (OpenSpec.upto toneLastsSpec)

/-- 'custoslaw05.ToneStates', WHERE WHAT IT READS IS OF BULK AT MOST 1048576: true; the input reads as it did. -/
def toneStatesUptoRow : OpenClaim := { program := "ytkhikdiaaiddaaadoor", sum := "a5344279fdec423527441fe13ba266026c3aa93d66c01990d1bc1839a73306fe", func := "custos/custoslaw05.ToneStates", spec := "toneStates", unfollowed := true, recurses := true, named := ["internal/strconv.uint64pow10", "math/bits.deBruijn32tab", "math/bits.deBruijn64tab"], apart := false, laid := [("math/bits.deBruijn32tab", laid_math_bits_deBruijn32tab), ("math/bits.deBruijn64tab", laid_math_bits_deBruijn64tab), ("internal/strconv.uint64pow10", laid_internal_strconv_uint64pow10)], narrowed := true }
def ToneStatesUptoSaid : Prop := toneStatesUptoRow.holds Tryd.pinned (OpenSpec.upto toneStatesSpec)

/-- 'custoslaw05.TonePitches', WHERE WHAT IT READS IS OF BULK AT MOST 1048576: true; the input reads as it did. -/
def tonePitchesUptoRow : OpenClaim := { program := "ytkhikdiaaiddaaadoor", sum := "a5344279fdec423527441fe13ba266026c3aa93d66c01990d1bc1839a73306fe", func := "custos/custoslaw05.TonePitches", spec := "tonePitches", inPlace := ["internal/bytealg.IndexByteString"], unfollowed := true, recurses := true, named := ["internal/strconv.uint64pow10", "math/bits.deBruijn32tab", "math/bits.deBruijn64tab"], apart := false, laid := [("math/bits.deBruijn32tab", laid_math_bits_deBruijn32tab), ("math/bits.deBruijn64tab", laid_math_bits_deBruijn64tab), ("internal/strconv.uint64pow10", laid_internal_strconv_uint64pow10)], narrowed := true }
def TonePitchesUptoSaid : Prop := tonePitchesUptoRow.holds Tryd.pinned (OpenSpec.upto tonePitchesSpec)

/-- 'custoslaw05.ToneStaves', WHERE WHAT IT READS IS OF BULK AT MOST 1048576: true; the input reads as it did. -/
def toneStavesUptoRow : OpenClaim := { program := "ytkhikdiaaiddaaadoor", sum := "a5344279fdec423527441fe13ba266026c3aa93d66c01990d1bc1839a73306fe", func := "custos/custoslaw05.ToneStaves", spec := "toneStaves", unfollowed := true, recurses := true, named := ["internal/strconv.uint64pow10", "math/bits.deBruijn32tab", "math/bits.deBruijn64tab"], apart := false, laid := [("math/bits.deBruijn32tab", laid_math_bits_deBruijn32tab), ("math/bits.deBruijn64tab", laid_math_bits_deBruijn64tab), ("internal/strconv.uint64pow10", laid_internal_strconv_uint64pow10)], narrowed := true }
def ToneStavesUptoSaid : Prop := toneStavesUptoRow.holds Tryd.pinned (OpenSpec.upto toneStavesSpec)

/-- 'custoslaw05.ToneFractions', WHERE WHAT IT READS IS OF BULK AT MOST 1048576: true; the input reads as it did. -/
def toneFractionsUptoRow : OpenClaim := { program := "ytkhikdiaaiddaaadoor", sum := "a5344279fdec423527441fe13ba266026c3aa93d66c01990d1bc1839a73306fe", func := "custos/custoslaw05.ToneFractions", spec := "toneFractions", unfollowed := true, recurses := true, named := ["internal/strconv.uint64pow10", "math/bits.deBruijn32tab", "math/bits.deBruijn64tab"], apart := false, laid := [("math/bits.deBruijn32tab", laid_math_bits_deBruijn32tab), ("math/bits.deBruijn64tab", laid_math_bits_deBruijn64tab), ("internal/strconv.uint64pow10", laid_internal_strconv_uint64pow10)], narrowed := true }
def ToneFractionsUptoSaid : Prop := toneFractionsUptoRow.holds Tryd.pinned (OpenSpec.upto toneFractionsSpec)

/-- 'custoslaw05.ToneField', WHERE WHAT IT READS IS OF BULK AT MOST 1048576: true; the input reads as it did. -/
def toneFieldUptoRow : OpenClaim := { program := "ytkhikdiaaiddaaadoor", sum := "a5344279fdec423527441fe13ba266026c3aa93d66c01990d1bc1839a73306fe", func := "custos/custoslaw05.ToneField", spec := "toneField", unfollowed := true, recurses := true, named := ["internal/strconv.uint64pow10", "math/bits.deBruijn32tab", "math/bits.deBruijn64tab"], apart := false, laid := [("math/bits.deBruijn32tab", laid_math_bits_deBruijn32tab), ("math/bits.deBruijn64tab", laid_math_bits_deBruijn64tab), ("internal/strconv.uint64pow10", laid_internal_strconv_uint64pow10)], narrowed := true }
def ToneFieldUptoSaid : Prop := toneFieldUptoRow.holds Tryd.pinned (OpenSpec.upto toneFieldSpec)

/-- 'custoslaw05.ToneIntervals', WHERE WHAT IT READS IS OF BULK AT MOST 1048576: true; the input reads as it did. -/
def toneIntervalsUptoRow : OpenClaim := { program := "ytkhikdiaaiddaaadoor", sum := "a5344279fdec423527441fe13ba266026c3aa93d66c01990d1bc1839a73306fe", func := "custos/custoslaw05.ToneIntervals", spec := "toneIntervals", unfollowed := true, recurses := true, named := ["internal/strconv.uint64pow10", "math/bits.deBruijn32tab", "math/bits.deBruijn64tab"], apart := false, laid := [("math/bits.deBruijn32tab", laid_math_bits_deBruijn32tab), ("math/bits.deBruijn64tab", laid_math_bits_deBruijn64tab), ("internal/strconv.uint64pow10", laid_internal_strconv_uint64pow10)], narrowed := true }
def ToneIntervalsUptoSaid : Prop := toneIntervalsUptoRow.holds Tryd.pinned (OpenSpec.upto toneIntervalsSpec)

/-- 'custoslaw05.ToneMoves', WHERE WHAT IT READS IS OF BULK AT MOST 1048576: true; the input reads as it did. -/
def toneMovesUptoRow : OpenClaim := { program := "ytkhikdiaaiddaaadoor", sum := "a5344279fdec423527441fe13ba266026c3aa93d66c01990d1bc1839a73306fe", func := "custos/custoslaw05.ToneMoves", spec := "toneMoves", unfollowed := true, recurses := true, named := ["internal/strconv.uint64pow10", "math/bits.deBruijn32tab", "math/bits.deBruijn64tab"], apart := false, laid := [("math/bits.deBruijn32tab", laid_math_bits_deBruijn32tab), ("math/bits.deBruijn64tab", laid_math_bits_deBruijn64tab), ("internal/strconv.uint64pow10", laid_internal_strconv_uint64pow10)], narrowed := true }
def ToneMovesUptoSaid : Prop := toneMovesUptoRow.holds Tryd.pinned (OpenSpec.upto toneMovesSpec)

/-- 'custoslaw05.ToneNames', WHERE WHAT IT READS IS OF BULK AT MOST 1048576: true; the input reads as it did. -/
def toneNamesUptoRow : OpenClaim := { program := "ytkhikdiaaiddaaadoor", sum := "a5344279fdec423527441fe13ba266026c3aa93d66c01990d1bc1839a73306fe", func := "custos/custoslaw05.ToneNames", spec := "toneNames", inPlace := ["internal/bytealg.IndexByteString"], unfollowed := true, recurses := true, named := ["internal/strconv.uint64pow10", "math/bits.deBruijn32tab", "math/bits.deBruijn64tab"], apart := false, laid := [("math/bits.deBruijn32tab", laid_math_bits_deBruijn32tab), ("math/bits.deBruijn64tab", laid_math_bits_deBruijn64tab), ("internal/strconv.uint64pow10", laid_internal_strconv_uint64pow10)], narrowed := true }
def ToneNamesUptoSaid : Prop := toneNamesUptoRow.holds Tryd.pinned (OpenSpec.upto toneNamesSpec)

end Rows
end Go.Proofs.YtkhikdiaaiddaaaDoor
