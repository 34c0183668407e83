/-
  The walk of custoslaw05.ToneIntervals. Conditions: integers are of their type, the text is no longer than any text can be.
-/
import Derived.Test.YtkhikdiaaiddaaaDoorIvs
import Derived.Test.YtkhikdiaaiddaaaDoorAwake
namespace Go.Proofs.YtkhikdiaaiddaaaDoor
open Go.RowKit

set_option maxRecDepth 100000 in
theorem Intervals_walk (a b c d st se key : Int) (s : ByteArray) (w : World) (ha : i64P a) (hb : i64P b) (hc : i64P c) (hd : i64P d) (h1 : i64P st) (h2 : i64P se) (hk : i64P key) (hsz : s.size ≤ maxLen) :
    Calls Tryd.prog 11 #[.agg #[.int .i64 a, .int .i64 b], .agg #[.int .i64 c, .int .i64 d], .agg #[.int .i64 st, .int .i64 se], .int .i64 key, .string s] w fun e w' => e = .returned (.bool true) ∧ Below w.heap.size w w' := by
  have H := Lib.hid fun w => intervals_c a b c d st se key w h1 h2
  have H2 := Lib.hid fun w => reads_c s hsz w
  clear ha hb hc hd h1 h2 hk hsz
  go_enter Tryd.func11, Tryd.ntmps11
  go_wp2_with fail
  refine (H.out _).mono ?_
  rintro e w1 ⟨rfl, hb1⟩; obtain ⟨hc1, hf1⟩ := bcell hb1; have hz1 := hb1.size; (try simp at hz1); have hy1 : w.heap.size < w1.heap.size := (by omega); have hB1 : Below w.heap.size w w1 := below_step (by go_grown) hb1
  go_wp2_with fail
  refine (H2.out _).mono ?_
  rintro e w2 ⟨rfl, hb2⟩; obtain ⟨hc2, hf2⟩ := bcell hb2; have hz2 := hb2.size; (try simp at hz2); have hy2 : w.heap.size < w2.heap.size := (by omega); have hB2 : Below w.heap.size w w2 := below_step (by go_grown) hb2
  go_wp2_with fail
  refine (awake_c _).mono ?_
  rintro e w3 ⟨rfl, hb3⟩; obtain ⟨hc3, hf3⟩ := bcell hb3; have hz3 := hb3.size; (try simp at hz3); have hy3 : w.heap.size < w3.heap.size := (by omega); have hB3 : Below w.heap.size w w3 := below_step (by go_grown) hb3
  go_wp2_with fail
  go_ret
  exact ⟨rfl, by go_grown⟩
end Go.Proofs.YtkhikdiaaiddaaaDoor
