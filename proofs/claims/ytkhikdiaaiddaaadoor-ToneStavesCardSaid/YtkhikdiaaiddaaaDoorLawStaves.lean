/-
  The walk of custoslaw05.ToneStaves. Conditions: none but the types.
-/
import Derived.Test.YtkhikdiaaiddaaaDoorStaves
import Derived.Test.YtkhikdiaaiddaaaDoorAwake
namespace Go.Proofs.YtkhikdiaaiddaaaDoor
open Go.RowKit

set_option maxRecDepth 100000 in
theorem Staves_walk (c s a key step acc : Int) (w : World) :
    Calls Tryd.prog 8 #[.int .i64 c, .agg #[.int .i64 s, .int .i64 a], .int .i64 key, .int .i64 step, .int .i64 acc] w fun e w' => e = .returned (.bool true) ∧ Below w.heap.size w w' := by
  have H := Lib.hid fun w => staves_c c s a key step acc w
  go_enter Tryd.func8, Tryd.ntmps8
  go_wp2_with fail
  refine (H.out _).mono ?_
  rintro e w1 ⟨rfl, hb1⟩; obtain ⟨hc1, hf1⟩ := bcell hb1; have hz1 := hb1.size; (try simp at hz1); have hy1 : w.heap.size < w1.heap.size := (by omega); have hB1 : Below w.heap.size w w1 := below_step (by go_grown) hb1
  go_wp2_with fail
  refine (awake_c _).mono ?_
  rintro e w2 ⟨rfl, hb2⟩; obtain ⟨hc2, hf2⟩ := bcell hb2; have hz2 := hb2.size; (try simp at hz2); have hy2 : w.heap.size < w2.heap.size := (by omega); have hB2 : Below w.heap.size w w2 := below_step (by go_grown) hb2
  go_wp2_with fail
  go_ret
  exact ⟨rfl, by go_grown⟩
end Go.Proofs.YtkhikdiaaiddaaaDoor
