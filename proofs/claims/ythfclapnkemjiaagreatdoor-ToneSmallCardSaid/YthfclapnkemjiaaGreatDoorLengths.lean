/-
  The walk of custoslaw05.ToneLengths. Conditions: none but the types.
-/
import Derived.Test.YthfclapnkemjiaaGreatDoorRLen
import Derived.Test.YthfclapnkemjiaaGreatDoorAwake
namespace Go.Proofs.YthfclapnkemjiaaGreatDoor
open Go.RowKit
set_option linter.unusedSimpArgs false
set_option linter.unusedVariables false

set_option maxRecDepth 100000 in
set_option maxHeartbeats 8000000 in
theorem Lengths_walk (v : Int) (dot triple : Bool) (b u c : Int) (w : World) :
    Calls Tryz.prog 7 #[.int .i64 v, .bool dot, .bool triple, .agg #[.int .i64 b, .int .i64 u], .int .i64 c] w fun e w' => e = .returned (.bool true) ∧ Below w.heap.size w w' := by
  obtain ⟨x1, x2, x3, H1, H2⟩ := Length_both v dot triple
  obtain ⟨y1, y2, y3, H3, H4⟩ := Bar_both b u
  obtain ⟨z1, z2, H5, H6⟩ := Base_both c
  have H1 := Lib.hid H1
  have H2 := Lib.hid H2
  have H3 := Lib.hid H3
  have H4 := Lib.hid H4
  have H5 := Lib.hid H5
  have H6 := Lib.hid H6
  go_enter Tryz.func7, Tryz.ntmps7
  go_wp2_with fail
  refine (H1.out _).mono ?_
  rintro e w1 ⟨rfl, hb1⟩; obtain ⟨hc1, hf1⟩ := bcell hb1; have hz1 := hb1.size; (try simp at hz1); have hy1 : w.heap.size < w1.heap.size := (by omega); have hB1 : Below w.heap.size w w1 := below_step (by go_grown) hb1
  go_wp2_with fail
  refine (H2.out _).mono ?_
  rintro e w2 ⟨rfl, hb2⟩; obtain ⟨hc2, hf2⟩ := bcell hb2; have hz2 := hb2.size; (try simp at hz2); have hy2 : w.heap.size < w2.heap.size := (by omega); have hB2 : Below w.heap.size w w2 := below_step (by go_grown) hb2
  have g12 : w1.heap.size < w2.heap.size := by omega
  go_wp2_with fail
  refine (H3.out _).mono ?_
  rintro e w3 ⟨rfl, hb3⟩; obtain ⟨hc3, hf3⟩ := bcell hb3; have hz3 := hb3.size; (try simp at hz3); have hy3 : w.heap.size < w3.heap.size := (by omega); have hB3 : Below w.heap.size w w3 := below_step (by go_grown) hb3
  have g13 : w1.heap.size < w3.heap.size := by omega
  have g23 : w2.heap.size < w3.heap.size := by omega
  go_wp2_with fail
  refine (H4.out _).mono ?_
  rintro e w4 ⟨rfl, hb4⟩; obtain ⟨hc4, hf4⟩ := bcell hb4; have hz4 := hb4.size; (try simp at hz4); have hy4 : w.heap.size < w4.heap.size := (by omega); have hB4 : Below w.heap.size w w4 := below_step (by go_grown) hb4
  have g14 : w1.heap.size < w4.heap.size := by omega
  have g24 : w2.heap.size < w4.heap.size := by omega
  have g34 : w3.heap.size < w4.heap.size := by omega
  go_wp2_with fail
  refine (H5.out _).mono ?_
  rintro e w5 ⟨rfl, rfl⟩
  go_wp2_with fail
  refine (H6.out _).mono ?_
  rintro e w6 ⟨rfl, rfl⟩
  go_wp2_with fail
  refine (awake_c _).mono ?_
  rintro e w8 ⟨rfl, hb8⟩; obtain ⟨hc8, hf8⟩ := bcell hb8; have hz8 := hb8.size; (try simp at hz8); have hy8 : w.heap.size < w8.heap.size := (by omega); have hB8 : Below w.heap.size w w8 := below_step (by go_grown) hb8
  go_wp2_with fail
  go_ret
  exact ⟨rfl, by go_grown⟩
end Go.Proofs.YthfclapnkemjiaaGreatDoor
