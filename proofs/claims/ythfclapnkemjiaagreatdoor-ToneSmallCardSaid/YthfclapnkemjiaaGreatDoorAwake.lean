/-
  custoslaw05.awake returns true in any world, and makes new blocks alone. No condition.
-/
import Derived.Test.YthfclapnkemjiaaGreatDoorTrans2
import Derived.Test.YthfclapnkemjiaaGreatDoorOpFn
import Derived.Test.YthfclapnkemjiaaGreatDoorHear
namespace Go.Proofs.YthfclapnkemjiaaGreatDoor
open Go.RowKit Go.Maps
set_option linter.unusedSimpArgs false
set_option linter.unusedVariables false

theorem St.size {w : World} {sb bm n : Nat} {key : Int} {g : Int → Option Int} (h : St w sb bm n key g) : bm < w.heap.size := h.map.lt
set_option maxRecDepth 100000 in
set_option maxHeartbeats 4000000 in
theorem awake_c (w : World) : Calls Tryz.prog 14 #[] w fun e w' => e = .returned (.bool true) ∧ Below w.heap.size w w' := by
  have C1 : Hid (∀ w, Calls Tryz.prog 27 #[.int .i64 4, .bool true, .bool false] w fun e w' => e = .returned (.tuple #[.agg #[.int .i64 3, .int .i64 8], .int .i64 0]) ∧ Below w.heap.size w w') := fun w => Length_yes 4 true false w (.inr (.inr (.inl rfl)))
  have C2 : Hid (∀ w, Calls Tryz.prog 15 #[.agg #[.int .i64 1, .int .i64 3], .agg #[.int .i64 1, .int .i64 6]] w fun e w' => e = .returned (.tuple #[.agg #[.int .i64 1, .int .i64 2], .int .i64 0]) ∧ Below w.heap.size w w') := fun w => Add_c 1 3 1 6 w ⟨by decide, by decide⟩ ⟨by decide, by decide⟩ ⟨by decide, by decide⟩ ⟨by decide, by decide⟩
  have C3 : Hid (∀ w, Calls Tryz.prog 60 #[.agg #[.int .i64 34, .int .i64 (-1)]] w fun e w' => e = .returned (.tuple #[.string ⟨#[98, 98, 52]⟩, .int .i64 0]) ∧ Below w.heap.size w w') := fun w => Name_yes 34 (-1) w (by decide)
  have C4 : Hid (∀ w, Calls Tryz.prog 49 #[.agg #[.int .i64 30, .int .i64 0], .agg #[.int .i64 2, .int .i64 4]] w fun e w' => e = .returned (.tuple #[.agg #[.int .i64 32, .int .i64 1], .int .i64 0]) ∧ Below w.heap.size w w') := fun w => Transpose_c 30 0 2 4 w ⟨by decide, by decide⟩ ⟨by decide, by decide⟩
  have C5 : Hid (∀ w, Calls Tryz.prog 55 #[.agg #[.int .i64 (-1), .int .i64 (-2)]] w fun e w' => e = .returned (.tuple #[.string ⟨#[45, 77, 50]⟩, .int .i64 0]) ∧ Below w.heap.size w w') := fun w => Title_c (-1) (-2) w ⟨by decide, by decide⟩ ⟨by decide, by decide⟩
  have C6 := Lib.hid fun w => New_yes 1 w (by decide) (by decide)
  go_enter Tryz.func14, Tryz.ntmps14
  go_wp2_with fail
  refine (C1.out _).mono ?_
  rintro e w1 ⟨rfl, hb1⟩
  have hB1 : Below w.heap.size w w1 := below_step (by go_grown) hb1
  have y1_w : w.heap.size ≤ w1.heap.size := hB1.size
  go_wp2_with fail
  refine (C2.out _).mono ?_
  rintro e w2 ⟨rfl, hb2⟩
  have hB2 : Below w.heap.size w w2 := below_step (by go_grown) hb2
  have y2_w : w.heap.size ≤ w2.heap.size := hB2.size
  have hz2 := hb2.size
  try simp only [World.size_alloc] at hz2
  have k2_0 : w2.cell? ⟨w1.heap.size, 0, none⟩ = some (.int .i64 3) := (hb2.cell (p := ⟨w1.heap.size, 0, none⟩) (by simp; try omega)).trans (by go_simp)
  have k2_1 : w2.cell? ⟨w1.heap.size, 1, none⟩ = some (.int .i64 8) := (hb2.cell (p := ⟨w1.heap.size, 1, none⟩) (by simp; try omega)).trans (by go_simp)
  have y2_w1 : w1.heap.size < w2.heap.size := by omega
  go_wp2_with fail
  refine (C3.out _).mono ?_
  rintro e w3 ⟨rfl, hb3⟩
  have hB3 : Below w.heap.size w w3 := below_step (by go_grown) hb3
  have y3_w : w.heap.size ≤ w3.heap.size := hB3.size
  have hz3 := hb3.size
  try simp only [World.size_alloc] at hz3
  have k3_0 : w3.cell? ⟨w1.heap.size, 0, none⟩ = some (.int .i64 3) := (hb3.cell (p := ⟨w1.heap.size, 0, none⟩) (by simp; try omega)).trans (by go_simp)
  have k3_1 : w3.cell? ⟨w1.heap.size, 1, none⟩ = some (.int .i64 8) := (hb3.cell (p := ⟨w1.heap.size, 1, none⟩) (by simp; try omega)).trans (by go_simp)
  have k3_2 : w3.cell? ⟨w2.heap.size, 0, none⟩ = some (.int .i64 1) := (hb3.cell (p := ⟨w2.heap.size, 0, none⟩) (by simp; try omega)).trans (by go_simp)
  have k3_3 : w3.cell? ⟨w2.heap.size, 1, none⟩ = some (.int .i64 2) := (hb3.cell (p := ⟨w2.heap.size, 1, none⟩) (by simp; try omega)).trans (by go_simp)
  have y3_w1 : w1.heap.size < w3.heap.size := by omega
  have y3_w2 : w2.heap.size < w3.heap.size := by omega
  clear k2_0 k2_1
  go_wp2_with fail
  refine (C4.out _).mono ?_
  rintro e w4 ⟨rfl, hb4⟩
  have hB4 : Below w.heap.size w w4 := below_step (by go_grown) hb4
  have y4_w : w.heap.size ≤ w4.heap.size := hB4.size
  have hz4 := hb4.size
  try simp only [World.size_alloc] at hz4
  have k4_0 : w4.cell? ⟨w1.heap.size, 0, none⟩ = some (.int .i64 3) := (hb4.cell (p := ⟨w1.heap.size, 0, none⟩) (by simp; try omega)).trans (by go_simp)
  have k4_1 : w4.cell? ⟨w1.heap.size, 1, none⟩ = some (.int .i64 8) := (hb4.cell (p := ⟨w1.heap.size, 1, none⟩) (by simp; try omega)).trans (by go_simp)
  have k4_2 : w4.cell? ⟨w2.heap.size, 0, none⟩ = some (.int .i64 1) := (hb4.cell (p := ⟨w2.heap.size, 0, none⟩) (by simp; try omega)).trans (by go_simp)
  have k4_3 : w4.cell? ⟨w2.heap.size, 1, none⟩ = some (.int .i64 2) := (hb4.cell (p := ⟨w2.heap.size, 1, none⟩) (by simp; try omega)).trans (by go_simp)
  have y4_w1 : w1.heap.size < w4.heap.size := by omega
  have y4_w2 : w2.heap.size < w4.heap.size := by omega
  clear k3_0 k3_1 k3_2 k3_3
  go_wp2_with fail
  refine (C5.out _).mono ?_
  rintro e w5 ⟨rfl, hb5⟩
  have hB5 : Below w.heap.size w w5 := below_step (by go_grown) hb5
  have y5_w : w.heap.size ≤ w5.heap.size := hB5.size
  have hz5 := hb5.size
  try simp only [World.size_alloc] at hz5
  have k5_0 : w5.cell? ⟨w1.heap.size, 0, none⟩ = some (.int .i64 3) := (hb5.cell (p := ⟨w1.heap.size, 0, none⟩) (by simp; try omega)).trans (by go_simp)
  have k5_1 : w5.cell? ⟨w1.heap.size, 1, none⟩ = some (.int .i64 8) := (hb5.cell (p := ⟨w1.heap.size, 1, none⟩) (by simp; try omega)).trans (by go_simp)
  have k5_2 : w5.cell? ⟨w2.heap.size, 0, none⟩ = some (.int .i64 1) := (hb5.cell (p := ⟨w2.heap.size, 0, none⟩) (by simp; try omega)).trans (by go_simp)
  have k5_3 : w5.cell? ⟨w2.heap.size, 1, none⟩ = some (.int .i64 2) := (hb5.cell (p := ⟨w2.heap.size, 1, none⟩) (by simp; try omega)).trans (by go_simp)
  have k5_4 : w5.cell? ⟨w4.heap.size, 0, none⟩ = some (.int .i64 32) := (hb5.cell (p := ⟨w4.heap.size, 0, none⟩) (by simp; try omega)).trans (by go_simp)
  have k5_5 : w5.cell? ⟨w4.heap.size, 1, none⟩ = some (.int .i64 1) := (hb5.cell (p := ⟨w4.heap.size, 1, none⟩) (by simp; try omega)).trans (by go_simp)
  have y5_w1 : w1.heap.size < w5.heap.size := by omega
  have y5_w2 : w2.heap.size < w5.heap.size := by omega
  have y5_w4 : w4.heap.size < w5.heap.size := by omega
  clear k4_0 k4_1 k4_2 k4_3
  go_wp2_with fail
  refine (C6.out _).mono ?_
  rintro e w6 ⟨rfl, hs6, hb6⟩
  have hB6 : Below w.heap.size w w6 := below_step (by go_grown) hb6
  have y6_w : w.heap.size ≤ w6.heap.size := hB6.size
  have hz6 := hb6.size
  try simp only [World.size_alloc] at hz6
  have k6_0 : w6.cell? ⟨w1.heap.size, 0, none⟩ = some (.int .i64 3) := (hb6.cell (p := ⟨w1.heap.size, 0, none⟩) (by simp; try omega)).trans (by go_simp)
  have k6_1 : w6.cell? ⟨w1.heap.size, 1, none⟩ = some (.int .i64 8) := (hb6.cell (p := ⟨w1.heap.size, 1, none⟩) (by simp; try omega)).trans (by go_simp)
  have k6_2 : w6.cell? ⟨w2.heap.size, 0, none⟩ = some (.int .i64 1) := (hb6.cell (p := ⟨w2.heap.size, 0, none⟩) (by simp; try omega)).trans (by go_simp)
  have k6_3 : w6.cell? ⟨w2.heap.size, 1, none⟩ = some (.int .i64 2) := (hb6.cell (p := ⟨w2.heap.size, 1, none⟩) (by simp; try omega)).trans (by go_simp)
  have k6_4 : w6.cell? ⟨w4.heap.size, 0, none⟩ = some (.int .i64 32) := (hb6.cell (p := ⟨w4.heap.size, 0, none⟩) (by simp; try omega)).trans (by go_simp)
  have k6_5 : w6.cell? ⟨w4.heap.size, 1, none⟩ = some (.int .i64 1) := (hb6.cell (p := ⟨w4.heap.size, 1, none⟩) (by simp; try omega)).trans (by go_simp)
  have y6_w1 : w1.heap.size < w6.heap.size := by omega
  have y6_w2 : w2.heap.size < w6.heap.size := by omega
  have y6_w4 : w4.heap.size < w6.heap.size := by omega
  clear k5_0 k5_1 k5_2 k5_3 k5_4 k5_5
  go_wp2_with fail
  refine (Print_same (w5.heap.size + 1) w5.heap.size 0 1 31 1 _ _ hs6 (by decide) (by decide) (by decide) (by decide) (by decide) (by decide) (by decide)).mono ?_
  rintro e w7 ⟨rfl, hb7⟩
  have hB7 : Below w.heap.size w w7 := below_step (by go_grown) hb7
  have y7_w : w.heap.size ≤ w7.heap.size := hB7.size
  have hz7 := hb7.size
  try simp only [World.size_alloc] at hz7
  have k7_0 : w7.cell? ⟨w1.heap.size, 0, none⟩ = some (.int .i64 3) := (hb7.cell (p := ⟨w1.heap.size, 0, none⟩) (by simp; try omega)).trans (by go_simp)
  have k7_1 : w7.cell? ⟨w1.heap.size, 1, none⟩ = some (.int .i64 8) := (hb7.cell (p := ⟨w1.heap.size, 1, none⟩) (by simp; try omega)).trans (by go_simp)
  have k7_2 : w7.cell? ⟨w2.heap.size, 0, none⟩ = some (.int .i64 1) := (hb7.cell (p := ⟨w2.heap.size, 0, none⟩) (by simp; try omega)).trans (by go_simp)
  have k7_3 : w7.cell? ⟨w2.heap.size, 1, none⟩ = some (.int .i64 2) := (hb7.cell (p := ⟨w2.heap.size, 1, none⟩) (by simp; try omega)).trans (by go_simp)
  have k7_4 : w7.cell? ⟨w4.heap.size, 0, none⟩ = some (.int .i64 32) := (hb7.cell (p := ⟨w4.heap.size, 0, none⟩) (by simp; try omega)).trans (by go_simp)
  have k7_5 : w7.cell? ⟨w4.heap.size, 1, none⟩ = some (.int .i64 1) := (hb7.cell (p := ⟨w4.heap.size, 1, none⟩) (by simp; try omega)).trans (by go_simp)
  have y7_w1 : w1.heap.size < w7.heap.size := by omega
  have y7_w2 : w2.heap.size < w7.heap.size := by omega
  have y7_w4 : w4.heap.size < w7.heap.size := by omega
  clear k6_0 k6_1 k6_2 k6_3 k6_4 k6_5
  have hs7 := hs6.below hb7
  go_wp2_with fail
  refine (Print_new (w5.heap.size + 1) w5.heap.size 0 1 31 0 _ _ hs7 (by decide) (by decide) (by decide) (by decide) (by decide) (by decide) (by decide) (by decide)).mono ?_
  rintro e w8 ⟨rfl, hs8, hg8⟩
  have hB8 : Below w.heap.size w w8 := below_grownBy hB7 hg8 (by omega)
  have y8_w : w.heap.size ≤ w8.heap.size := hB8.size
  have hz8 := hg8.size
  have k8_0 : w8.cell? ⟨w1.heap.size, 0, none⟩ = some (.int .i64 3) := (World.cell?_of_block (a := ⟨w1.heap.size, 0, none⟩) (hg8.block _ (by simp; omega) (by simp; omega))).trans (by go_simp)
  have k8_1 : w8.cell? ⟨w1.heap.size, 1, none⟩ = some (.int .i64 8) := (World.cell?_of_block (a := ⟨w1.heap.size, 1, none⟩) (hg8.block _ (by simp; omega) (by simp; omega))).trans (by go_simp)
  have k8_2 : w8.cell? ⟨w2.heap.size, 0, none⟩ = some (.int .i64 1) := (World.cell?_of_block (a := ⟨w2.heap.size, 0, none⟩) (hg8.block _ (by simp; omega) (by simp; omega))).trans (by go_simp)
  have k8_3 : w8.cell? ⟨w2.heap.size, 1, none⟩ = some (.int .i64 2) := (World.cell?_of_block (a := ⟨w2.heap.size, 1, none⟩) (hg8.block _ (by simp; omega) (by simp; omega))).trans (by go_simp)
  have k8_4 : w8.cell? ⟨w4.heap.size, 0, none⟩ = some (.int .i64 32) := (World.cell?_of_block (a := ⟨w4.heap.size, 0, none⟩) (hg8.block _ (by simp; omega) (by simp; omega))).trans (by go_simp)
  have k8_5 : w8.cell? ⟨w4.heap.size, 1, none⟩ = some (.int .i64 1) := (World.cell?_of_block (a := ⟨w4.heap.size, 1, none⟩) (hg8.block _ (by simp; omega) (by simp; omega))).trans (by go_simp)
  have y8_w1 : w1.heap.size < w8.heap.size := by omega
  have y8_w2 : w2.heap.size < w8.heap.size := by omega
  have y8_w4 : w4.heap.size < w8.heap.size := by omega
  clear k7_0 k7_1 k7_2 k7_3 k7_4 k7_5
  go_wp2_with fail
  refine (Hear_same (w5.heap.size + 1) w5.heap.size 1 1 31 3 _ _ hs8 (by decide) (by decide) (by decide) (by decide) (by decide) (by decide) (by decide)).mono ?_
  rintro e w9 ⟨rfl, hb9⟩
  have hB9 : Below w.heap.size w w9 := below_step (by go_grown) hb9
  have y9_w : w.heap.size ≤ w9.heap.size := hB9.size
  have hz9 := hb9.size
  try simp only [World.size_alloc] at hz9
  have k9_0 : w9.cell? ⟨w1.heap.size, 0, none⟩ = some (.int .i64 3) := (hb9.cell (p := ⟨w1.heap.size, 0, none⟩) (by simp; try omega)).trans (by go_simp)
  have k9_1 : w9.cell? ⟨w1.heap.size, 1, none⟩ = some (.int .i64 8) := (hb9.cell (p := ⟨w1.heap.size, 1, none⟩) (by simp; try omega)).trans (by go_simp)
  have k9_2 : w9.cell? ⟨w2.heap.size, 0, none⟩ = some (.int .i64 1) := (hb9.cell (p := ⟨w2.heap.size, 0, none⟩) (by simp; try omega)).trans (by go_simp)
  have k9_3 : w9.cell? ⟨w2.heap.size, 1, none⟩ = some (.int .i64 2) := (hb9.cell (p := ⟨w2.heap.size, 1, none⟩) (by simp; try omega)).trans (by go_simp)
  have k9_4 : w9.cell? ⟨w4.heap.size, 0, none⟩ = some (.int .i64 32) := (hb9.cell (p := ⟨w4.heap.size, 0, none⟩) (by simp; try omega)).trans (by go_simp)
  have k9_5 : w9.cell? ⟨w4.heap.size, 1, none⟩ = some (.int .i64 1) := (hb9.cell (p := ⟨w4.heap.size, 1, none⟩) (by simp; try omega)).trans (by go_simp)
  have y9_w1 : w1.heap.size < w9.heap.size := by omega
  have y9_w2 : w2.heap.size < w9.heap.size := by omega
  have y9_w4 : w4.heap.size < w9.heap.size := by omega
  clear k8_0 k8_1 k8_2 k8_3 k8_4 k8_5
  go_wp2
  go_ret
  exact ⟨rfl, hB9⟩
end Go.Proofs.YthfclapnkemjiaaGreatDoor
