/-
  custoslaw05.staves returns true: Staff, Alter and Sounding of package tone and of the reference agree. Conditions: none but the types.
-/
import Derived.Test.YthfclapnkemjiaaGreatDoorSound
namespace Go.Proofs.YthfclapnkemjiaaGreatDoor
open Go.RowKit
set_option linter.unusedSimpArgs false
set_option linter.unusedVariables false

theorem Alter_both (key step : Int) : ∃ x y : Int, (∀ w, Calls Tryz.prog 33 #[.int .i64 key, .int .i64 step] w fun e w' => e = .returned (.tuple #[.int .i64 x, .int .i64 y]) ∧ Below w.heap.size w w') ∧
    (∀ w, Calls Tryz.prog 34 #[.int .i64 key, .int .i64 step] w fun e w' => e = .returned (.tuple #[.int .i64 x, .int .i64 y]) ∧ Below w.heap.size w w') := by
  by_cases hk : -4 ≤ key ∧ key ≤ 4
  · by_cases hs : 0 ≤ step ∧ step < 70
    · exact ⟨_, _, fun w => Alter_c key step w hk.1 hk.2 hs.1 hs.2, fun w => rAlter_c key step w hk.1 hk.2 hs.1 hs.2⟩
    · exact ⟨0, 34, fun w => (Alter_nostep key step w hk.1 hk.2 (by omega)).mono fun _ _ ⟨h, e⟩ => ⟨h, by rw [← e]; exact Below.refl _ _⟩, fun w => (rAlter_nostep key step w hk.1 hk.2 (by omega)).mono fun _ _ ⟨h, e⟩ => ⟨h, by rw [← e]; exact Below.refl _ _⟩⟩
  · exact ⟨0, 31, fun w => (Alter_nokey key step w (by omega)).mono fun _ _ ⟨h, e⟩ => ⟨h, by rw [← e]; exact Below.refl _ _⟩, fun w => (rAlter_nokey key step w (by omega)).mono fun _ _ ⟨h, e⟩ => ⟨h, by rw [← e]; exact Below.refl _ _⟩⟩
theorem Sounding_both (c key step acc : Int) : ∃ x y z : Int, (∀ w, Calls Tryz.prog 35 #[.int .i64 c, .int .i64 key, .int .i64 step, .int .i64 acc] w fun e w' => e = .returned (.tuple #[.agg #[.int .i64 x, .int .i64 y], .int .i64 z]) ∧ Below w.heap.size w w') ∧
    (∀ w, Calls Tryz.prog 36 #[.int .i64 c, .int .i64 key, .int .i64 step, .int .i64 acc] w fun e w' => e = .returned (.tuple #[.agg #[.int .i64 x, .int .i64 y], .int .i64 z]) ∧ Below w.heap.size w w') := by
  by_cases hc : 1 ≤ c ∧ c ≤ 3
  · by_cases hk : -4 ≤ key ∧ key ≤ 4
    · by_cases hs : -(36 - 6 * c) ≤ step ∧ step ≤ 69 - (36 - 6 * c)
      · by_cases ha : 0 ≤ acc ∧ acc ≤ 3
        · exact ⟨_, _, _, fun w => Sounding_yes c key step acc w hc.1 hc.2 hk.1 hk.2 hs.1 hs.2 ha.1 ha.2, fun w => rSounding_yes c key step acc w hc.1 hc.2 hk.1 hk.2 hs.1 hs.2 ha.1 ha.2⟩
        · exact ⟨_, _, _, fun w => Sounding_acc c key step acc w hc.1 hc.2 hk.1 hk.2 hs.1 hs.2 (by omega), fun w => rSounding_acc c key step acc w hc.1 hc.2 hk.1 hk.2 hs.1 hs.2 (by omega)⟩
      · exact ⟨_, _, _, fun w => Sounding_step c key step acc w hc.1 hc.2 hk.1 hk.2 (by omega), fun w => rSounding_step c key step acc w hc.1 hc.2 hk.1 hk.2 (by omega)⟩
    · exact ⟨_, _, _, fun w => Sounding_key c key step acc w hc.1 hc.2 (by omega), fun w => rSounding_key c key step acc w hc.1 hc.2 (by omega)⟩
  · exact ⟨_, _, _, fun w => Sounding_clef c key step acc w (by omega), fun w => rSounding_clef c key step acc w (by omega)⟩

set_option maxRecDepth 100000 in
set_option maxHeartbeats 4000000 in
theorem staves_c (c s a key step acc : Int) (w : World) :
    Calls Tryz.prog 8 #[.int .i64 c, .agg #[.int .i64 s, .int .i64 a], .int .i64 key, .int .i64 step, .int .i64 acc] w fun e w' => e = .returned (.bool true) ∧ Below w.heap.size w w' := by
  obtain ⟨x1, x2, H1, H2⟩ := Staff_both c s a
  obtain ⟨y1, y2, H3, H4⟩ := Alter_both key step
  obtain ⟨z1, z2, z3, H5, H6⟩ := Sounding_both c key step acc
  have H1 := Lib.hid H1
  have H2 := Lib.hid H2
  have H3 := Lib.hid H3
  have H4 := Lib.hid H4
  have H5 := Lib.hid H5
  have H6 := Lib.hid H6
  go_enter Tryz.func8, Tryz.ntmps8
  go_wp2_with fail
  refine (H1.out _).mono ?_
  rintro e w1 ⟨rfl, hb1⟩; obtain ⟨hc1, hf1⟩ := bcell hb1; have hz1 := hb1.size; (try simp at hz1); have hy1 : w.heap.size < w1.heap.size := (by omega); have hB1 : Below w.heap.size w w1 := below_step (by go_grown) hb1
  go_wp2_with fail
  refine (H2.out _).mono ?_
  rintro e w2 ⟨rfl, hb2⟩; obtain ⟨hc2, hf2⟩ := bcell hb2; have hz2 := hb2.size; (try simp at hz2); have hy2 : w.heap.size < w2.heap.size := (by omega); have hB2 : Below w.heap.size w w2 := below_step (by go_grown) hb2
  go_wp2_with fail
  refine (H3.out _).mono ?_
  rintro e w3 ⟨rfl, hb3⟩; obtain ⟨hc3, hf3⟩ := bcell hb3; have hz3 := hb3.size; (try simp at hz3); have hy3 : w.heap.size < w3.heap.size := (by omega); have hB3 : Below w.heap.size w w3 := below_step (by go_grown) hb3
  go_wp2_with fail
  refine (H4.out _).mono ?_
  rintro e w4 ⟨rfl, hb4⟩; obtain ⟨hc4, hf4⟩ := bcell hb4; have hz4 := hb4.size; (try simp at hz4); have hy4 : w.heap.size < w4.heap.size := (by omega); have hB4 : Below w.heap.size w w4 := below_step (by go_grown) hb4
  go_wp2_with fail
  refine (H5.out _).mono ?_
  rintro e w5 ⟨rfl, hb5⟩; obtain ⟨hc5, hf5⟩ := bcell hb5; have hz5 := hb5.size; (try simp at hz5); have hy5 : w.heap.size < w5.heap.size := (by omega); have hB5 : Below w.heap.size w w5 := below_step (by go_grown) hb5
  go_wp2_with fail
  refine (H6.out _).mono ?_
  rintro e w6 ⟨rfl, hb6⟩; obtain ⟨hc6, hf6⟩ := bcell hb6; have hz6 := hb6.size; (try simp at hz6); have hy6 : w.heap.size < w6.heap.size := (by omega); have hB6 : Below w.heap.size w w6 := below_step (by go_grown) hb6
  have g56 : w5.heap.size < w6.heap.size := by omega
  go_wp2_with fail
  go_ret
  exact ⟨rfl, by go_grown⟩
end Go.Proofs.YthfclapnkemjiaaGreatDoor
