/-
  Objects that are no states: none, Reset, At, Print, Hear and Copy of package tone do nothing; custoslaw05.nothing returns true. No condition.
-/
import Derived.Test.YthfclapnkemjiaaGreatDoorHear
import Derived.Test.YthfclapnkemjiaaGreatDoorLine
namespace Go.Proofs.YthfclapnkemjiaaGreatDoor
open Go.RowKit
set_option linter.unusedSimpArgs false
set_option linter.unusedVariables false

theorem none_nil (w : World) : Calls Tryz.prog 81 #[.pointer none] w fun e w' => e = .returned (.bool true) ∧ w = w' := by
  go_enter Tryz.func81, Tryz.ntmps81
  go_wp2
  go_ret
  exact ⟨rfl, rfl⟩
theorem none_empty (b : Nat) (w : World) (c1 : w.cell? ⟨b, 1, none⟩ = some (.map none)) : Calls Tryz.prog 81 #[.pointer (some ⟨b, 0, none⟩)] w fun e w' => e = .returned (.bool true) ∧ w = w' := by
  have hm := run_eql_map_nil (P := Tryz.prog) w _ _ _ none Tryz.underlying102
  go_enter Tryz.func81, Tryz.ntmps81
  go_wp2
  go_ret
  exact ⟨rfl, rfl⟩
section
variable (p : Value) (w : World) (H : Hid (Calls Tryz.prog 81 #[p] w fun e w' => e = .returned (.bool true) ∧ w = w'))
include H
theorem Reset_none : Calls Tryz.prog 44 #[p] w fun e w' => e = .returned (.int .i64 7) ∧ w = w' := by
  go_enter Tryz.func44, Tryz.ntmps44
  go_wp2_with fail
  refine H.out.mono ?_
  rintro e w' ⟨rfl, rfl⟩
  go_wp2_with fail
  go_ret
  exact ⟨rfl, rfl⟩
theorem At_none (step : Int) : Calls Tryz.prog 47 #[p, .int .i64 step] w fun e w' => e = .returned (.tuple #[.int .i64 0, .int .i64 7]) ∧ w = w' := by
  go_enter Tryz.func47, Tryz.ntmps47
  go_wp2_with fail
  refine H.out.mono ?_
  rintro e w' ⟨rfl, rfl⟩
  go_wp2_with fail
  go_ret2
  exact ⟨rfl, rfl⟩
theorem Print_none (step alter : Int) : Calls Tryz.prog 40 #[p, .int .i64 step, .int .i64 alter] w fun e w' => e = .returned (.tuple #[.int .i64 0, .int .i64 7]) ∧ w = w' := by
  have HA := Lib.hid (At_none p w H step)
  go_enter Tryz.func40, Tryz.ntmps40
  go_wp2_with fail
  refine HA.out.mono ?_
  rintro e w' ⟨rfl, rfl⟩
  go_wp2_with fail
  go_ret2
  exact ⟨rfl, rfl⟩
theorem Hear_none (step acc : Int) : Calls Tryz.prog 42 #[p, .int .i64 step, .int .i64 acc] w fun e w' => e = .returned (.tuple #[.int .i64 0, .int .i64 7]) ∧ w = w' := by
  have HA := Lib.hid (At_none p w H step)
  go_enter Tryz.func42, Tryz.ntmps42
  go_wp2_with fail
  refine HA.out.mono ?_
  rintro e w' ⟨rfl, rfl⟩
  go_wp2_with fail
  go_ret2
  exact ⟨rfl, rfl⟩
theorem Copy_none : Calls Tryz.prog 46 #[p] w fun e w' => e = .returned (.pointer none) ∧ w = w' := by
  go_enter Tryz.func46, Tryz.ntmps46
  go_wp2_with fail
  refine H.out.mono ?_
  rintro e w' ⟨rfl, rfl⟩
  go_wp2_with fail
  go_ret
  exact ⟨rfl, rfl⟩
end
set_option maxRecDepth 100000 in
set_option maxHeartbeats 4000000 in
theorem nothing_c (w : World) : Calls Tryz.prog 39 #[] w fun e w' => e = .returned (.bool true) ∧ Below w.heap.size w w' := by
  go_enter Tryz.func39, Tryz.ntmps39
  go_wp2_with fail
  refine wp_named fun W hW => ?_
  have s0 : W.cell? ⟨w.heap.size + 1, 0, none⟩ = some (.pointer none) := by rw [hW]; go_simp
  have s1 : W.cell? ⟨w.heap.size + 1, 1, none⟩ = some (.pointer (some ⟨w.heap.size, 0, none⟩)) := by rw [hW]; go_simp
  have b1 : W.cell? ⟨w.heap.size, 1, none⟩ = some (.map none) := by rw [hW]; go_simp
  have HB : Below w.heap.size w W := by rw [hW]; go_grown
  clear hW
  have H0 := Lib.hid (none_nil W)
  have H1 := Lib.hid (none_empty w.heap.size W b1)
  clear b1
  go_loop [13] (fun i => ∃ k : Nat, k ≤ 2 ∧ i = .int .i64 k) (fun i => 2 - (intOf i).toNat)
  case atStart => exact ⟨0, by omega, rfl⟩
  case round =>
    obtain ⟨k, hk, rfl⟩ := hrel
    rcases (by omega : k = 0 ∨ k = 1 ∨ k = 2) with rfl | rfl | rfl
    · have J1 := Lib.hid (At_none _ _ H0 3)
      have J2 := Lib.hid (Print_none _ _ H0 3 1)
      have J3 := Lib.hid (Hear_none _ _ H0 3 1)
      have J4 := Lib.hid (Reset_none _ _ H0)
      have J5 := Lib.hid (Copy_none _ _ H0)
      go_wp2_with fail
      refine J1.out.mono ?_
      rintro e w' ⟨rfl, rfl⟩
      go_wp2_with fail
      refine J2.out.mono ?_
      rintro e w' ⟨rfl, rfl⟩
      go_wp2_with fail
      refine J3.out.mono ?_
      rintro e w' ⟨rfl, rfl⟩
      go_wp2_with fail
      refine J4.out.mono ?_
      rintro e w' ⟨rfl, rfl⟩
      go_wp2_with fail
      refine J5.out.mono ?_
      rintro e w' ⟨rfl, rfl⟩
      go_wp2_with fail
      go_round
      case rel => exact ⟨1, by omega, by go_num⟩
      case measure => simp [intOf]
    · have J1 := Lib.hid (At_none _ _ H1 3)
      have J2 := Lib.hid (Print_none _ _ H1 3 1)
      have J3 := Lib.hid (Hear_none _ _ H1 3 1)
      have J4 := Lib.hid (Reset_none _ _ H1)
      have J5 := Lib.hid (Copy_none _ _ H1)
      go_wp2_with fail
      refine J1.out.mono ?_
      rintro e w' ⟨rfl, rfl⟩
      go_wp2_with fail
      refine J2.out.mono ?_
      rintro e w' ⟨rfl, rfl⟩
      go_wp2_with fail
      refine J3.out.mono ?_
      rintro e w' ⟨rfl, rfl⟩
      go_wp2_with fail
      refine J4.out.mono ?_
      rintro e w' ⟨rfl, rfl⟩
      go_wp2_with fail
      refine J5.out.mono ?_
      rintro e w' ⟨rfl, rfl⟩
      go_wp2_with fail
      go_round
      case rel => exact ⟨2, by omega, by go_num⟩
      case measure => simp [intOf]
    · go_wp2_with fail
      go_ret
      exact ⟨rfl, HB⟩
end Go.Proofs.YthfclapnkemjiaaGreatDoor
