/-
  The contract of Parse of the reference, and that both Parses return the same. Condition: the text is no longer than any text can be.
-/
import Derived.Test.YthfclapnkemjiaaGreatDoorParse1
namespace Go.Proofs.YthfclapnkemjiaaGreatDoor
open Go.RowKit
set_option linter.unusedSimpArgs false
set_option linter.unusedVariables false

set_option maxRecDepth 100000 in
theorem rParse_size (s : ByteArray) (w : World) (h : s.size < 2 ∨ 3 < s.size) (hsz : s.size ≤ maxLen) :
    Calls Tryz.prog 13 #[.string s] w fun e w' => e = .returned (.tuple #[.agg #[.int .i64 0, .int .i64 0], .int .i64 5]) ∧ Below w.heap.size w w' := by
  unfold maxLen at hsz
  rcases h with h | h
  · have h' : (s.size : Int) < 2 := by omega
    go_enter Tryz.func13, Tryz.ntmps13
    go_wp2
    go_returns
    exact ⟨rfl, by go_grown⟩
  · have h' : ¬ (s.size : Int) < 2 := by omega
    have h3 : 3 < (s.size : Int) := by omega
    have h4 : ¬ s.size < 2 := by omega
    go_enter Tryz.func13, Tryz.ntmps13
    go_wp2
    go_returns
    exact ⟨rfl, by go_grown⟩
/-- what is wrong with the first and the last byte -/
theorem rParse_bytes (s : ByteArray) (n x y : Int) (w : World) (hn : (s.size : Int) = n) (hn2 : n = 2 ∨ n = 3) (hx0 : 0 ≤ x) (hx1 : x ≤ 255) (hy0 : 0 ≤ y) (hy1 : y ≤ 255) (h : letN x < 0 ∨ y < 48 ∨ 57 < y)
    (hI0 : ∀ w, (Instr.index 9 (.string s) (.int .i64 0)).run Tryz.prog w = .ok (.int .u8 x) w) (hI1 : ∀ w, (Instr.index 9 (.string s) (.int .i64 (n - 1))).run Tryz.prog w = .ok (.int .u8 y) w) :
    Calls Tryz.prog 13 #[.string s] w fun e w' => e = .returned (.tuple #[.agg #[.int .i64 0, .int .i64 0], .int .i64 5]) ∧ Below w.heap.size w w' := by
  have HL := Lib.hid fun w => rletter_c x w hx0 hx1
  have hb := letN_bd x hx0 hx1
  generalize letN x = L at *
  have hcase : (n = 2 ∧ ∀ w, (Instr.index 9 (.string s) (.int .i64 1)).run Tryz.prog w = .ok (.int .u8 y) w) ∨ (n = 3 ∧ ∀ w, (Instr.index 9 (.string s) (.int .i64 2)).run Tryz.prog w = .ok (.int .u8 y) w) := by
    rcases hn2 with rfl | rfl
    · exact .inl ⟨rfl, hI1⟩
    · exact .inr ⟨rfl, hI1⟩
  clear hI1 hn2
  rcases hcase with ⟨rfl, hI1⟩ | ⟨rfl, hI1⟩
  all_goals
    by_cases h1 : L < 0
    · clear h
      go_enter Tryz.func13, Tryz.ntmps13
      go_wp2_with (go_at_call 61; refine (HL.out _).mono ?_; rintro e w' ⟨rfl, rfl⟩)
      go_returns
      exact ⟨rfl, by go_grown⟩
    · by_cases h2 : y < 48
      · clear h
        go_enter Tryz.func13, Tryz.ntmps13
        go_wp2_with (go_at_call 61; refine (HL.out _).mono ?_; rintro e w' ⟨rfl, rfl⟩)
        go_returns
        exact ⟨rfl, by go_grown⟩
      · have h3 : 57 < y := by omega
        clear h
        go_enter Tryz.func13, Tryz.ntmps13
        go_wp2_with (go_at_call 61; refine (HL.out _).mono ?_; rintro e w' ⟨rfl, rfl⟩)
        go_returns
        exact ⟨rfl, by go_grown⟩
set_option maxRecDepth 100000 in
set_option maxHeartbeats 4000000 in
theorem rParse_two (s : ByteArray) (x y : Int) (w : World) (hn : (s.size : Int) = 2) (hx0 : 0 ≤ x) (hx1 : x ≤ 255) (h1 : ¬ letN x < 0) (h2 : ¬ y < 48) (h3 : ¬ 57 < y)
    (hI0 : ∀ w, (Instr.index 9 (.string s) (.int .i64 0)).run Tryz.prog w = .ok (.int .u8 x) w) (hI1 : ∀ w, (Instr.index 9 (.string s) (.int .i64 1)).run Tryz.prog w = .ok (.int .u8 y) w) :
    Calls Tryz.prog 13 #[.string s] w fun e w' => e = .returned (.tuple #[.agg #[.int .i64 (7 * (y - 48) + letN x), .int .i64 0], .int .i64 0]) ∧ Below w.heap.size w w' := by
  have HL := Lib.hid fun w => rletter_c x w hx0 hx1
  have hb := letN_bd x hx0 hx1
  have t1 : IntKind.i64.wrap 1 = 1 := by decide
  have t2 : IntKind.i64.wrap 2 = 2 := by decide
  have t3 : IntKind.i64.wrap y = y := IntWalk.i64_in _ ⟨by omega, by omega⟩
  have t4 : IntKind.i64.wrap (y - 48) = y - 48 := IntWalk.i64_in _ ⟨by omega, by omega⟩
  have t5 : IntKind.i64.wrap (7 * (y - 48)) = 7 * (y - 48) := IntWalk.i64_in _ ⟨by omega, by omega⟩
  have t6 : IntKind.i64.wrap (7 * (y - 48) + letN x) = 7 * (y - 48) + letN x := IntWalk.i64_in _ ⟨by omega, by omega⟩
  generalize letN x = L at *
  go_enter Tryz.func13, Tryz.ntmps13
  go_wp2_with (go_at_call 61; refine (HL.out _).mono ?_; rintro e w' ⟨rfl, rfl⟩)
  refine wp_named fun W hW => ?_
  have hBW : Below w.heap.size w W := by rw [hW]; clear hW; go_grown
  have r0 : W.cell? ⟨w.heap.size, 0, none⟩ = some (.int .i64 0) := by rw [hW]; clear hW; go_simp
  have r1 : W.cell? ⟨w.heap.size, 1, none⟩ = some (.int .i64 0) := by rw [hW]; clear hW; go_simp
  have z0 : W.frozen? ⟨w.heap.size, 0, none⟩ = false := by rw [hW]; clear hW; go_simp
  have z1 : W.frozen? ⟨w.heap.size, 1, none⟩ = false := by rw [hW]; clear hW; go_simp
  have zW : w.heap.size < W.heap.size := by rw [hW]; simp
  clear hW
  go_region_held3 (fun w' => Sk W w') (first | assumption | exact Sk_drew _ | exact Sk_of (by go_grown)) ((go_at_call 61; refine (HL.out _).mono ?_; rintro e w3 ⟨rfl, rfl⟩))
  all_goals
    go_wp2_with fail
    (try simp only [Exit.inBlock, Exit.then]); refine bodyPost_ret (by simp [results, Tryz.results13, go_sem, *]; try rfl) rfl ?_
    exact ⟨rfl, by go_grown⟩
set_option maxRecDepth 100000 in
set_option maxHeartbeats 4000000 in
theorem rParse_threeV (s : ByteArray) (x m y : Int) (v : Value) (w : World) (hn : (s.size : Int) = 3) (hx0 : 0 ≤ x) (hx1 : x ≤ 255) (hm0 : 0 ≤ m) (hm1 : m ≤ 255) (h1 : ¬ letN x < 0) (h2 : ¬ y < 48) (h3 : ¬ 57 < y)
    (HV1 : Hid (m = 35 → v = .tuple #[.agg #[.int .i64 (7 * (y - 48) + letN x), .int .i64 1], .int .i64 0])) (HV2 : Hid (m ≠ 35 → m = 98 → v = .tuple #[.agg #[.int .i64 (7 * (y - 48) + letN x), .int .i64 (-1)], .int .i64 0])) (HV3 : Hid (m ≠ 35 → m ≠ 98 → v = .tuple #[.agg #[.int .i64 0, .int .i64 0], .int .i64 5]))
    (hI0 : ∀ w, (Instr.index 9 (.string s) (.int .i64 0)).run Tryz.prog w = .ok (.int .u8 x) w) (hI1 : ∀ w, (Instr.index 9 (.string s) (.int .i64 1)).run Tryz.prog w = .ok (.int .u8 m) w) (hI2 : ∀ w, (Instr.index 9 (.string s) (.int .i64 2)).run Tryz.prog w = .ok (.int .u8 y) w) :
    Calls Tryz.prog 13 #[.string s] w fun e w' => e = .returned v ∧ Below w.heap.size w w' := by
  have HL := Lib.hid fun w => rletter_c x w hx0 hx1
  have hb := letN_bd x hx0 hx1
  have t1 : IntKind.i64.wrap 1 = 1 := by decide
  have t2 : IntKind.i64.wrap 2 = 2 := by decide
  have t3 : IntKind.i64.wrap y = y := IntWalk.i64_in _ ⟨by omega, by omega⟩
  have t4 : IntKind.i64.wrap (y - 48) = y - 48 := IntWalk.i64_in _ ⟨by omega, by omega⟩
  have t5 : IntKind.i64.wrap (7 * (y - 48)) = 7 * (y - 48) := IntWalk.i64_in _ ⟨by omega, by omega⟩
  have t6 : IntKind.i64.wrap (7 * (y - 48) + letN x) = 7 * (y - 48) + letN x := IntWalk.i64_in _ ⟨by omega, by omega⟩
  generalize letN x = L at *
  go_enter Tryz.func13, Tryz.ntmps13
  go_wp2_with (go_at_call 61; refine (HL.out _).mono ?_; rintro e w' ⟨rfl, rfl⟩)
  refine wp_named fun W hW => ?_
  have hBW : Below w.heap.size w W := by rw [hW]; clear hW; go_grown
  have r0 : W.cell? ⟨w.heap.size, 0, none⟩ = some (.int .i64 0) := by rw [hW]; clear hW; go_simp
  have r1 : W.cell? ⟨w.heap.size, 1, none⟩ = some (.int .i64 0) := by rw [hW]; clear hW; go_simp
  have z0 : W.frozen? ⟨w.heap.size, 0, none⟩ = false := by rw [hW]; clear hW; go_simp
  have z1 : W.frozen? ⟨w.heap.size, 1, none⟩ = false := by rw [hW]; clear hW; go_simp
  have zW : w.heap.size < W.heap.size := by rw [hW]; simp
  clear hW
  have HI1 := Lib.hid hI1
  clear hI1
  go_region_held3 (fun w' => Sk W w') (first | assumption | exact Sk_drew _ | exact Sk_of (by go_grown)) ((go_at_call 61; refine (HL.out _).mono ?_; rintro e w3 ⟨rfl, rfl⟩))
  all_goals
    clear hI0 hI2 HL
    have hI1 := HI1.out
    by_cases ha : m = 35
    · have hv := Lib.hid (HV1.out ha)
      subst ha
      clear HV1 HV2 HV3
      go_wp2_with fail
      (try simp only [Exit.inBlock, Exit.then]); refine bodyPost_ret (by simp [results, Tryz.results13, go_sem, *]; try rfl) rfl ?_
      exact ⟨by rw [hv.out], by go_grown⟩
    · have ea : (m == 35) = false := beq_eq_false_iff_ne.2 ha
      by_cases hc : m = 98
      · have hv := Lib.hid (HV2.out ha hc)
        subst hc
        clear HV1 HV2 HV3
        go_wp2_with fail
        (try simp only [Exit.inBlock, Exit.then]); refine bodyPost_ret (by simp [results, Tryz.results13, go_sem, *]; try rfl) rfl ?_
        exact ⟨by rw [hv.out], by go_grown⟩
      · have hv := Lib.hid (HV3.out ha hc)
        have ec : (m == 98) = false := beq_eq_false_iff_ne.2 hc
        clear HV1 HV2 HV3 ha hc
        go_wp2_with fail
        (try simp only [Exit.inBlock, Exit.then]); refine bodyPost_ret (by simp [results, Tryz.results13, go_sem, *]; try rfl) rfl ?_
        exact ⟨by rw [hv.out], by go_grown⟩
theorem rParse_three (s : ByteArray) (x m y : Int) (w : World) (hn : (s.size : Int) = 3) (hx0 : 0 ≤ x) (hx1 : x ≤ 255) (hm0 : 0 ≤ m) (hm1 : m ≤ 255) (h1 : ¬ letN x < 0) (h2 : ¬ y < 48) (h3 : ¬ 57 < y)
    (hI0 : ∀ w, (Instr.index 9 (.string s) (.int .i64 0)).run Tryz.prog w = .ok (.int .u8 x) w) (hI1 : ∀ w, (Instr.index 9 (.string s) (.int .i64 1)).run Tryz.prog w = .ok (.int .u8 m) w) (hI2 : ∀ w, (Instr.index 9 (.string s) (.int .i64 2)).run Tryz.prog w = .ok (.int .u8 y) w) :
    Calls Tryz.prog 13 #[.string s] w fun e w' => e = .returned (if m = 35 then .tuple #[.agg #[.int .i64 (7 * (y - 48) + letN x), .int .i64 1], .int .i64 0] else if m = 98 then .tuple #[.agg #[.int .i64 (7 * (y - 48) + letN x), .int .i64 (-1)], .int .i64 0] else .tuple #[.agg #[.int .i64 0, .int .i64 0], .int .i64 5]) ∧ Below w.heap.size w w' :=
  rParse_threeV s x m y _ w hn hx0 hx1 hm0 hm1 h1 h2 h3 (fun h => by rw [if_pos h]) (fun h k => by rw [if_neg h, if_pos k]) (fun h k => by rw [if_neg h, if_neg k]) hI0 hI1 hI2
end Go.Proofs.YthfclapnkemjiaaGreatDoor
