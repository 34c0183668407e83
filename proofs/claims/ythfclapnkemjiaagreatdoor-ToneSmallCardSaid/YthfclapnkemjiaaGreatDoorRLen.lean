/-
  Contracts of Length and Base of the reference and of both packages together. Conditions: integers are of their type.
-/
import Derived.Test.YthfclapnkemjiaaGreatDoorRef3
import Derived.Test.YthfclapnkemjiaaGreatDoorSmall
namespace Go.Proofs.YthfclapnkemjiaaGreatDoor
open Go.RowKit

set_option maxRecDepth 100000 in
set_option maxHeartbeats 2000000 in
theorem rLength_no (v : Int) (dot triple : Bool) (w : World) (h : ¬ isValue v) :
    Calls Tryz.prog 28 #[.int .i64 v, .bool dot, .bool triple] w fun e w' => e = .returned (.tuple #[.agg #[.int .i64 0, .int .i64 0], .int .i64 33]) ∧ Below w.heap.size w w' := by
  unfold isValue at h
  have h1 : (v == 1) = false := beq_eq_false_iff_ne.2 (by omega)
  have h2 : (v == 2) = false := beq_eq_false_iff_ne.2 (by omega)
  have h3 : (v == 4) = false := beq_eq_false_iff_ne.2 (by omega)
  have h4 : (v == 8) = false := beq_eq_false_iff_ne.2 (by omega)
  have h5 : (v == 16) = false := beq_eq_false_iff_ne.2 (by omega)
  have n1 : (v != 1) = true := by rw [bne, h1]; rfl
  have n2 : (v != 2) = true := by rw [bne, h2]; rfl
  have n3 : (v != 4) = true := by rw [bne, h3]; rfl
  have n4 : (v != 8) = true := by rw [bne, h4]; rfl
  have n5 : (v != 16) = true := by rw [bne, h5]; rfl
  clear h
  go_enter Tryz.func28, Tryz.ntmps28
  go_wp2
  go_returns
  exact ⟨rfl, by go_grown⟩

set_option maxRecDepth 100000 in
set_option maxHeartbeats 2000000 in
theorem rLen_1_00 (w : World) :
    Calls Tryz.prog 28 #[.int .i64 1, .bool false, .bool false] w fun e w' => e = .returned (ratioV (lenN false false) (lenD 1 false false)) ∧ Below w.heap.size w w' := by
  have e0 : ratioV (lenN false false) (lenD 1 false false) = .tuple #[.agg #[.int .i64 1, .int .i64 1], .int .i64 0] := by kernel_rfl
  rw [e0]
  clear e0
  go_enter Tryz.func28, Tryz.ntmps28
  go_wp2_with fail
  go_returns
  exact ⟨rfl, by go_grown⟩
set_option maxRecDepth 100000 in
set_option maxHeartbeats 2000000 in
theorem rLen_1_01 (w : World) :
    Calls Tryz.prog 28 #[.int .i64 1, .bool false, .bool true] w fun e w' => e = .returned (ratioV (lenN false true) (lenD 1 false true)) ∧ Below w.heap.size w w' := by
  have e0 : ratioV (lenN false true) (lenD 1 false true) = .tuple #[.agg #[.int .i64 2, .int .i64 3], .int .i64 0] := by kernel_rfl
  rw [e0]
  have e1 : fracV (validB 1 1 && validB 2 3) (1 * 2) (1 * 3) = .tuple #[.agg #[.int .i64 2, .int .i64 3], .int .i64 0] := by kernel_rfl
  have H1 := fun w => rMul_c 1 1 2 3 w (by unfold i64P; decide) (by unfold i64P; decide) (by unfold i64P; decide) (by unfold i64P; decide)
  rw [e1] at H1
  have H1 := Lib.hid H1
  clear e0 e1
  go_enter Tryz.func28, Tryz.ntmps28
  go_wp2_with fail
  refine (H1.out _).mono ?_
  rintro e w1 ⟨rfl, hb1⟩; obtain ⟨hc1, hf1⟩ := bcell hb1; have hz1 := hb1.size; (try simp at hz1); have hy1 : w.heap.size < w1.heap.size := (by omega); have hy1_1 : w.heap.size + 1 < w1.heap.size := (by omega); have hB1 : Below w.heap.size w w1 := below_step (by go_grown) hb1
  go_wp2_with fail
  have q0 : w.heap.size < w.heap.size + 1 + 1 := by omega
  (try simp only [Exit.inBlock, Exit.then]); refine bodyPost_ret (by simp [results, Tryz.results28, go_sem, *]; try rfl) rfl ?_
  exact ⟨rfl, by go_grown⟩
set_option maxRecDepth 100000 in
set_option maxHeartbeats 2000000 in
theorem rLen_1_10 (w : World) :
    Calls Tryz.prog 28 #[.int .i64 1, .bool true, .bool false] w fun e w' => e = .returned (ratioV (lenN true false) (lenD 1 true false)) ∧ Below w.heap.size w w' := by
  have e0 : ratioV (lenN true false) (lenD 1 true false) = .tuple #[.agg #[.int .i64 3, .int .i64 2], .int .i64 0] := by kernel_rfl
  rw [e0]
  have e1 : fracV (validB 1 1 && validB 3 2) (1 * 3) (1 * 2) = .tuple #[.agg #[.int .i64 3, .int .i64 2], .int .i64 0] := by kernel_rfl
  have H1 := fun w => rMul_c 1 1 3 2 w (by unfold i64P; decide) (by unfold i64P; decide) (by unfold i64P; decide) (by unfold i64P; decide)
  rw [e1] at H1
  have H1 := Lib.hid H1
  clear e0 e1
  go_enter Tryz.func28, Tryz.ntmps28
  go_wp2_with fail
  refine (H1.out _).mono ?_
  rintro e w1 ⟨rfl, hb1⟩; obtain ⟨hc1, hf1⟩ := bcell hb1; have hz1 := hb1.size; (try simp at hz1); have hy1 : w.heap.size < w1.heap.size := (by omega); have hy1_1 : w.heap.size + 1 < w1.heap.size := (by omega); have hB1 : Below w.heap.size w w1 := below_step (by go_grown) hb1
  go_wp2_with fail
  have q0 : w.heap.size < w.heap.size + 1 + 1 := by omega
  (try simp only [Exit.inBlock, Exit.then]); refine bodyPost_ret (by simp [results, Tryz.results28, go_sem, *]; try rfl) rfl ?_
  exact ⟨rfl, by go_grown⟩
set_option maxRecDepth 100000 in
set_option maxHeartbeats 2000000 in
theorem rLen_1_11 (w : World) :
    Calls Tryz.prog 28 #[.int .i64 1, .bool true, .bool true] w fun e w' => e = .returned (ratioV (lenN true true) (lenD 1 true true)) ∧ Below w.heap.size w w' := by
  have e0 : ratioV (lenN true true) (lenD 1 true true) = .tuple #[.agg #[.int .i64 1, .int .i64 1], .int .i64 0] := by kernel_rfl
  rw [e0]
  have e1 : fracV (validB 1 1 && validB 3 2) (1 * 3) (1 * 2) = .tuple #[.agg #[.int .i64 3, .int .i64 2], .int .i64 0] := by kernel_rfl
  have H1 := fun w => rMul_c 1 1 3 2 w (by unfold i64P; decide) (by unfold i64P; decide) (by unfold i64P; decide) (by unfold i64P; decide)
  rw [e1] at H1
  have H1 := Lib.hid H1
  have e2 : fracV (validB 3 2 && validB 2 3) (3 * 2) (2 * 3) = .tuple #[.agg #[.int .i64 1, .int .i64 1], .int .i64 0] := by kernel_rfl
  have H2 := fun w => rMul_c 3 2 2 3 w (by unfold i64P; decide) (by unfold i64P; decide) (by unfold i64P; decide) (by unfold i64P; decide)
  rw [e2] at H2
  have H2 := Lib.hid H2
  clear e0 e1 e2
  go_enter Tryz.func28, Tryz.ntmps28
  go_wp2_with fail
  refine (H1.out _).mono ?_
  rintro e w1 ⟨rfl, hb1⟩; obtain ⟨hc1, hf1⟩ := bcell hb1; have hz1 := hb1.size; (try simp at hz1); have hy1 : w.heap.size < w1.heap.size := (by omega); have hy1_1 : w.heap.size + 1 < w1.heap.size := (by omega); have hB1 : Below w.heap.size w w1 := below_step (by go_grown) hb1
  have kc000 : w1.cell? ⟨w.heap.size, 0, none⟩ = some (.int .i64 0) := by rw [hc1 _ _ (by simp <;> omega)]; (try clear hc2); go_simp
  have kf000 : w1.frozen? ⟨w.heap.size, 0, none⟩ = false := by rw [hf1 _ _ (by simp <;> omega)]; (try clear hf2); go_simp
  have kc001 : w1.cell? ⟨w.heap.size, 1, none⟩ = some (.int .i64 0) := by rw [hc1 _ _ (by simp <;> omega)]; (try clear hc2); go_simp
  have kf001 : w1.frozen? ⟨w.heap.size, 1, none⟩ = false := by rw [hf1 _ _ (by simp <;> omega)]; (try clear hf2); go_simp
  have kc010 : w1.cell? ⟨w.heap.size + 1, 0, none⟩ = some (.int .i64 1) := by rw [hc1 _ _ (by simp <;> omega)]; (try clear hc2); go_simp
  have kf010 : w1.frozen? ⟨w.heap.size + 1, 0, none⟩ = false := by rw [hf1 _ _ (by simp <;> omega)]; (try clear hf2); go_simp
  have kc011 : w1.cell? ⟨w.heap.size + 1, 1, none⟩ = some (.int .i64 1) := by rw [hc1 _ _ (by simp <;> omega)]; (try clear hc2); go_simp
  have kf011 : w1.frozen? ⟨w.heap.size + 1, 1, none⟩ = false := by rw [hf1 _ _ (by simp <;> omega)]; (try clear hf2); go_simp
  clear hc1 hf1
  go_wp2_with fail
  refine (H2.out _).mono ?_
  rintro e w2 ⟨rfl, hb2⟩; obtain ⟨hc2, hf2⟩ := bcell hb2; have hz2 := hb2.size; (try simp at hz2); have hy2 : w.heap.size < w2.heap.size := (by omega); have hy2_1 : w.heap.size + 1 < w2.heap.size := (by omega); have hB2 : Below w.heap.size w w2 := below_step (by go_grown) hb2
  have kc100 : w2.cell? ⟨w.heap.size, 0, none⟩ = some (.int .i64 0) := by rw [hc2 _ _ (by simp <;> omega)]; (try clear hc2); go_simp
  have kf100 : w2.frozen? ⟨w.heap.size, 0, none⟩ = false := by rw [hf2 _ _ (by simp <;> omega)]; (try clear hf2); go_simp
  have kc101 : w2.cell? ⟨w.heap.size, 1, none⟩ = some (.int .i64 0) := by rw [hc2 _ _ (by simp <;> omega)]; (try clear hc2); go_simp
  have kf101 : w2.frozen? ⟨w.heap.size, 1, none⟩ = false := by rw [hf2 _ _ (by simp <;> omega)]; (try clear hf2); go_simp
  have kc110 : w2.cell? ⟨w.heap.size + 1, 0, none⟩ = some (.int .i64 3) := by rw [hc2 _ _ (by simp <;> omega)]; (try clear hc2); go_simp
  have kf110 : w2.frozen? ⟨w.heap.size + 1, 0, none⟩ = false := by rw [hf2 _ _ (by simp <;> omega)]; (try clear hf2); go_simp
  have kc111 : w2.cell? ⟨w.heap.size + 1, 1, none⟩ = some (.int .i64 2) := by rw [hc2 _ _ (by simp <;> omega)]; (try clear hc2); go_simp
  have kf111 : w2.frozen? ⟨w.heap.size + 1, 1, none⟩ = false := by rw [hf2 _ _ (by simp <;> omega)]; (try clear hf2); go_simp
  clear hc2 hf2
  go_wp2_with fail
  have q0 : w.heap.size < w.heap.size + 1 + 1 := by omega
  (try simp only [Exit.inBlock, Exit.then]); refine bodyPost_ret (by simp [results, Tryz.results28, go_sem, *]; try rfl) rfl ?_
  exact ⟨rfl, by go_grown⟩
set_option maxRecDepth 100000 in
set_option maxHeartbeats 2000000 in
theorem rLen_2_00 (w : World) :
    Calls Tryz.prog 28 #[.int .i64 2, .bool false, .bool false] w fun e w' => e = .returned (ratioV (lenN false false) (lenD 2 false false)) ∧ Below w.heap.size w w' := by
  have e0 : ratioV (lenN false false) (lenD 2 false false) = .tuple #[.agg #[.int .i64 1, .int .i64 2], .int .i64 0] := by kernel_rfl
  rw [e0]
  clear e0
  go_enter Tryz.func28, Tryz.ntmps28
  go_wp2_with fail
  go_returns
  exact ⟨rfl, by go_grown⟩
set_option maxRecDepth 100000 in
set_option maxHeartbeats 2000000 in
theorem rLen_2_01 (w : World) :
    Calls Tryz.prog 28 #[.int .i64 2, .bool false, .bool true] w fun e w' => e = .returned (ratioV (lenN false true) (lenD 2 false true)) ∧ Below w.heap.size w w' := by
  have e0 : ratioV (lenN false true) (lenD 2 false true) = .tuple #[.agg #[.int .i64 1, .int .i64 3], .int .i64 0] := by kernel_rfl
  rw [e0]
  have e1 : fracV (validB 1 2 && validB 2 3) (1 * 2) (2 * 3) = .tuple #[.agg #[.int .i64 1, .int .i64 3], .int .i64 0] := by kernel_rfl
  have H1 := fun w => rMul_c 1 2 2 3 w (by unfold i64P; decide) (by unfold i64P; decide) (by unfold i64P; decide) (by unfold i64P; decide)
  rw [e1] at H1
  have H1 := Lib.hid H1
  clear e0 e1
  go_enter Tryz.func28, Tryz.ntmps28
  go_wp2_with fail
  refine (H1.out _).mono ?_
  rintro e w1 ⟨rfl, hb1⟩; obtain ⟨hc1, hf1⟩ := bcell hb1; have hz1 := hb1.size; (try simp at hz1); have hy1 : w.heap.size < w1.heap.size := (by omega); have hy1_1 : w.heap.size + 1 < w1.heap.size := (by omega); have hB1 : Below w.heap.size w w1 := below_step (by go_grown) hb1
  go_wp2_with fail
  have q0 : w.heap.size < w.heap.size + 1 + 1 := by omega
  (try simp only [Exit.inBlock, Exit.then]); refine bodyPost_ret (by simp [results, Tryz.results28, go_sem, *]; try rfl) rfl ?_
  exact ⟨rfl, by go_grown⟩
set_option maxRecDepth 100000 in
set_option maxHeartbeats 2000000 in
theorem rLen_2_10 (w : World) :
    Calls Tryz.prog 28 #[.int .i64 2, .bool true, .bool false] w fun e w' => e = .returned (ratioV (lenN true false) (lenD 2 true false)) ∧ Below w.heap.size w w' := by
  have e0 : ratioV (lenN true false) (lenD 2 true false) = .tuple #[.agg #[.int .i64 3, .int .i64 4], .int .i64 0] := by kernel_rfl
  rw [e0]
  have e1 : fracV (validB 1 2 && validB 3 2) (1 * 3) (2 * 2) = .tuple #[.agg #[.int .i64 3, .int .i64 4], .int .i64 0] := by kernel_rfl
  have H1 := fun w => rMul_c 1 2 3 2 w (by unfold i64P; decide) (by unfold i64P; decide) (by unfold i64P; decide) (by unfold i64P; decide)
  rw [e1] at H1
  have H1 := Lib.hid H1
  clear e0 e1
  go_enter Tryz.func28, Tryz.ntmps28
  go_wp2_with fail
  refine (H1.out _).mono ?_
  rintro e w1 ⟨rfl, hb1⟩; obtain ⟨hc1, hf1⟩ := bcell hb1; have hz1 := hb1.size; (try simp at hz1); have hy1 : w.heap.size < w1.heap.size := (by omega); have hy1_1 : w.heap.size + 1 < w1.heap.size := (by omega); have hB1 : Below w.heap.size w w1 := below_step (by go_grown) hb1
  go_wp2_with fail
  have q0 : w.heap.size < w.heap.size + 1 + 1 := by omega
  (try simp only [Exit.inBlock, Exit.then]); refine bodyPost_ret (by simp [results, Tryz.results28, go_sem, *]; try rfl) rfl ?_
  exact ⟨rfl, by go_grown⟩
set_option maxRecDepth 100000 in
set_option maxHeartbeats 2000000 in
theorem rLen_2_11 (w : World) :
    Calls Tryz.prog 28 #[.int .i64 2, .bool true, .bool true] w fun e w' => e = .returned (ratioV (lenN true true) (lenD 2 true true)) ∧ Below w.heap.size w w' := by
  have e0 : ratioV (lenN true true) (lenD 2 true true) = .tuple #[.agg #[.int .i64 1, .int .i64 2], .int .i64 0] := by kernel_rfl
  rw [e0]
  have e1 : fracV (validB 1 2 && validB 3 2) (1 * 3) (2 * 2) = .tuple #[.agg #[.int .i64 3, .int .i64 4], .int .i64 0] := by kernel_rfl
  have H1 := fun w => rMul_c 1 2 3 2 w (by unfold i64P; decide) (by unfold i64P; decide) (by unfold i64P; decide) (by unfold i64P; decide)
  rw [e1] at H1
  have H1 := Lib.hid H1
  have e2 : fracV (validB 3 4 && validB 2 3) (3 * 2) (4 * 3) = .tuple #[.agg #[.int .i64 1, .int .i64 2], .int .i64 0] := by kernel_rfl
  have H2 := fun w => rMul_c 3 4 2 3 w (by unfold i64P; decide) (by unfold i64P; decide) (by unfold i64P; decide) (by unfold i64P; decide)
  rw [e2] at H2
  have H2 := Lib.hid H2
  clear e0 e1 e2
  go_enter Tryz.func28, Tryz.ntmps28
  go_wp2_with fail
  refine (H1.out _).mono ?_
  rintro e w1 ⟨rfl, hb1⟩; obtain ⟨hc1, hf1⟩ := bcell hb1; have hz1 := hb1.size; (try simp at hz1); have hy1 : w.heap.size < w1.heap.size := (by omega); have hy1_1 : w.heap.size + 1 < w1.heap.size := (by omega); have hB1 : Below w.heap.size w w1 := below_step (by go_grown) hb1
  have kc000 : w1.cell? ⟨w.heap.size, 0, none⟩ = some (.int .i64 0) := by rw [hc1 _ _ (by simp <;> omega)]; (try clear hc2); go_simp
  have kf000 : w1.frozen? ⟨w.heap.size, 0, none⟩ = false := by rw [hf1 _ _ (by simp <;> omega)]; (try clear hf2); go_simp
  have kc001 : w1.cell? ⟨w.heap.size, 1, none⟩ = some (.int .i64 0) := by rw [hc1 _ _ (by simp <;> omega)]; (try clear hc2); go_simp
  have kf001 : w1.frozen? ⟨w.heap.size, 1, none⟩ = false := by rw [hf1 _ _ (by simp <;> omega)]; (try clear hf2); go_simp
  have kc010 : w1.cell? ⟨w.heap.size + 1, 0, none⟩ = some (.int .i64 1) := by rw [hc1 _ _ (by simp <;> omega)]; (try clear hc2); go_simp
  have kf010 : w1.frozen? ⟨w.heap.size + 1, 0, none⟩ = false := by rw [hf1 _ _ (by simp <;> omega)]; (try clear hf2); go_simp
  have kc011 : w1.cell? ⟨w.heap.size + 1, 1, none⟩ = some (.int .i64 2) := by rw [hc1 _ _ (by simp <;> omega)]; (try clear hc2); go_simp
  have kf011 : w1.frozen? ⟨w.heap.size + 1, 1, none⟩ = false := by rw [hf1 _ _ (by simp <;> omega)]; (try clear hf2); go_simp
  clear hc1 hf1
  go_wp2_with fail
  refine (H2.out _).mono ?_
  rintro e w2 ⟨rfl, hb2⟩; obtain ⟨hc2, hf2⟩ := bcell hb2; have hz2 := hb2.size; (try simp at hz2); have hy2 : w.heap.size < w2.heap.size := (by omega); have hy2_1 : w.heap.size + 1 < w2.heap.size := (by omega); have hB2 : Below w.heap.size w w2 := below_step (by go_grown) hb2
  have kc100 : w2.cell? ⟨w.heap.size, 0, none⟩ = some (.int .i64 0) := by rw [hc2 _ _ (by simp <;> omega)]; (try clear hc2); go_simp
  have kf100 : w2.frozen? ⟨w.heap.size, 0, none⟩ = false := by rw [hf2 _ _ (by simp <;> omega)]; (try clear hf2); go_simp
  have kc101 : w2.cell? ⟨w.heap.size, 1, none⟩ = some (.int .i64 0) := by rw [hc2 _ _ (by simp <;> omega)]; (try clear hc2); go_simp
  have kf101 : w2.frozen? ⟨w.heap.size, 1, none⟩ = false := by rw [hf2 _ _ (by simp <;> omega)]; (try clear hf2); go_simp
  have kc110 : w2.cell? ⟨w.heap.size + 1, 0, none⟩ = some (.int .i64 3) := by rw [hc2 _ _ (by simp <;> omega)]; (try clear hc2); go_simp
  have kf110 : w2.frozen? ⟨w.heap.size + 1, 0, none⟩ = false := by rw [hf2 _ _ (by simp <;> omega)]; (try clear hf2); go_simp
  have kc111 : w2.cell? ⟨w.heap.size + 1, 1, none⟩ = some (.int .i64 4) := by rw [hc2 _ _ (by simp <;> omega)]; (try clear hc2); go_simp
  have kf111 : w2.frozen? ⟨w.heap.size + 1, 1, none⟩ = false := by rw [hf2 _ _ (by simp <;> omega)]; (try clear hf2); go_simp
  clear hc2 hf2
  go_wp2_with fail
  have q0 : w.heap.size < w.heap.size + 1 + 1 := by omega
  (try simp only [Exit.inBlock, Exit.then]); refine bodyPost_ret (by simp [results, Tryz.results28, go_sem, *]; try rfl) rfl ?_
  exact ⟨rfl, by go_grown⟩
set_option maxRecDepth 100000 in
set_option maxHeartbeats 2000000 in
theorem rLen_4_00 (w : World) :
    Calls Tryz.prog 28 #[.int .i64 4, .bool false, .bool false] w fun e w' => e = .returned (ratioV (lenN false false) (lenD 4 false false)) ∧ Below w.heap.size w w' := by
  have e0 : ratioV (lenN false false) (lenD 4 false false) = .tuple #[.agg #[.int .i64 1, .int .i64 4], .int .i64 0] := by kernel_rfl
  rw [e0]
  clear e0
  go_enter Tryz.func28, Tryz.ntmps28
  go_wp2_with fail
  go_returns
  exact ⟨rfl, by go_grown⟩
set_option maxRecDepth 100000 in
set_option maxHeartbeats 2000000 in
theorem rLen_4_01 (w : World) :
    Calls Tryz.prog 28 #[.int .i64 4, .bool false, .bool true] w fun e w' => e = .returned (ratioV (lenN false true) (lenD 4 false true)) ∧ Below w.heap.size w w' := by
  have e0 : ratioV (lenN false true) (lenD 4 false true) = .tuple #[.agg #[.int .i64 1, .int .i64 6], .int .i64 0] := by kernel_rfl
  rw [e0]
  have e1 : fracV (validB 1 4 && validB 2 3) (1 * 2) (4 * 3) = .tuple #[.agg #[.int .i64 1, .int .i64 6], .int .i64 0] := by kernel_rfl
  have H1 := fun w => rMul_c 1 4 2 3 w (by unfold i64P; decide) (by unfold i64P; decide) (by unfold i64P; decide) (by unfold i64P; decide)
  rw [e1] at H1
  have H1 := Lib.hid H1
  clear e0 e1
  go_enter Tryz.func28, Tryz.ntmps28
  go_wp2_with fail
  refine (H1.out _).mono ?_
  rintro e w1 ⟨rfl, hb1⟩; obtain ⟨hc1, hf1⟩ := bcell hb1; have hz1 := hb1.size; (try simp at hz1); have hy1 : w.heap.size < w1.heap.size := (by omega); have hy1_1 : w.heap.size + 1 < w1.heap.size := (by omega); have hB1 : Below w.heap.size w w1 := below_step (by go_grown) hb1
  go_wp2_with fail
  have q0 : w.heap.size < w.heap.size + 1 + 1 := by omega
  (try simp only [Exit.inBlock, Exit.then]); refine bodyPost_ret (by simp [results, Tryz.results28, go_sem, *]; try rfl) rfl ?_
  exact ⟨rfl, by go_grown⟩
set_option maxRecDepth 100000 in
set_option maxHeartbeats 2000000 in
theorem rLen_4_10 (w : World) :
    Calls Tryz.prog 28 #[.int .i64 4, .bool true, .bool false] w fun e w' => e = .returned (ratioV (lenN true false) (lenD 4 true false)) ∧ Below w.heap.size w w' := by
  have e0 : ratioV (lenN true false) (lenD 4 true false) = .tuple #[.agg #[.int .i64 3, .int .i64 8], .int .i64 0] := by kernel_rfl
  rw [e0]
  have e1 : fracV (validB 1 4 && validB 3 2) (1 * 3) (4 * 2) = .tuple #[.agg #[.int .i64 3, .int .i64 8], .int .i64 0] := by kernel_rfl
  have H1 := fun w => rMul_c 1 4 3 2 w (by unfold i64P; decide) (by unfold i64P; decide) (by unfold i64P; decide) (by unfold i64P; decide)
  rw [e1] at H1
  have H1 := Lib.hid H1
  clear e0 e1
  go_enter Tryz.func28, Tryz.ntmps28
  go_wp2_with fail
  refine (H1.out _).mono ?_
  rintro e w1 ⟨rfl, hb1⟩; obtain ⟨hc1, hf1⟩ := bcell hb1; have hz1 := hb1.size; (try simp at hz1); have hy1 : w.heap.size < w1.heap.size := (by omega); have hy1_1 : w.heap.size + 1 < w1.heap.size := (by omega); have hB1 : Below w.heap.size w w1 := below_step (by go_grown) hb1
  go_wp2_with fail
  have q0 : w.heap.size < w.heap.size + 1 + 1 := by omega
  (try simp only [Exit.inBlock, Exit.then]); refine bodyPost_ret (by simp [results, Tryz.results28, go_sem, *]; try rfl) rfl ?_
  exact ⟨rfl, by go_grown⟩
set_option maxRecDepth 100000 in
set_option maxHeartbeats 2000000 in
theorem rLen_4_11 (w : World) :
    Calls Tryz.prog 28 #[.int .i64 4, .bool true, .bool true] w fun e w' => e = .returned (ratioV (lenN true true) (lenD 4 true true)) ∧ Below w.heap.size w w' := by
  have e0 : ratioV (lenN true true) (lenD 4 true true) = .tuple #[.agg #[.int .i64 1, .int .i64 4], .int .i64 0] := by kernel_rfl
  rw [e0]
  have e1 : fracV (validB 1 4 && validB 3 2) (1 * 3) (4 * 2) = .tuple #[.agg #[.int .i64 3, .int .i64 8], .int .i64 0] := by kernel_rfl
  have H1 := fun w => rMul_c 1 4 3 2 w (by unfold i64P; decide) (by unfold i64P; decide) (by unfold i64P; decide) (by unfold i64P; decide)
  rw [e1] at H1
  have H1 := Lib.hid H1
  have e2 : fracV (validB 3 8 && validB 2 3) (3 * 2) (8 * 3) = .tuple #[.agg #[.int .i64 1, .int .i64 4], .int .i64 0] := by kernel_rfl
  have H2 := fun w => rMul_c 3 8 2 3 w (by unfold i64P; decide) (by unfold i64P; decide) (by unfold i64P; decide) (by unfold i64P; decide)
  rw [e2] at H2
  have H2 := Lib.hid H2
  clear e0 e1 e2
  go_enter Tryz.func28, Tryz.ntmps28
  go_wp2_with fail
  refine (H1.out _).mono ?_
  rintro e w1 ⟨rfl, hb1⟩; obtain ⟨hc1, hf1⟩ := bcell hb1; have hz1 := hb1.size; (try simp at hz1); have hy1 : w.heap.size < w1.heap.size := (by omega); have hy1_1 : w.heap.size + 1 < w1.heap.size := (by omega); have hB1 : Below w.heap.size w w1 := below_step (by go_grown) hb1
  have kc000 : w1.cell? ⟨w.heap.size, 0, none⟩ = some (.int .i64 0) := by rw [hc1 _ _ (by simp <;> omega)]; (try clear hc2); go_simp
  have kf000 : w1.frozen? ⟨w.heap.size, 0, none⟩ = false := by rw [hf1 _ _ (by simp <;> omega)]; (try clear hf2); go_simp
  have kc001 : w1.cell? ⟨w.heap.size, 1, none⟩ = some (.int .i64 0) := by rw [hc1 _ _ (by simp <;> omega)]; (try clear hc2); go_simp
  have kf001 : w1.frozen? ⟨w.heap.size, 1, none⟩ = false := by rw [hf1 _ _ (by simp <;> omega)]; (try clear hf2); go_simp
  have kc010 : w1.cell? ⟨w.heap.size + 1, 0, none⟩ = some (.int .i64 1) := by rw [hc1 _ _ (by simp <;> omega)]; (try clear hc2); go_simp
  have kf010 : w1.frozen? ⟨w.heap.size + 1, 0, none⟩ = false := by rw [hf1 _ _ (by simp <;> omega)]; (try clear hf2); go_simp
  have kc011 : w1.cell? ⟨w.heap.size + 1, 1, none⟩ = some (.int .i64 4) := by rw [hc1 _ _ (by simp <;> omega)]; (try clear hc2); go_simp
  have kf011 : w1.frozen? ⟨w.heap.size + 1, 1, none⟩ = false := by rw [hf1 _ _ (by simp <;> omega)]; (try clear hf2); go_simp
  clear hc1 hf1
  go_wp2_with fail
  refine (H2.out _).mono ?_
  rintro e w2 ⟨rfl, hb2⟩; obtain ⟨hc2, hf2⟩ := bcell hb2; have hz2 := hb2.size; (try simp at hz2); have hy2 : w.heap.size < w2.heap.size := (by omega); have hy2_1 : w.heap.size + 1 < w2.heap.size := (by omega); have hB2 : Below w.heap.size w w2 := below_step (by go_grown) hb2
  have kc100 : w2.cell? ⟨w.heap.size, 0, none⟩ = some (.int .i64 0) := by rw [hc2 _ _ (by simp <;> omega)]; (try clear hc2); go_simp
  have kf100 : w2.frozen? ⟨w.heap.size, 0, none⟩ = false := by rw [hf2 _ _ (by simp <;> omega)]; (try clear hf2); go_simp
  have kc101 : w2.cell? ⟨w.heap.size, 1, none⟩ = some (.int .i64 0) := by rw [hc2 _ _ (by simp <;> omega)]; (try clear hc2); go_simp
  have kf101 : w2.frozen? ⟨w.heap.size, 1, none⟩ = false := by rw [hf2 _ _ (by simp <;> omega)]; (try clear hf2); go_simp
  have kc110 : w2.cell? ⟨w.heap.size + 1, 0, none⟩ = some (.int .i64 3) := by rw [hc2 _ _ (by simp <;> omega)]; (try clear hc2); go_simp
  have kf110 : w2.frozen? ⟨w.heap.size + 1, 0, none⟩ = false := by rw [hf2 _ _ (by simp <;> omega)]; (try clear hf2); go_simp
  have kc111 : w2.cell? ⟨w.heap.size + 1, 1, none⟩ = some (.int .i64 8) := by rw [hc2 _ _ (by simp <;> omega)]; (try clear hc2); go_simp
  have kf111 : w2.frozen? ⟨w.heap.size + 1, 1, none⟩ = false := by rw [hf2 _ _ (by simp <;> omega)]; (try clear hf2); go_simp
  clear hc2 hf2
  go_wp2_with fail
  have q0 : w.heap.size < w.heap.size + 1 + 1 := by omega
  (try simp only [Exit.inBlock, Exit.then]); refine bodyPost_ret (by simp [results, Tryz.results28, go_sem, *]; try rfl) rfl ?_
  exact ⟨rfl, by go_grown⟩
set_option maxRecDepth 100000 in
set_option maxHeartbeats 2000000 in
theorem rLen_8_00 (w : World) :
    Calls Tryz.prog 28 #[.int .i64 8, .bool false, .bool false] w fun e w' => e = .returned (ratioV (lenN false false) (lenD 8 false false)) ∧ Below w.heap.size w w' := by
  have e0 : ratioV (lenN false false) (lenD 8 false false) = .tuple #[.agg #[.int .i64 1, .int .i64 8], .int .i64 0] := by kernel_rfl
  rw [e0]
  clear e0
  go_enter Tryz.func28, Tryz.ntmps28
  go_wp2_with fail
  go_returns
  exact ⟨rfl, by go_grown⟩
set_option maxRecDepth 100000 in
set_option maxHeartbeats 2000000 in
theorem rLen_8_01 (w : World) :
    Calls Tryz.prog 28 #[.int .i64 8, .bool false, .bool true] w fun e w' => e = .returned (ratioV (lenN false true) (lenD 8 false true)) ∧ Below w.heap.size w w' := by
  have e0 : ratioV (lenN false true) (lenD 8 false true) = .tuple #[.agg #[.int .i64 1, .int .i64 12], .int .i64 0] := by kernel_rfl
  rw [e0]
  have e1 : fracV (validB 1 8 && validB 2 3) (1 * 2) (8 * 3) = .tuple #[.agg #[.int .i64 1, .int .i64 12], .int .i64 0] := by kernel_rfl
  have H1 := fun w => rMul_c 1 8 2 3 w (by unfold i64P; decide) (by unfold i64P; decide) (by unfold i64P; decide) (by unfold i64P; decide)
  rw [e1] at H1
  have H1 := Lib.hid H1
  clear e0 e1
  go_enter Tryz.func28, Tryz.ntmps28
  go_wp2_with fail
  refine (H1.out _).mono ?_
  rintro e w1 ⟨rfl, hb1⟩; obtain ⟨hc1, hf1⟩ := bcell hb1; have hz1 := hb1.size; (try simp at hz1); have hy1 : w.heap.size < w1.heap.size := (by omega); have hy1_1 : w.heap.size + 1 < w1.heap.size := (by omega); have hB1 : Below w.heap.size w w1 := below_step (by go_grown) hb1
  go_wp2_with fail
  have q0 : w.heap.size < w.heap.size + 1 + 1 := by omega
  (try simp only [Exit.inBlock, Exit.then]); refine bodyPost_ret (by simp [results, Tryz.results28, go_sem, *]; try rfl) rfl ?_
  exact ⟨rfl, by go_grown⟩
set_option maxRecDepth 100000 in
set_option maxHeartbeats 2000000 in
theorem rLen_8_10 (w : World) :
    Calls Tryz.prog 28 #[.int .i64 8, .bool true, .bool false] w fun e w' => e = .returned (ratioV (lenN true false) (lenD 8 true false)) ∧ Below w.heap.size w w' := by
  have e0 : ratioV (lenN true false) (lenD 8 true false) = .tuple #[.agg #[.int .i64 3, .int .i64 16], .int .i64 0] := by kernel_rfl
  rw [e0]
  have e1 : fracV (validB 1 8 && validB 3 2) (1 * 3) (8 * 2) = .tuple #[.agg #[.int .i64 3, .int .i64 16], .int .i64 0] := by kernel_rfl
  have H1 := fun w => rMul_c 1 8 3 2 w (by unfold i64P; decide) (by unfold i64P; decide) (by unfold i64P; decide) (by unfold i64P; decide)
  rw [e1] at H1
  have H1 := Lib.hid H1
  clear e0 e1
  go_enter Tryz.func28, Tryz.ntmps28
  go_wp2_with fail
  refine (H1.out _).mono ?_
  rintro e w1 ⟨rfl, hb1⟩; obtain ⟨hc1, hf1⟩ := bcell hb1; have hz1 := hb1.size; (try simp at hz1); have hy1 : w.heap.size < w1.heap.size := (by omega); have hy1_1 : w.heap.size + 1 < w1.heap.size := (by omega); have hB1 : Below w.heap.size w w1 := below_step (by go_grown) hb1
  go_wp2_with fail
  have q0 : w.heap.size < w.heap.size + 1 + 1 := by omega
  (try simp only [Exit.inBlock, Exit.then]); refine bodyPost_ret (by simp [results, Tryz.results28, go_sem, *]; try rfl) rfl ?_
  exact ⟨rfl, by go_grown⟩
set_option maxRecDepth 100000 in
set_option maxHeartbeats 2000000 in
theorem rLen_8_11 (w : World) :
    Calls Tryz.prog 28 #[.int .i64 8, .bool true, .bool true] w fun e w' => e = .returned (ratioV (lenN true true) (lenD 8 true true)) ∧ Below w.heap.size w w' := by
  have e0 : ratioV (lenN true true) (lenD 8 true true) = .tuple #[.agg #[.int .i64 1, .int .i64 8], .int .i64 0] := by kernel_rfl
  rw [e0]
  have e1 : fracV (validB 1 8 && validB 3 2) (1 * 3) (8 * 2) = .tuple #[.agg #[.int .i64 3, .int .i64 16], .int .i64 0] := by kernel_rfl
  have H1 := fun w => rMul_c 1 8 3 2 w (by unfold i64P; decide) (by unfold i64P; decide) (by unfold i64P; decide) (by unfold i64P; decide)
  rw [e1] at H1
  have H1 := Lib.hid H1
  have e2 : fracV (validB 3 16 && validB 2 3) (3 * 2) (16 * 3) = .tuple #[.agg #[.int .i64 1, .int .i64 8], .int .i64 0] := by kernel_rfl
  have H2 := fun w => rMul_c 3 16 2 3 w (by unfold i64P; decide) (by unfold i64P; decide) (by unfold i64P; decide) (by unfold i64P; decide)
  rw [e2] at H2
  have H2 := Lib.hid H2
  clear e0 e1 e2
  go_enter Tryz.func28, Tryz.ntmps28
  go_wp2_with fail
  refine (H1.out _).mono ?_
  rintro e w1 ⟨rfl, hb1⟩; obtain ⟨hc1, hf1⟩ := bcell hb1; have hz1 := hb1.size; (try simp at hz1); have hy1 : w.heap.size < w1.heap.size := (by omega); have hy1_1 : w.heap.size + 1 < w1.heap.size := (by omega); have hB1 : Below w.heap.size w w1 := below_step (by go_grown) hb1
  have kc000 : w1.cell? ⟨w.heap.size, 0, none⟩ = some (.int .i64 0) := by rw [hc1 _ _ (by simp <;> omega)]; (try clear hc2); go_simp
  have kf000 : w1.frozen? ⟨w.heap.size, 0, none⟩ = false := by rw [hf1 _ _ (by simp <;> omega)]; (try clear hf2); go_simp
  have kc001 : w1.cell? ⟨w.heap.size, 1, none⟩ = some (.int .i64 0) := by rw [hc1 _ _ (by simp <;> omega)]; (try clear hc2); go_simp
  have kf001 : w1.frozen? ⟨w.heap.size, 1, none⟩ = false := by rw [hf1 _ _ (by simp <;> omega)]; (try clear hf2); go_simp
  have kc010 : w1.cell? ⟨w.heap.size + 1, 0, none⟩ = some (.int .i64 1) := by rw [hc1 _ _ (by simp <;> omega)]; (try clear hc2); go_simp
  have kf010 : w1.frozen? ⟨w.heap.size + 1, 0, none⟩ = false := by rw [hf1 _ _ (by simp <;> omega)]; (try clear hf2); go_simp
  have kc011 : w1.cell? ⟨w.heap.size + 1, 1, none⟩ = some (.int .i64 8) := by rw [hc1 _ _ (by simp <;> omega)]; (try clear hc2); go_simp
  have kf011 : w1.frozen? ⟨w.heap.size + 1, 1, none⟩ = false := by rw [hf1 _ _ (by simp <;> omega)]; (try clear hf2); go_simp
  clear hc1 hf1
  go_wp2_with fail
  refine (H2.out _).mono ?_
  rintro e w2 ⟨rfl, hb2⟩; obtain ⟨hc2, hf2⟩ := bcell hb2; have hz2 := hb2.size; (try simp at hz2); have hy2 : w.heap.size < w2.heap.size := (by omega); have hy2_1 : w.heap.size + 1 < w2.heap.size := (by omega); have hB2 : Below w.heap.size w w2 := below_step (by go_grown) hb2
  have kc100 : w2.cell? ⟨w.heap.size, 0, none⟩ = some (.int .i64 0) := by rw [hc2 _ _ (by simp <;> omega)]; (try clear hc2); go_simp
  have kf100 : w2.frozen? ⟨w.heap.size, 0, none⟩ = false := by rw [hf2 _ _ (by simp <;> omega)]; (try clear hf2); go_simp
  have kc101 : w2.cell? ⟨w.heap.size, 1, none⟩ = some (.int .i64 0) := by rw [hc2 _ _ (by simp <;> omega)]; (try clear hc2); go_simp
  have kf101 : w2.frozen? ⟨w.heap.size, 1, none⟩ = false := by rw [hf2 _ _ (by simp <;> omega)]; (try clear hf2); go_simp
  have kc110 : w2.cell? ⟨w.heap.size + 1, 0, none⟩ = some (.int .i64 3) := by rw [hc2 _ _ (by simp <;> omega)]; (try clear hc2); go_simp
  have kf110 : w2.frozen? ⟨w.heap.size + 1, 0, none⟩ = false := by rw [hf2 _ _ (by simp <;> omega)]; (try clear hf2); go_simp
  have kc111 : w2.cell? ⟨w.heap.size + 1, 1, none⟩ = some (.int .i64 16) := by rw [hc2 _ _ (by simp <;> omega)]; (try clear hc2); go_simp
  have kf111 : w2.frozen? ⟨w.heap.size + 1, 1, none⟩ = false := by rw [hf2 _ _ (by simp <;> omega)]; (try clear hf2); go_simp
  clear hc2 hf2
  go_wp2_with fail
  have q0 : w.heap.size < w.heap.size + 1 + 1 := by omega
  (try simp only [Exit.inBlock, Exit.then]); refine bodyPost_ret (by simp [results, Tryz.results28, go_sem, *]; try rfl) rfl ?_
  exact ⟨rfl, by go_grown⟩
set_option maxRecDepth 100000 in
set_option maxHeartbeats 2000000 in
theorem rLen_16_00 (w : World) :
    Calls Tryz.prog 28 #[.int .i64 16, .bool false, .bool false] w fun e w' => e = .returned (ratioV (lenN false false) (lenD 16 false false)) ∧ Below w.heap.size w w' := by
  have e0 : ratioV (lenN false false) (lenD 16 false false) = .tuple #[.agg #[.int .i64 1, .int .i64 16], .int .i64 0] := by kernel_rfl
  rw [e0]
  clear e0
  go_enter Tryz.func28, Tryz.ntmps28
  go_wp2_with fail
  go_returns
  exact ⟨rfl, by go_grown⟩
set_option maxRecDepth 100000 in
set_option maxHeartbeats 2000000 in
theorem rLen_16_01 (w : World) :
    Calls Tryz.prog 28 #[.int .i64 16, .bool false, .bool true] w fun e w' => e = .returned (ratioV (lenN false true) (lenD 16 false true)) ∧ Below w.heap.size w w' := by
  have e0 : ratioV (lenN false true) (lenD 16 false true) = .tuple #[.agg #[.int .i64 1, .int .i64 24], .int .i64 0] := by kernel_rfl
  rw [e0]
  have e1 : fracV (validB 1 16 && validB 2 3) (1 * 2) (16 * 3) = .tuple #[.agg #[.int .i64 1, .int .i64 24], .int .i64 0] := by kernel_rfl
  have H1 := fun w => rMul_c 1 16 2 3 w (by unfold i64P; decide) (by unfold i64P; decide) (by unfold i64P; decide) (by unfold i64P; decide)
  rw [e1] at H1
  have H1 := Lib.hid H1
  clear e0 e1
  go_enter Tryz.func28, Tryz.ntmps28
  go_wp2_with fail
  refine (H1.out _).mono ?_
  rintro e w1 ⟨rfl, hb1⟩; obtain ⟨hc1, hf1⟩ := bcell hb1; have hz1 := hb1.size; (try simp at hz1); have hy1 : w.heap.size < w1.heap.size := (by omega); have hy1_1 : w.heap.size + 1 < w1.heap.size := (by omega); have hB1 : Below w.heap.size w w1 := below_step (by go_grown) hb1
  go_wp2_with fail
  have q0 : w.heap.size < w.heap.size + 1 + 1 := by omega
  (try simp only [Exit.inBlock, Exit.then]); refine bodyPost_ret (by simp [results, Tryz.results28, go_sem, *]; try rfl) rfl ?_
  exact ⟨rfl, by go_grown⟩
set_option maxRecDepth 100000 in
set_option maxHeartbeats 2000000 in
theorem rLen_16_10 (w : World) :
    Calls Tryz.prog 28 #[.int .i64 16, .bool true, .bool false] w fun e w' => e = .returned (ratioV (lenN true false) (lenD 16 true false)) ∧ Below w.heap.size w w' := by
  have e0 : ratioV (lenN true false) (lenD 16 true false) = .tuple #[.agg #[.int .i64 3, .int .i64 32], .int .i64 0] := by kernel_rfl
  rw [e0]
  have e1 : fracV (validB 1 16 && validB 3 2) (1 * 3) (16 * 2) = .tuple #[.agg #[.int .i64 3, .int .i64 32], .int .i64 0] := by kernel_rfl
  have H1 := fun w => rMul_c 1 16 3 2 w (by unfold i64P; decide) (by unfold i64P; decide) (by unfold i64P; decide) (by unfold i64P; decide)
  rw [e1] at H1
  have H1 := Lib.hid H1
  clear e0 e1
  go_enter Tryz.func28, Tryz.ntmps28
  go_wp2_with fail
  refine (H1.out _).mono ?_
  rintro e w1 ⟨rfl, hb1⟩; obtain ⟨hc1, hf1⟩ := bcell hb1; have hz1 := hb1.size; (try simp at hz1); have hy1 : w.heap.size < w1.heap.size := (by omega); have hy1_1 : w.heap.size + 1 < w1.heap.size := (by omega); have hB1 : Below w.heap.size w w1 := below_step (by go_grown) hb1
  go_wp2_with fail
  have q0 : w.heap.size < w.heap.size + 1 + 1 := by omega
  (try simp only [Exit.inBlock, Exit.then]); refine bodyPost_ret (by simp [results, Tryz.results28, go_sem, *]; try rfl) rfl ?_
  exact ⟨rfl, by go_grown⟩
set_option maxRecDepth 100000 in
set_option maxHeartbeats 2000000 in
theorem rLen_16_11 (w : World) :
    Calls Tryz.prog 28 #[.int .i64 16, .bool true, .bool true] w fun e w' => e = .returned (ratioV (lenN true true) (lenD 16 true true)) ∧ Below w.heap.size w w' := by
  have e0 : ratioV (lenN true true) (lenD 16 true true) = .tuple #[.agg #[.int .i64 1, .int .i64 16], .int .i64 0] := by kernel_rfl
  rw [e0]
  have e1 : fracV (validB 1 16 && validB 3 2) (1 * 3) (16 * 2) = .tuple #[.agg #[.int .i64 3, .int .i64 32], .int .i64 0] := by kernel_rfl
  have H1 := fun w => rMul_c 1 16 3 2 w (by unfold i64P; decide) (by unfold i64P; decide) (by unfold i64P; decide) (by unfold i64P; decide)
  rw [e1] at H1
  have H1 := Lib.hid H1
  have e2 : fracV (validB 3 32 && validB 2 3) (3 * 2) (32 * 3) = .tuple #[.agg #[.int .i64 1, .int .i64 16], .int .i64 0] := by kernel_rfl
  have H2 := fun w => rMul_c 3 32 2 3 w (by unfold i64P; decide) (by unfold i64P; decide) (by unfold i64P; decide) (by unfold i64P; decide)
  rw [e2] at H2
  have H2 := Lib.hid H2
  clear e0 e1 e2
  go_enter Tryz.func28, Tryz.ntmps28
  go_wp2_with fail
  refine (H1.out _).mono ?_
  rintro e w1 ⟨rfl, hb1⟩; obtain ⟨hc1, hf1⟩ := bcell hb1; have hz1 := hb1.size; (try simp at hz1); have hy1 : w.heap.size < w1.heap.size := (by omega); have hy1_1 : w.heap.size + 1 < w1.heap.size := (by omega); have hB1 : Below w.heap.size w w1 := below_step (by go_grown) hb1
  have kc000 : w1.cell? ⟨w.heap.size, 0, none⟩ = some (.int .i64 0) := by rw [hc1 _ _ (by simp <;> omega)]; (try clear hc2); go_simp
  have kf000 : w1.frozen? ⟨w.heap.size, 0, none⟩ = false := by rw [hf1 _ _ (by simp <;> omega)]; (try clear hf2); go_simp
  have kc001 : w1.cell? ⟨w.heap.size, 1, none⟩ = some (.int .i64 0) := by rw [hc1 _ _ (by simp <;> omega)]; (try clear hc2); go_simp
  have kf001 : w1.frozen? ⟨w.heap.size, 1, none⟩ = false := by rw [hf1 _ _ (by simp <;> omega)]; (try clear hf2); go_simp
  have kc010 : w1.cell? ⟨w.heap.size + 1, 0, none⟩ = some (.int .i64 1) := by rw [hc1 _ _ (by simp <;> omega)]; (try clear hc2); go_simp
  have kf010 : w1.frozen? ⟨w.heap.size + 1, 0, none⟩ = false := by rw [hf1 _ _ (by simp <;> omega)]; (try clear hf2); go_simp
  have kc011 : w1.cell? ⟨w.heap.size + 1, 1, none⟩ = some (.int .i64 16) := by rw [hc1 _ _ (by simp <;> omega)]; (try clear hc2); go_simp
  have kf011 : w1.frozen? ⟨w.heap.size + 1, 1, none⟩ = false := by rw [hf1 _ _ (by simp <;> omega)]; (try clear hf2); go_simp
  clear hc1 hf1
  go_wp2_with fail
  refine (H2.out _).mono ?_
  rintro e w2 ⟨rfl, hb2⟩; obtain ⟨hc2, hf2⟩ := bcell hb2; have hz2 := hb2.size; (try simp at hz2); have hy2 : w.heap.size < w2.heap.size := (by omega); have hy2_1 : w.heap.size + 1 < w2.heap.size := (by omega); have hB2 : Below w.heap.size w w2 := below_step (by go_grown) hb2
  have kc100 : w2.cell? ⟨w.heap.size, 0, none⟩ = some (.int .i64 0) := by rw [hc2 _ _ (by simp <;> omega)]; (try clear hc2); go_simp
  have kf100 : w2.frozen? ⟨w.heap.size, 0, none⟩ = false := by rw [hf2 _ _ (by simp <;> omega)]; (try clear hf2); go_simp
  have kc101 : w2.cell? ⟨w.heap.size, 1, none⟩ = some (.int .i64 0) := by rw [hc2 _ _ (by simp <;> omega)]; (try clear hc2); go_simp
  have kf101 : w2.frozen? ⟨w.heap.size, 1, none⟩ = false := by rw [hf2 _ _ (by simp <;> omega)]; (try clear hf2); go_simp
  have kc110 : w2.cell? ⟨w.heap.size + 1, 0, none⟩ = some (.int .i64 3) := by rw [hc2 _ _ (by simp <;> omega)]; (try clear hc2); go_simp
  have kf110 : w2.frozen? ⟨w.heap.size + 1, 0, none⟩ = false := by rw [hf2 _ _ (by simp <;> omega)]; (try clear hf2); go_simp
  have kc111 : w2.cell? ⟨w.heap.size + 1, 1, none⟩ = some (.int .i64 32) := by rw [hc2 _ _ (by simp <;> omega)]; (try clear hc2); go_simp
  have kf111 : w2.frozen? ⟨w.heap.size + 1, 1, none⟩ = false := by rw [hf2 _ _ (by simp <;> omega)]; (try clear hf2); go_simp
  clear hc2 hf2
  go_wp2_with fail
  have q0 : w.heap.size < w.heap.size + 1 + 1 := by omega
  (try simp only [Exit.inBlock, Exit.then]); refine bodyPost_ret (by simp [results, Tryz.results28, go_sem, *]; try rfl) rfl ?_
  exact ⟨rfl, by go_grown⟩
theorem rLength_yes (v : Int) (dot triple : Bool) (w : World) (h : isValue v) :
    Calls Tryz.prog 28 #[.int .i64 v, .bool dot, .bool triple] w fun e w' => e = .returned (ratioV (lenN dot triple) (lenD v dot triple)) ∧ Below w.heap.size w w' := by
  rcases h with rfl | rfl | rfl | rfl | rfl <;> cases dot <;> cases triple
  · exact rLen_1_00 w
  · exact rLen_1_01 w
  · exact rLen_1_10 w
  · exact rLen_1_11 w
  · exact rLen_2_00 w
  · exact rLen_2_01 w
  · exact rLen_2_10 w
  · exact rLen_2_11 w
  · exact rLen_4_00 w
  · exact rLen_4_01 w
  · exact rLen_4_10 w
  · exact rLen_4_11 w
  · exact rLen_8_00 w
  · exact rLen_8_01 w
  · exact rLen_8_10 w
  · exact rLen_8_11 w
  · exact rLen_16_00 w
  · exact rLen_16_01 w
  · exact rLen_16_10 w
  · exact rLen_16_11 w
/-- both give the same three numbers -/
theorem Length_both (v : Int) (dot triple : Bool) : ∃ x y z : Int, (∀ w, Calls Tryz.prog 27 #[.int .i64 v, .bool dot, .bool triple] w fun e w' => e = .returned (.tuple #[.agg #[.int .i64 x, .int .i64 y], .int .i64 z]) ∧ Below w.heap.size w w') ∧
    (∀ w, Calls Tryz.prog 28 #[.int .i64 v, .bool dot, .bool triple] w fun e w' => e = .returned (.tuple #[.agg #[.int .i64 x, .int .i64 y], .int .i64 z]) ∧ Below w.heap.size w w') := by
  rcases Classical.em (isValue v) with h | h
  · exact ⟨_, _, _, fun w => Length_yes v dot triple w h, fun w => rLength_yes v dot triple w h⟩
  · exact ⟨_, _, _, fun w => Length_no v dot triple w h, fun w => rLength_no v dot triple w h⟩

theorem rBase_yes (c : Int) (w : World) (h1 : 1 ≤ c) (h2 : c ≤ 3) :
    Calls Tryz.prog 30 #[.int .i64 c] w fun e w' => e = .returned (.tuple #[.int .i64 (36 - 6 * c), .int .i64 0]) ∧ w = w' := by
  rcases (by omega : c = 1 ∨ c = 2 ∨ c = 3) with rfl | rfl | rfl
  all_goals
    go_enter Tryz.func30, Tryz.ntmps30
    go_wp2
    go_ret2
    exact ⟨rfl, rfl⟩
theorem rBase_no (c : Int) (w : World) (h : c < 1 ∨ 3 < c) :
    Calls Tryz.prog 30 #[.int .i64 c] w fun e w' => e = .returned (.tuple #[.int .i64 0, .int .i64 30]) ∧ w = w' := by
  have e1 : (c == 1) = false := beq_eq_false_iff_ne.2 (by omega)
  have e2 : (c == 2) = false := beq_eq_false_iff_ne.2 (by omega)
  have e3 : (c == 3) = false := beq_eq_false_iff_ne.2 (by omega)
  clear h
  go_enter Tryz.func30, Tryz.ntmps30
  go_wp2
  go_ret2
  exact ⟨rfl, rfl⟩
/-- both give the same two numbers -/
theorem Base_both (c : Int) : ∃ x y : Int, (∀ w, Calls Tryz.prog 29 #[.int .i64 c] w fun e w' => e = .returned (.tuple #[.int .i64 x, .int .i64 y]) ∧ w = w') ∧
    (∀ w, Calls Tryz.prog 30 #[.int .i64 c] w fun e w' => e = .returned (.tuple #[.int .i64 x, .int .i64 y]) ∧ w = w') := by
  by_cases h : 1 ≤ c ∧ c ≤ 3
  · exact ⟨_, _, fun w => Base_yes c w h.1 h.2, fun w => rBase_yes c w h.1 h.2⟩
  · exact ⟨_, _, fun w => Base_no c w (by omega), fun w => rBase_no c w (by omega)⟩
end Go.Proofs.YthfclapnkemjiaaGreatDoor
