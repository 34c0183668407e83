/-
  The walk of custoslaw05.ToneLasts. Conditions: the three arguments are of type uint8.
-/
import Derived.Test.YtkhikdiaaiddaaaDoorRLen
import Derived.Test.YtkhikdiaaiddaaaDoorAwake
import Derived.Deep.DeepCutAuto
namespace Go.Proofs.YtkhikdiaaiddaaaDoor
open Go.RowKit
set_option linter.unusedSimpArgs false
set_option linter.unusedVariables false

theorem bar_cases {p : Int → Int → Prop} {B U : Int} (h : barP B U) (hp : ∀ B ∈ ([1, 2, 3, 4, 5, 6, 7, 8, 9] : List Int), ∀ U ∈ ([2, 4, 8] : List Int), p B U) : p B U := by
  obtain ⟨h1, h2, h3⟩ := h
  refine hp B ?_ U ?_
  · simp only [List.mem_cons, List.not_mem_nil, or_false]; omega
  · simp only [List.mem_cons, List.not_mem_nil, or_false]; omega
theorem barE {B U : Int} (h : barP B U) : ratioE B U = 0 := bar_cases (p := fun B U => ratioE B U = 0) h (by decide +kernel)
theorem sum_bd (k : Nat) (U : Int) (hk : k ≤ 9) (hU : U = 2 ∨ U = 4 ∨ U = 8) : i64P (ratioN k U) ∧ i64P (ratioD k U) := by
  have h : ∀ k ∈ [0, 1, 2, 3, 4, 5, 6, 7, 8, 9], ∀ U ∈ ([2, 4, 8] : List Int), (-9223372036854775808 ≤ ratioN (k : Nat) U ∧ ratioN (k : Nat) U ≤ 9223372036854775807) ∧ (-9223372036854775808 ≤ ratioD (k : Nat) U ∧ ratioD (k : Nat) U ≤ 9223372036854775807) := by decide +kernel
  exact h k (by simp; omega) U (by simp; omega)
theorem sum_step (k : Nat) (U : Int) (hk : k ≤ 8) (hU : U = 2 ∨ U = 4 ∨ U = 8) : fracN (validB (ratioN k U) (ratioD k U) && validB 1 U) (ratioN k U * U + 1 * 1 * ratioD k U) (ratioD k U * U) = ratioN (k + 1 : Nat) U ∧
    fracD (validB (ratioN k U) (ratioD k U) && validB 1 U) (ratioN k U * U + 1 * 1 * ratioD k U) (ratioD k U * U) = ratioD (k + 1 : Nat) U ∧
    fracE (validB (ratioN k U) (ratioD k U) && validB 1 U) (ratioN k U * U + 1 * 1 * ratioD k U) (ratioD k U * U) = 0 := by
  have h : ∀ k ∈ [0, 1, 2, 3, 4, 5, 6, 7, 8], ∀ U ∈ ([2, 4, 8] : List Int), fracN (validB (ratioN (k : Nat) U) (ratioD k U) && validB 1 U) (ratioN k U * U + 1 * 1 * ratioD k U) (ratioD k U * U) = ratioN (k + 1 : Nat) U ∧
    fracD (validB (ratioN k U) (ratioD k U) && validB 1 U) (ratioN k U * U + 1 * 1 * ratioD k U) (ratioD k U * U) = ratioD (k + 1 : Nat) U ∧
    fracE (validB (ratioN k U) (ratioD k U) && validB 1 U) (ratioN k U * U + 1 * 1 * ratioD k U) (ratioD k U * U) = 0 := by decide +kernel
  exact h k (by simp; omega) U (by simp; omega)
theorem sumAdd (k : Nat) (U : Int) (w : World) (hk : k ≤ 8) (hU : U = 2 ∨ U = 4 ∨ U = 8) :
    Calls Tryd.prog 27 #[.agg #[.int .i64 (ratioN k U), .int .i64 (ratioD k U)], .agg #[.int .i64 1, .int .i64 U]] w fun e w' => e = .returned (.tuple #[.agg #[.int .i64 (ratioN (k + 1 : Nat) U), .int .i64 (ratioD (k + 1 : Nat) U)], .int .i64 0]) ∧ Below w.heap.size w w' := by
  have hb := sum_bd k U (by omega) hU
  obtain ⟨e1, e2, e3⟩ := sum_step k U hk hU
  have H := Add_c (ratioN k U) (ratioD k U) 1 U w hb.1 hb.2 (by unfold i64P; omega) (by unfold i64P; omega)
  unfold fracV at H
  rw [e1, e2, e3] at H
  exact H
theorem unitLen (U : Int) (w : World) (hU : U = 2 ∨ U = 4 ∨ U = 8) :
    Calls Tryd.prog 20 #[.int .i64 U, .bool false, .bool false] w fun e w' => e = .returned (.tuple #[.agg #[.int .i64 1, .int .i64 U], .int .i64 0]) ∧ Below w.heap.size w w' := by
  have H := Length_yes U false false w (by unfold isValue; omega)
  have e : ratioV (lenN false false) (lenD U false false) = .tuple #[.agg #[.int .i64 1, .int .i64 U], .int .i64 0] := by
    rcases hU with rfl | rfl | rfl <;> kernel_rfl
  rw [e] at H
  exact H
theorem barBar (B U : Int) (w : World) (h : barP B U) :
    Calls Tryd.prog 22 #[.agg #[.int .i64 B, .int .i64 U]] w fun e w' => e = .returned (.tuple #[.agg #[.int .i64 (ratioN B U), .int .i64 (ratioD B U)], .int .i64 0]) ∧ Below w.heap.size w w' := by
  have H := Bar_yes B U w h
  unfold ratioV at H
  rw [barE h] at H
  exact H
theorem sum_zero (U : Int) (hU : U = 2 ∨ U = 4 ∨ U = 8) : ratioN (0 : Nat) U = 0 ∧ ratioD (0 : Nat) U = 1 := by
  rcases hU with rfl | rfl | rfl <;> exact ⟨by kernel_rfl, by kernel_rfl⟩

/-- what holds between the rounds: the sum of k beats lies in block S, the unit in M, the bar in K -/
structure Beat (w : World) (M K S : Nat) (U x y : Int) (k : Nat) (wr : World) : Prop where
  s0 : wr.cell? ⟨S, 0, none⟩ = some (.int .i64 (ratioN k U))
  s1 : wr.cell? ⟨S, 1, none⟩ = some (.int .i64 (ratioD k U))
  f0 : wr.frozen? ⟨S, 0, none⟩ = false
  f1 : wr.frozen? ⟨S, 1, none⟩ = false
  m1 : wr.cell? ⟨M, 1, none⟩ = some (.int .i64 U)
  b0 : wr.cell? ⟨K, 0, none⟩ = some (.int .i64 x)
  b1 : wr.cell? ⟨K, 1, none⟩ = some (.int .i64 y)
  hS : S < wr.heap.size
  hM : M < wr.heap.size
  hK : K < wr.heap.size
  nM : M ≠ S
  nK : K ≠ S
  old : w.heap.size ≤ S
  hB : Below w.heap.size w wr

set_option maxRecDepth 100000 in
set_option maxHeartbeats 16000000 in
theorem Lasts_1 (v b u : Int) (w : World) (hv : v % 5 = 0) (kv0 : 0 ≤ v) (kv1 : v ≤ 255) (kb0 : 0 ≤ b) (kb1 : b ≤ 255) (ku0 : 0 ≤ u) (ku1 : u ≤ 255) :
    Calls Tryd.prog 5 #[.int .u8 v, .int .u8 b, .int .u8 u] w fun e w' => e = .returned (.bool true) ∧ Below w.heap.size w w' := by
  have H1 := fun w => Length_yes 1 false false w (by unfold isValue; omega)
  rw [show ratioV (lenN false false) (lenD 1 false false) = .tuple #[.agg #[.int .i64 1, .int .i64 1], .int .i64 0] by kernel_rfl] at H1
  have J1 := Lib.hid H1
  clear H1
  have H2 := fun w => Length_yes 1 true false w (by unfold isValue; omega)
  rw [show ratioV (lenN true false) (lenD 1 true false) = .tuple #[.agg #[.int .i64 3, .int .i64 2], .int .i64 0] by kernel_rfl] at H2
  have J2 := Lib.hid H2
  clear H2
  have H3 := fun w => Length_yes 1 false true w (by unfold isValue; omega)
  rw [show ratioV (lenN false true) (lenD 1 false true) = .tuple #[.agg #[.int .i64 2, .int .i64 3], .int .i64 0] by kernel_rfl] at H3
  have J3 := Lib.hid H3
  clear H3
  have H4 := fun w => Length_yes 1 true true w (by unfold isValue; omega)
  rw [show ratioV (lenN true true) (lenD 1 true true) = .tuple #[.agg #[.int .i64 1, .int .i64 1], .int .i64 0] by kernel_rfl] at H4
  have J4 := Lib.hid H4
  clear H4
  have H5 := fun w => Div_c 1 1 2 1 w (by unfold i64P; decide) (by unfold i64P; decide) (by unfold i64P; decide) (by unfold i64P; decide)
  rw [show fracV (validB 1 1 && validB 2 1) (1 * 1) (1 * 2) = .tuple #[.agg #[.int .i64 1, .int .i64 2], .int .i64 0] by kernel_rfl] at H5
  have J5 := Lib.hid H5
  clear H5
  have H6 := fun w => Add_c 1 1 1 2 w (by unfold i64P; decide) (by unfold i64P; decide) (by unfold i64P; decide) (by unfold i64P; decide)
  rw [show fracV (validB 1 1 && validB 1 2) (1 * 2 + 1 * 1 * 1) (1 * 2) = .tuple #[.agg #[.int .i64 3, .int .i64 2], .int .i64 0] by kernel_rfl] at H6
  have J6 := Lib.hid H6
  clear H6
  have H7 := fun w => Mul_c 2 3 3 1 w (by unfold i64P; decide) (by unfold i64P; decide) (by unfold i64P; decide) (by unfold i64P; decide)
  rw [show fracV (validB 2 3 && validB 3 1) (2 * 3) (3 * 1) = .tuple #[.agg #[.int .i64 2, .int .i64 1], .int .i64 0] by kernel_rfl] at H7
  have J7 := Lib.hid H7
  clear H7
  have H8 := fun w => Add_c 1 1 1 1 w (by unfold i64P; decide) (by unfold i64P; decide) (by unfold i64P; decide) (by unfold i64P; decide)
  rw [show fracV (validB 1 1 && validB 1 1) (1 * 1 + 1 * 1 * 1) (1 * 1) = .tuple #[.agg #[.int .i64 2, .int .i64 1], .int .i64 0] by kernel_rfl] at H8
  have J8 := Lib.hid H8
  clear H8
  have hq0 : 0 ≤ b % 9 := by omega
  have hq1 : b % 9 ≤ 8 := by omega
  go_enter Tryd.func5, Tryd.ntmps5
  go_wp2_with fail
  refine (J1.out _).mono ?_
  rintro e w1 ⟨rfl, hb1⟩; obtain ⟨hc1, hf1⟩ := bcell hb1; have hz1 := hb1.size; (try simp at hz1); have hB1 : Below w.heap.size w w1 := below_step (by go_grown) hb1
  go_wp2_with fail
  refine (J2.out _).mono ?_
  rintro e w2 ⟨rfl, hb2⟩; obtain ⟨hc2, hf2⟩ := bcell hb2; have hz2 := hb2.size; (try simp at hz2); have hy2 : w.heap.size < w2.heap.size := (by omega); have hB2 : Below w.heap.size w w2 := below_step (by go_grown) hb2
  have g1_2 : w1.heap.size < w2.heap.size := by omega
  go_wp2_with fail
  refine (J3.out _).mono ?_
  rintro e w3 ⟨rfl, hb3⟩; obtain ⟨hc3, hf3⟩ := bcell hb3; have hz3 := hb3.size; (try simp at hz3); have hy3 : w.heap.size < w3.heap.size := (by omega); have hB3 : Below w.heap.size w w3 := below_step (by go_grown) hb3
  have g1_3 : w1.heap.size < w3.heap.size := by omega
  have g2_3 : w2.heap.size < w3.heap.size := by omega
  go_wp2_with fail
  refine (J4.out _).mono ?_
  rintro e w4 ⟨rfl, hb4⟩; obtain ⟨hc4, hf4⟩ := bcell hb4; have hz4 := hb4.size; (try simp at hz4); have hy4 : w.heap.size < w4.heap.size := (by omega); have hB4 : Below w.heap.size w w4 := below_step (by go_grown) hb4
  have g1_4 : w1.heap.size < w4.heap.size := by omega
  have g2_4 : w2.heap.size < w4.heap.size := by omega
  have g3_4 : w3.heap.size < w4.heap.size := by omega
  go_wp2_with fail
  refine (J5.out _).mono ?_
  rintro e w5 ⟨rfl, hb5⟩; obtain ⟨hc5, hf5⟩ := bcell hb5; have hz5 := hb5.size; (try simp at hz5); have hy5 : w.heap.size < w5.heap.size := (by omega); have hB5 : Below w.heap.size w w5 := below_step (by go_grown) hb5
  have g1_5 : w1.heap.size < w5.heap.size := by omega
  have g2_5 : w2.heap.size < w5.heap.size := by omega
  have g3_5 : w3.heap.size < w5.heap.size := by omega
  have g4_5 : w4.heap.size < w5.heap.size := by omega
  go_wp2_with fail
  refine (J6.out _).mono ?_
  rintro e w6 ⟨rfl, hb6⟩; obtain ⟨hc6, hf6⟩ := bcell hb6; have hz6 := hb6.size; (try simp at hz6); have hy6 : w.heap.size < w6.heap.size := (by omega); have hB6 : Below w.heap.size w w6 := below_step (by go_grown) hb6
  have g1_6 : w1.heap.size < w6.heap.size := by omega
  have g2_6 : w2.heap.size < w6.heap.size := by omega
  have g3_6 : w3.heap.size < w6.heap.size := by omega
  have g4_6 : w4.heap.size < w6.heap.size := by omega
  have g5_6 : w5.heap.size < w6.heap.size := by omega
  go_wp2_with fail
  refine (J7.out _).mono ?_
  rintro e w7 ⟨rfl, hb7⟩; obtain ⟨hc7, hf7⟩ := bcell hb7; have hz7 := hb7.size; (try simp at hz7); have hy7 : w.heap.size < w7.heap.size := (by omega); have hB7 : Below w.heap.size w w7 := below_step (by go_grown) hb7
  have g1_7 : w1.heap.size < w7.heap.size := by omega
  have g2_7 : w2.heap.size < w7.heap.size := by omega
  have g3_7 : w3.heap.size < w7.heap.size := by omega
  have g4_7 : w4.heap.size < w7.heap.size := by omega
  have g5_7 : w5.heap.size < w7.heap.size := by omega
  have g6_7 : w6.heap.size < w7.heap.size := by omega
  go_wp2_with fail
  refine (J8.out _).mono ?_
  rintro e w8 ⟨rfl, hb8⟩; obtain ⟨hc8, hf8⟩ := bcell hb8; have hz8 := hb8.size; (try simp at hz8); have hy8 : w.heap.size < w8.heap.size := (by omega); have hB8 : Below w.heap.size w w8 := below_step (by go_grown) hb8
  have g1_8 : w1.heap.size < w8.heap.size := by omega
  have g2_8 : w2.heap.size < w8.heap.size := by omega
  have g3_8 : w3.heap.size < w8.heap.size := by omega
  have g4_8 : w4.heap.size < w8.heap.size := by omega
  have g5_8 : w5.heap.size < w8.heap.size := by omega
  have g6_8 : w6.heap.size < w8.heap.size := by omega
  have g7_8 : w7.heap.size < w8.heap.size := by omega
  rcases (by omega : u % 3 = 0 ∨ u % 3 = 1 ∨ u % 3 = 2) with hu | hu | hu
  · go_wp2_with fail
    refine (barBar _ _ _ ⟨by omega, by omega, by omega⟩).mono ?_
    rintro e wt ⟨rfl, hbt⟩; obtain ⟨hct, hft⟩ := bcell hbt; have hzt := hbt.size; (try simp at hzt); have hyt : w.heap.size < wt.heap.size := (by omega); have hBt : Below w.heap.size w wt := below_step (by go_grown) hbt
    have gm : w8.heap.size + 1 < wt.heap.size := by omega
    have gm2 : w8.heap.size + 1 < wt.heap.size + 1 := by omega
    have gm3 : ¬ w8.heap.size + 1 = wt.heap.size := by omega
    have gm4 : ¬ w8.heap.size = wt.heap.size := by omega
    have gm5 : w8.heap.size < wt.heap.size := by omega
    have HE : Hid (∀ k : Nat, (k : Int) = 1 + b % 9 → ratioN k 2 = (ratioN (1 + b % 9) 2) ∧ ratioD k 2 = (ratioD (1 + b % 9) 2)) := fun k h => by rw [h]; exact ⟨rfl, rfl⟩
    generalize (ratioN (1 + b % 9) 2) = x at *
    generalize (ratioD (1 + b % 9) 2) = y at *
    go_wp2_with fail
    go_loopw [157] (fun i wr => ∃ k : Nat, k ≤ 9 ∧ (k : Int) ≤ 1 + b % 9 ∧ i = .int .i64 k ∧ Beat w (w8.heap.size + 1) wt.heap.size (wt.heap.size + 1) 2 x y k wr) (fun i _ => 9 - (intOf i).toNat)
    case atStart => exact ⟨0, by omega, by omega, rfl, by rw [(sum_zero 2 (by omega)).1]; go_simp, by rw [(sum_zero 2 (by omega)).2]; go_simp, by go_simp, by go_simp, by go_simp, by go_simp, by go_simp, by simp, by simp; omega, by simp; omega, by omega, by omega, by omega, by go_grown⟩
    case round =>
      obtain ⟨k, hk9, hkB, rfl, hs0, hs1, hF0, hF1, hm1, hk0, hk1, hS, hM, hK, nM, nK, hold, hBr⟩ := hrel
      clear hc1 hf1 hb1 hz1 hc2 hf2 hb2 hz2 hc3 hf3 hb3 hz3 hc4 hf4 hb4 hz4 hc5 hf5 hb5 hz5 hc6 hf6 hb6 hz6 hc7 hf7 hb7 hz7 hc8 hf8 hb8 hz8
      by_cases hlt : (k : Int) < 1 + b % 9
      · have JL := Lib.hid fun w => unitLen 2 w (by omega)
        have JA := Lib.hid fun w => sumAdd k 2 w (by omega) (by omega)
        generalize ratioN ((k : Nat) : Int) 2 = p at *
        generalize ratioD ((k : Nat) : Int) 2 = q at *
        generalize hp' : ratioN ((k + 1 : Nat) : Int) 2 = p' at *
        generalize hq' : ratioD ((k + 1 : Nat) : Int) 2 = q' at *
        have HP := Lib.hid hp'
        have HQ := Lib.hid hq'
        clear hp' hq'
        go_wp2_with fail
        refine (JL.out _).mono ?_
        rintro e wa ⟨rfl, hba⟩; obtain ⟨hca, hfa⟩ := bcell hba; have hza := hba.size; (try simp at hza)
        have hSa : (wt.heap.size + 1) < wa.heap.size := by omega
        have hMa : (w8.heap.size + 1) < wa.heap.size := by omega
        have hKa : wt.heap.size < wa.heap.size := by omega
        have hMb : w8.heap.size < wa.heap.size := by omega
        have hMn : ¬ w8.heap.size + 1 = wa.heap.size := by omega
        have hBa : Below w.heap.size w wa := hBr.trans (hba.mono hBr.size)
        go_wp2_with fail
        refine (JA.out _).mono ?_
        rintro e wc ⟨rfl, hbc⟩; obtain ⟨hcc, hfc⟩ := bcell hbc; have hzc := hbc.size; (try simp at hzc)
        have hBc : Below w.heap.size w wc := below_step (by go_grown) hbc
        have hSc : (wt.heap.size + 1) < wc.heap.size := by omega
        have hMc : (w8.heap.size + 1) < wc.heap.size := by omega
        have hKc : wt.heap.size < wc.heap.size := by omega
        go_wp2_with fail
        go_roundw
        case rel => exact ⟨k + 1, by omega, by omega, by go_num, by rw [HP.out]; go_simp, by rw [HQ.out]; go_simp, by go_simp, by go_simp, by go_simp, by go_simp, by go_simp, by simp; omega, by simp; omega, by simp; omega, nM, nK, hold, by go_grown⟩
        case measure => simp [intOf]; omega
      · obtain ⟨E1, E2⟩ := HE.out k (by omega)
        rw [E1] at hs0
        rw [E2] at hs1
        go_wp2_with fail
        refine (awake_c _).mono ?_
        rintro e wz ⟨rfl, hbz⟩
        go_wp2_with fail
        go_ret
        exact ⟨rfl, hBr.trans (hbz.mono hBr.size)⟩
  · go_wp2_with fail
    refine (barBar _ _ _ ⟨by omega, by omega, by omega⟩).mono ?_
    rintro e wt ⟨rfl, hbt⟩; obtain ⟨hct, hft⟩ := bcell hbt; have hzt := hbt.size; (try simp at hzt); have hyt : w.heap.size < wt.heap.size := (by omega); have hBt : Below w.heap.size w wt := below_step (by go_grown) hbt
    have gm : w8.heap.size + 1 < wt.heap.size := by omega
    have gm2 : w8.heap.size + 1 < wt.heap.size + 1 := by omega
    have gm3 : ¬ w8.heap.size + 1 = wt.heap.size := by omega
    have gm4 : ¬ w8.heap.size = wt.heap.size := by omega
    have gm5 : w8.heap.size < wt.heap.size := by omega
    have HE : Hid (∀ k : Nat, (k : Int) = 1 + b % 9 → ratioN k 4 = (ratioN (1 + b % 9) 4) ∧ ratioD k 4 = (ratioD (1 + b % 9) 4)) := fun k h => by rw [h]; exact ⟨rfl, rfl⟩
    generalize (ratioN (1 + b % 9) 4) = x at *
    generalize (ratioD (1 + b % 9) 4) = y at *
    go_wp2_with fail
    go_loopw [157] (fun i wr => ∃ k : Nat, k ≤ 9 ∧ (k : Int) ≤ 1 + b % 9 ∧ i = .int .i64 k ∧ Beat w (w8.heap.size + 1) wt.heap.size (wt.heap.size + 1) 4 x y k wr) (fun i _ => 9 - (intOf i).toNat)
    case atStart => exact ⟨0, by omega, by omega, rfl, by rw [(sum_zero 4 (by omega)).1]; go_simp, by rw [(sum_zero 4 (by omega)).2]; go_simp, by go_simp, by go_simp, by go_simp, by go_simp, by go_simp, by simp, by simp; omega, by simp; omega, by omega, by omega, by omega, by go_grown⟩
    case round =>
      obtain ⟨k, hk9, hkB, rfl, hs0, hs1, hF0, hF1, hm1, hk0, hk1, hS, hM, hK, nM, nK, hold, hBr⟩ := hrel
      clear hc1 hf1 hb1 hz1 hc2 hf2 hb2 hz2 hc3 hf3 hb3 hz3 hc4 hf4 hb4 hz4 hc5 hf5 hb5 hz5 hc6 hf6 hb6 hz6 hc7 hf7 hb7 hz7 hc8 hf8 hb8 hz8
      by_cases hlt : (k : Int) < 1 + b % 9
      · have JL := Lib.hid fun w => unitLen 4 w (by omega)
        have JA := Lib.hid fun w => sumAdd k 4 w (by omega) (by omega)
        generalize ratioN ((k : Nat) : Int) 4 = p at *
        generalize ratioD ((k : Nat) : Int) 4 = q at *
        generalize hp' : ratioN ((k + 1 : Nat) : Int) 4 = p' at *
        generalize hq' : ratioD ((k + 1 : Nat) : Int) 4 = q' at *
        have HP := Lib.hid hp'
        have HQ := Lib.hid hq'
        clear hp' hq'
        go_wp2_with fail
        refine (JL.out _).mono ?_
        rintro e wa ⟨rfl, hba⟩; obtain ⟨hca, hfa⟩ := bcell hba; have hza := hba.size; (try simp at hza)
        have hSa : (wt.heap.size + 1) < wa.heap.size := by omega
        have hMa : (w8.heap.size + 1) < wa.heap.size := by omega
        have hKa : wt.heap.size < wa.heap.size := by omega
        have hMb : w8.heap.size < wa.heap.size := by omega
        have hMn : ¬ w8.heap.size + 1 = wa.heap.size := by omega
        have hBa : Below w.heap.size w wa := hBr.trans (hba.mono hBr.size)
        go_wp2_with fail
        refine (JA.out _).mono ?_
        rintro e wc ⟨rfl, hbc⟩; obtain ⟨hcc, hfc⟩ := bcell hbc; have hzc := hbc.size; (try simp at hzc)
        have hBc : Below w.heap.size w wc := below_step (by go_grown) hbc
        have hSc : (wt.heap.size + 1) < wc.heap.size := by omega
        have hMc : (w8.heap.size + 1) < wc.heap.size := by omega
        have hKc : wt.heap.size < wc.heap.size := by omega
        go_wp2_with fail
        go_roundw
        case rel => exact ⟨k + 1, by omega, by omega, by go_num, by rw [HP.out]; go_simp, by rw [HQ.out]; go_simp, by go_simp, by go_simp, by go_simp, by go_simp, by go_simp, by simp; omega, by simp; omega, by simp; omega, nM, nK, hold, by go_grown⟩
        case measure => simp [intOf]; omega
      · obtain ⟨E1, E2⟩ := HE.out k (by omega)
        rw [E1] at hs0
        rw [E2] at hs1
        go_wp2_with fail
        refine (awake_c _).mono ?_
        rintro e wz ⟨rfl, hbz⟩
        go_wp2_with fail
        go_ret
        exact ⟨rfl, hBr.trans (hbz.mono hBr.size)⟩
  · go_wp2_with fail
    refine (barBar _ _ _ ⟨by omega, by omega, by omega⟩).mono ?_
    rintro e wt ⟨rfl, hbt⟩; obtain ⟨hct, hft⟩ := bcell hbt; have hzt := hbt.size; (try simp at hzt); have hyt : w.heap.size < wt.heap.size := (by omega); have hBt : Below w.heap.size w wt := below_step (by go_grown) hbt
    have gm : w8.heap.size + 1 < wt.heap.size := by omega
    have gm2 : w8.heap.size + 1 < wt.heap.size + 1 := by omega
    have gm3 : ¬ w8.heap.size + 1 = wt.heap.size := by omega
    have gm4 : ¬ w8.heap.size = wt.heap.size := by omega
    have gm5 : w8.heap.size < wt.heap.size := by omega
    have HE : Hid (∀ k : Nat, (k : Int) = 1 + b % 9 → ratioN k 8 = (ratioN (1 + b % 9) 8) ∧ ratioD k 8 = (ratioD (1 + b % 9) 8)) := fun k h => by rw [h]; exact ⟨rfl, rfl⟩
    generalize (ratioN (1 + b % 9) 8) = x at *
    generalize (ratioD (1 + b % 9) 8) = y at *
    go_wp2_with fail
    go_loopw [157] (fun i wr => ∃ k : Nat, k ≤ 9 ∧ (k : Int) ≤ 1 + b % 9 ∧ i = .int .i64 k ∧ Beat w (w8.heap.size + 1) wt.heap.size (wt.heap.size + 1) 8 x y k wr) (fun i _ => 9 - (intOf i).toNat)
    case atStart => exact ⟨0, by omega, by omega, rfl, by rw [(sum_zero 8 (by omega)).1]; go_simp, by rw [(sum_zero 8 (by omega)).2]; go_simp, by go_simp, by go_simp, by go_simp, by go_simp, by go_simp, by simp, by simp; omega, by simp; omega, by omega, by omega, by omega, by go_grown⟩
    case round =>
      obtain ⟨k, hk9, hkB, rfl, hs0, hs1, hF0, hF1, hm1, hk0, hk1, hS, hM, hK, nM, nK, hold, hBr⟩ := hrel
      clear hc1 hf1 hb1 hz1 hc2 hf2 hb2 hz2 hc3 hf3 hb3 hz3 hc4 hf4 hb4 hz4 hc5 hf5 hb5 hz5 hc6 hf6 hb6 hz6 hc7 hf7 hb7 hz7 hc8 hf8 hb8 hz8
      by_cases hlt : (k : Int) < 1 + b % 9
      · have JL := Lib.hid fun w => unitLen 8 w (by omega)
        have JA := Lib.hid fun w => sumAdd k 8 w (by omega) (by omega)
        generalize ratioN ((k : Nat) : Int) 8 = p at *
        generalize ratioD ((k : Nat) : Int) 8 = q at *
        generalize hp' : ratioN ((k + 1 : Nat) : Int) 8 = p' at *
        generalize hq' : ratioD ((k + 1 : Nat) : Int) 8 = q' at *
        have HP := Lib.hid hp'
        have HQ := Lib.hid hq'
        clear hp' hq'
        go_wp2_with fail
        refine (JL.out _).mono ?_
        rintro e wa ⟨rfl, hba⟩; obtain ⟨hca, hfa⟩ := bcell hba; have hza := hba.size; (try simp at hza)
        have hSa : (wt.heap.size + 1) < wa.heap.size := by omega
        have hMa : (w8.heap.size + 1) < wa.heap.size := by omega
        have hKa : wt.heap.size < wa.heap.size := by omega
        have hMb : w8.heap.size < wa.heap.size := by omega
        have hMn : ¬ w8.heap.size + 1 = wa.heap.size := by omega
        have hBa : Below w.heap.size w wa := hBr.trans (hba.mono hBr.size)
        go_wp2_with fail
        refine (JA.out _).mono ?_
        rintro e wc ⟨rfl, hbc⟩; obtain ⟨hcc, hfc⟩ := bcell hbc; have hzc := hbc.size; (try simp at hzc)
        have hBc : Below w.heap.size w wc := below_step (by go_grown) hbc
        have hSc : (wt.heap.size + 1) < wc.heap.size := by omega
        have hMc : (w8.heap.size + 1) < wc.heap.size := by omega
        have hKc : wt.heap.size < wc.heap.size := by omega
        go_wp2_with fail
        go_roundw
        case rel => exact ⟨k + 1, by omega, by omega, by go_num, by rw [HP.out]; go_simp, by rw [HQ.out]; go_simp, by go_simp, by go_simp, by go_simp, by go_simp, by go_simp, by simp; omega, by simp; omega, by simp; omega, nM, nK, hold, by go_grown⟩
        case measure => simp [intOf]; omega
      · obtain ⟨E1, E2⟩ := HE.out k (by omega)
        rw [E1] at hs0
        rw [E2] at hs1
        go_wp2_with fail
        refine (awake_c _).mono ?_
        rintro e wz ⟨rfl, hbz⟩
        go_wp2_with fail
        go_ret
        exact ⟨rfl, hBr.trans (hbz.mono hBr.size)⟩
set_option maxRecDepth 100000 in
set_option maxHeartbeats 16000000 in
theorem Lasts_2 (v b u : Int) (w : World) (hv : v % 5 = 1) (kv0 : 0 ≤ v) (kv1 : v ≤ 255) (kb0 : 0 ≤ b) (kb1 : b ≤ 255) (ku0 : 0 ≤ u) (ku1 : u ≤ 255) :
    Calls Tryd.prog 5 #[.int .u8 v, .int .u8 b, .int .u8 u] w fun e w' => e = .returned (.bool true) ∧ Below w.heap.size w w' := by
  have H1 := fun w => Length_yes 2 false false w (by unfold isValue; omega)
  rw [show ratioV (lenN false false) (lenD 2 false false) = .tuple #[.agg #[.int .i64 1, .int .i64 2], .int .i64 0] by kernel_rfl] at H1
  have J1 := Lib.hid H1
  clear H1
  have H2 := fun w => Length_yes 2 true false w (by unfold isValue; omega)
  rw [show ratioV (lenN true false) (lenD 2 true false) = .tuple #[.agg #[.int .i64 3, .int .i64 4], .int .i64 0] by kernel_rfl] at H2
  have J2 := Lib.hid H2
  clear H2
  have H3 := fun w => Length_yes 2 false true w (by unfold isValue; omega)
  rw [show ratioV (lenN false true) (lenD 2 false true) = .tuple #[.agg #[.int .i64 1, .int .i64 3], .int .i64 0] by kernel_rfl] at H3
  have J3 := Lib.hid H3
  clear H3
  have H4 := fun w => Length_yes 2 true true w (by unfold isValue; omega)
  rw [show ratioV (lenN true true) (lenD 2 true true) = .tuple #[.agg #[.int .i64 1, .int .i64 2], .int .i64 0] by kernel_rfl] at H4
  have J4 := Lib.hid H4
  clear H4
  have H5 := fun w => Div_c 1 2 2 1 w (by unfold i64P; decide) (by unfold i64P; decide) (by unfold i64P; decide) (by unfold i64P; decide)
  rw [show fracV (validB 1 2 && validB 2 1) (1 * 1) (2 * 2) = .tuple #[.agg #[.int .i64 1, .int .i64 4], .int .i64 0] by kernel_rfl] at H5
  have J5 := Lib.hid H5
  clear H5
  have H6 := fun w => Add_c 1 2 1 4 w (by unfold i64P; decide) (by unfold i64P; decide) (by unfold i64P; decide) (by unfold i64P; decide)
  rw [show fracV (validB 1 2 && validB 1 4) (1 * 4 + 1 * 1 * 2) (2 * 4) = .tuple #[.agg #[.int .i64 3, .int .i64 4], .int .i64 0] by kernel_rfl] at H6
  have J6 := Lib.hid H6
  clear H6
  have H7 := fun w => Mul_c 1 3 3 1 w (by unfold i64P; decide) (by unfold i64P; decide) (by unfold i64P; decide) (by unfold i64P; decide)
  rw [show fracV (validB 1 3 && validB 3 1) (1 * 3) (3 * 1) = .tuple #[.agg #[.int .i64 1, .int .i64 1], .int .i64 0] by kernel_rfl] at H7
  have J7 := Lib.hid H7
  clear H7
  have H8 := fun w => Add_c 1 2 1 2 w (by unfold i64P; decide) (by unfold i64P; decide) (by unfold i64P; decide) (by unfold i64P; decide)
  rw [show fracV (validB 1 2 && validB 1 2) (1 * 2 + 1 * 1 * 2) (2 * 2) = .tuple #[.agg #[.int .i64 1, .int .i64 1], .int .i64 0] by kernel_rfl] at H8
  have J8 := Lib.hid H8
  clear H8
  have H9 := fun w => Length_yes 1 false false w (by unfold isValue; omega)
  rw [show ratioV (lenN false false) (lenD 1 false false) = .tuple #[.agg #[.int .i64 1, .int .i64 1], .int .i64 0] by kernel_rfl] at H9
  have J9 := Lib.hid H9
  clear H9
  have hq0 : 0 ≤ b % 9 := by omega
  have hq1 : b % 9 ≤ 8 := by omega
  go_enter Tryd.func5, Tryd.ntmps5
  go_wp2_with fail
  refine (J1.out _).mono ?_
  rintro e w1 ⟨rfl, hb1⟩; obtain ⟨hc1, hf1⟩ := bcell hb1; have hz1 := hb1.size; (try simp at hz1); have hB1 : Below w.heap.size w w1 := below_step (by go_grown) hb1
  go_wp2_with fail
  refine (J2.out _).mono ?_
  rintro e w2 ⟨rfl, hb2⟩; obtain ⟨hc2, hf2⟩ := bcell hb2; have hz2 := hb2.size; (try simp at hz2); have hy2 : w.heap.size < w2.heap.size := (by omega); have hB2 : Below w.heap.size w w2 := below_step (by go_grown) hb2
  have g1_2 : w1.heap.size < w2.heap.size := by omega
  go_wp2_with fail
  refine (J3.out _).mono ?_
  rintro e w3 ⟨rfl, hb3⟩; obtain ⟨hc3, hf3⟩ := bcell hb3; have hz3 := hb3.size; (try simp at hz3); have hy3 : w.heap.size < w3.heap.size := (by omega); have hB3 : Below w.heap.size w w3 := below_step (by go_grown) hb3
  have g1_3 : w1.heap.size < w3.heap.size := by omega
  have g2_3 : w2.heap.size < w3.heap.size := by omega
  go_wp2_with fail
  refine (J4.out _).mono ?_
  rintro e w4 ⟨rfl, hb4⟩; obtain ⟨hc4, hf4⟩ := bcell hb4; have hz4 := hb4.size; (try simp at hz4); have hy4 : w.heap.size < w4.heap.size := (by omega); have hB4 : Below w.heap.size w w4 := below_step (by go_grown) hb4
  have g1_4 : w1.heap.size < w4.heap.size := by omega
  have g2_4 : w2.heap.size < w4.heap.size := by omega
  have g3_4 : w3.heap.size < w4.heap.size := by omega
  go_wp2_with fail
  refine (J5.out _).mono ?_
  rintro e w5 ⟨rfl, hb5⟩; obtain ⟨hc5, hf5⟩ := bcell hb5; have hz5 := hb5.size; (try simp at hz5); have hy5 : w.heap.size < w5.heap.size := (by omega); have hB5 : Below w.heap.size w w5 := below_step (by go_grown) hb5
  have g1_5 : w1.heap.size < w5.heap.size := by omega
  have g2_5 : w2.heap.size < w5.heap.size := by omega
  have g3_5 : w3.heap.size < w5.heap.size := by omega
  have g4_5 : w4.heap.size < w5.heap.size := by omega
  go_wp2_with fail
  refine (J6.out _).mono ?_
  rintro e w6 ⟨rfl, hb6⟩; obtain ⟨hc6, hf6⟩ := bcell hb6; have hz6 := hb6.size; (try simp at hz6); have hy6 : w.heap.size < w6.heap.size := (by omega); have hB6 : Below w.heap.size w w6 := below_step (by go_grown) hb6
  have g1_6 : w1.heap.size < w6.heap.size := by omega
  have g2_6 : w2.heap.size < w6.heap.size := by omega
  have g3_6 : w3.heap.size < w6.heap.size := by omega
  have g4_6 : w4.heap.size < w6.heap.size := by omega
  have g5_6 : w5.heap.size < w6.heap.size := by omega
  go_wp2_with fail
  refine (J7.out _).mono ?_
  rintro e w7 ⟨rfl, hb7⟩; obtain ⟨hc7, hf7⟩ := bcell hb7; have hz7 := hb7.size; (try simp at hz7); have hy7 : w.heap.size < w7.heap.size := (by omega); have hB7 : Below w.heap.size w w7 := below_step (by go_grown) hb7
  have g1_7 : w1.heap.size < w7.heap.size := by omega
  have g2_7 : w2.heap.size < w7.heap.size := by omega
  have g3_7 : w3.heap.size < w7.heap.size := by omega
  have g4_7 : w4.heap.size < w7.heap.size := by omega
  have g5_7 : w5.heap.size < w7.heap.size := by omega
  have g6_7 : w6.heap.size < w7.heap.size := by omega
  go_wp2_with fail
  refine (J8.out _).mono ?_
  rintro e w8 ⟨rfl, hb8⟩; obtain ⟨hc8, hf8⟩ := bcell hb8; have hz8 := hb8.size; (try simp at hz8); have hy8 : w.heap.size < w8.heap.size := (by omega); have hB8 : Below w.heap.size w w8 := below_step (by go_grown) hb8
  have g1_8 : w1.heap.size < w8.heap.size := by omega
  have g2_8 : w2.heap.size < w8.heap.size := by omega
  have g3_8 : w3.heap.size < w8.heap.size := by omega
  have g4_8 : w4.heap.size < w8.heap.size := by omega
  have g5_8 : w5.heap.size < w8.heap.size := by omega
  have g6_8 : w6.heap.size < w8.heap.size := by omega
  have g7_8 : w7.heap.size < w8.heap.size := by omega
  go_wp2_with fail
  refine (J9.out _).mono ?_
  rintro e w9 ⟨rfl, hb9⟩; obtain ⟨hc9, hf9⟩ := bcell hb9; have hz9 := hb9.size; (try simp at hz9); have hy9 : w.heap.size < w9.heap.size := (by omega); have hB9 : Below w.heap.size w w9 := below_step (by go_grown) hb9
  have g1_9 : w1.heap.size < w9.heap.size := by omega
  have g2_9 : w2.heap.size < w9.heap.size := by omega
  have g3_9 : w3.heap.size < w9.heap.size := by omega
  have g4_9 : w4.heap.size < w9.heap.size := by omega
  have g5_9 : w5.heap.size < w9.heap.size := by omega
  have g6_9 : w6.heap.size < w9.heap.size := by omega
  have g7_9 : w7.heap.size < w9.heap.size := by omega
  have g8_9 : w8.heap.size < w9.heap.size := by omega
  rcases (by omega : u % 3 = 0 ∨ u % 3 = 1 ∨ u % 3 = 2) with hu | hu | hu
  · go_wp2_with fail
    refine (barBar _ _ _ ⟨by omega, by omega, by omega⟩).mono ?_
    rintro e wt ⟨rfl, hbt⟩; obtain ⟨hct, hft⟩ := bcell hbt; have hzt := hbt.size; (try simp at hzt); have hyt : w.heap.size < wt.heap.size := (by omega); have hBt : Below w.heap.size w wt := below_step (by go_grown) hbt
    have gm : w9.heap.size + 1 < wt.heap.size := by omega
    have gm2 : w9.heap.size + 1 < wt.heap.size + 1 := by omega
    have gm3 : ¬ w9.heap.size + 1 = wt.heap.size := by omega
    have gm4 : ¬ w9.heap.size = wt.heap.size := by omega
    have gm5 : w9.heap.size < wt.heap.size := by omega
    have HE : Hid (∀ k : Nat, (k : Int) = 1 + b % 9 → ratioN k 2 = (ratioN (1 + b % 9) 2) ∧ ratioD k 2 = (ratioD (1 + b % 9) 2)) := fun k h => by rw [h]; exact ⟨rfl, rfl⟩
    generalize (ratioN (1 + b % 9) 2) = x at *
    generalize (ratioD (1 + b % 9) 2) = y at *
    go_wp2_with fail
    go_loopw [157] (fun i wr => ∃ k : Nat, k ≤ 9 ∧ (k : Int) ≤ 1 + b % 9 ∧ i = .int .i64 k ∧ Beat w (w9.heap.size + 1) wt.heap.size (wt.heap.size + 1) 2 x y k wr) (fun i _ => 9 - (intOf i).toNat)
    case atStart => exact ⟨0, by omega, by omega, rfl, by rw [(sum_zero 2 (by omega)).1]; go_simp, by rw [(sum_zero 2 (by omega)).2]; go_simp, by go_simp, by go_simp, by go_simp, by go_simp, by go_simp, by simp, by simp; omega, by simp; omega, by omega, by omega, by omega, by go_grown⟩
    case round =>
      obtain ⟨k, hk9, hkB, rfl, hs0, hs1, hF0, hF1, hm1, hk0, hk1, hS, hM, hK, nM, nK, hold, hBr⟩ := hrel
      clear hc1 hf1 hb1 hz1 hc2 hf2 hb2 hz2 hc3 hf3 hb3 hz3 hc4 hf4 hb4 hz4 hc5 hf5 hb5 hz5 hc6 hf6 hb6 hz6 hc7 hf7 hb7 hz7 hc8 hf8 hb8 hz8 hc9 hf9 hb9 hz9
      by_cases hlt : (k : Int) < 1 + b % 9
      · have JL := Lib.hid fun w => unitLen 2 w (by omega)
        have JA := Lib.hid fun w => sumAdd k 2 w (by omega) (by omega)
        generalize ratioN ((k : Nat) : Int) 2 = p at *
        generalize ratioD ((k : Nat) : Int) 2 = q at *
        generalize hp' : ratioN ((k + 1 : Nat) : Int) 2 = p' at *
        generalize hq' : ratioD ((k + 1 : Nat) : Int) 2 = q' at *
        have HP := Lib.hid hp'
        have HQ := Lib.hid hq'
        clear hp' hq'
        go_wp2_with fail
        refine (JL.out _).mono ?_
        rintro e wa ⟨rfl, hba⟩; obtain ⟨hca, hfa⟩ := bcell hba; have hza := hba.size; (try simp at hza)
        have hSa : (wt.heap.size + 1) < wa.heap.size := by omega
        have hMa : (w9.heap.size + 1) < wa.heap.size := by omega
        have hKa : wt.heap.size < wa.heap.size := by omega
        have hMb : w9.heap.size < wa.heap.size := by omega
        have hMn : ¬ w9.heap.size + 1 = wa.heap.size := by omega
        have hBa : Below w.heap.size w wa := hBr.trans (hba.mono hBr.size)
        go_wp2_with fail
        refine (JA.out _).mono ?_
        rintro e wc ⟨rfl, hbc⟩; obtain ⟨hcc, hfc⟩ := bcell hbc; have hzc := hbc.size; (try simp at hzc)
        have hBc : Below w.heap.size w wc := below_step (by go_grown) hbc
        have hSc : (wt.heap.size + 1) < wc.heap.size := by omega
        have hMc : (w9.heap.size + 1) < wc.heap.size := by omega
        have hKc : wt.heap.size < wc.heap.size := by omega
        go_wp2_with fail
        go_roundw
        case rel => exact ⟨k + 1, by omega, by omega, by go_num, by rw [HP.out]; go_simp, by rw [HQ.out]; go_simp, by go_simp, by go_simp, by go_simp, by go_simp, by go_simp, by simp; omega, by simp; omega, by simp; omega, nM, nK, hold, by go_grown⟩
        case measure => simp [intOf]; omega
      · obtain ⟨E1, E2⟩ := HE.out k (by omega)
        rw [E1] at hs0
        rw [E2] at hs1
        go_wp2_with fail
        refine (awake_c _).mono ?_
        rintro e wz ⟨rfl, hbz⟩
        go_wp2_with fail
        go_ret
        exact ⟨rfl, hBr.trans (hbz.mono hBr.size)⟩
  · go_wp2_with fail
    refine (barBar _ _ _ ⟨by omega, by omega, by omega⟩).mono ?_
    rintro e wt ⟨rfl, hbt⟩; obtain ⟨hct, hft⟩ := bcell hbt; have hzt := hbt.size; (try simp at hzt); have hyt : w.heap.size < wt.heap.size := (by omega); have hBt : Below w.heap.size w wt := below_step (by go_grown) hbt
    have gm : w9.heap.size + 1 < wt.heap.size := by omega
    have gm2 : w9.heap.size + 1 < wt.heap.size + 1 := by omega
    have gm3 : ¬ w9.heap.size + 1 = wt.heap.size := by omega
    have gm4 : ¬ w9.heap.size = wt.heap.size := by omega
    have gm5 : w9.heap.size < wt.heap.size := by omega
    have HE : Hid (∀ k : Nat, (k : Int) = 1 + b % 9 → ratioN k 4 = (ratioN (1 + b % 9) 4) ∧ ratioD k 4 = (ratioD (1 + b % 9) 4)) := fun k h => by rw [h]; exact ⟨rfl, rfl⟩
    generalize (ratioN (1 + b % 9) 4) = x at *
    generalize (ratioD (1 + b % 9) 4) = y at *
    go_wp2_with fail
    go_loopw [157] (fun i wr => ∃ k : Nat, k ≤ 9 ∧ (k : Int) ≤ 1 + b % 9 ∧ i = .int .i64 k ∧ Beat w (w9.heap.size + 1) wt.heap.size (wt.heap.size + 1) 4 x y k wr) (fun i _ => 9 - (intOf i).toNat)
    case atStart => exact ⟨0, by omega, by omega, rfl, by rw [(sum_zero 4 (by omega)).1]; go_simp, by rw [(sum_zero 4 (by omega)).2]; go_simp, by go_simp, by go_simp, by go_simp, by go_simp, by go_simp, by simp, by simp; omega, by simp; omega, by omega, by omega, by omega, by go_grown⟩
    case round =>
      obtain ⟨k, hk9, hkB, rfl, hs0, hs1, hF0, hF1, hm1, hk0, hk1, hS, hM, hK, nM, nK, hold, hBr⟩ := hrel
      clear hc1 hf1 hb1 hz1 hc2 hf2 hb2 hz2 hc3 hf3 hb3 hz3 hc4 hf4 hb4 hz4 hc5 hf5 hb5 hz5 hc6 hf6 hb6 hz6 hc7 hf7 hb7 hz7 hc8 hf8 hb8 hz8 hc9 hf9 hb9 hz9
      by_cases hlt : (k : Int) < 1 + b % 9
      · have JL := Lib.hid fun w => unitLen 4 w (by omega)
        have JA := Lib.hid fun w => sumAdd k 4 w (by omega) (by omega)
        generalize ratioN ((k : Nat) : Int) 4 = p at *
        generalize ratioD ((k : Nat) : Int) 4 = q at *
        generalize hp' : ratioN ((k + 1 : Nat) : Int) 4 = p' at *
        generalize hq' : ratioD ((k + 1 : Nat) : Int) 4 = q' at *
        have HP := Lib.hid hp'
        have HQ := Lib.hid hq'
        clear hp' hq'
        go_wp2_with fail
        refine (JL.out _).mono ?_
        rintro e wa ⟨rfl, hba⟩; obtain ⟨hca, hfa⟩ := bcell hba; have hza := hba.size; (try simp at hza)
        have hSa : (wt.heap.size + 1) < wa.heap.size := by omega
        have hMa : (w9.heap.size + 1) < wa.heap.size := by omega
        have hKa : wt.heap.size < wa.heap.size := by omega
        have hMb : w9.heap.size < wa.heap.size := by omega
        have hMn : ¬ w9.heap.size + 1 = wa.heap.size := by omega
        have hBa : Below w.heap.size w wa := hBr.trans (hba.mono hBr.size)
        go_wp2_with fail
        refine (JA.out _).mono ?_
        rintro e wc ⟨rfl, hbc⟩; obtain ⟨hcc, hfc⟩ := bcell hbc; have hzc := hbc.size; (try simp at hzc)
        have hBc : Below w.heap.size w wc := below_step (by go_grown) hbc
        have hSc : (wt.heap.size + 1) < wc.heap.size := by omega
        have hMc : (w9.heap.size + 1) < wc.heap.size := by omega
        have hKc : wt.heap.size < wc.heap.size := by omega
        go_wp2_with fail
        go_roundw
        case rel => exact ⟨k + 1, by omega, by omega, by go_num, by rw [HP.out]; go_simp, by rw [HQ.out]; go_simp, by go_simp, by go_simp, by go_simp, by go_simp, by go_simp, by simp; omega, by simp; omega, by simp; omega, nM, nK, hold, by go_grown⟩
        case measure => simp [intOf]; omega
      · obtain ⟨E1, E2⟩ := HE.out k (by omega)
        rw [E1] at hs0
        rw [E2] at hs1
        go_wp2_with fail
        refine (awake_c _).mono ?_
        rintro e wz ⟨rfl, hbz⟩
        go_wp2_with fail
        go_ret
        exact ⟨rfl, hBr.trans (hbz.mono hBr.size)⟩
  · go_wp2_with fail
    refine (barBar _ _ _ ⟨by omega, by omega, by omega⟩).mono ?_
    rintro e wt ⟨rfl, hbt⟩; obtain ⟨hct, hft⟩ := bcell hbt; have hzt := hbt.size; (try simp at hzt); have hyt : w.heap.size < wt.heap.size := (by omega); have hBt : Below w.heap.size w wt := below_step (by go_grown) hbt
    have gm : w9.heap.size + 1 < wt.heap.size := by omega
    have gm2 : w9.heap.size + 1 < wt.heap.size + 1 := by omega
    have gm3 : ¬ w9.heap.size + 1 = wt.heap.size := by omega
    have gm4 : ¬ w9.heap.size = wt.heap.size := by omega
    have gm5 : w9.heap.size < wt.heap.size := by omega
    have HE : Hid (∀ k : Nat, (k : Int) = 1 + b % 9 → ratioN k 8 = (ratioN (1 + b % 9) 8) ∧ ratioD k 8 = (ratioD (1 + b % 9) 8)) := fun k h => by rw [h]; exact ⟨rfl, rfl⟩
    generalize (ratioN (1 + b % 9) 8) = x at *
    generalize (ratioD (1 + b % 9) 8) = y at *
    go_wp2_with fail
    go_loopw [157] (fun i wr => ∃ k : Nat, k ≤ 9 ∧ (k : Int) ≤ 1 + b % 9 ∧ i = .int .i64 k ∧ Beat w (w9.heap.size + 1) wt.heap.size (wt.heap.size + 1) 8 x y k wr) (fun i _ => 9 - (intOf i).toNat)
    case atStart => exact ⟨0, by omega, by omega, rfl, by rw [(sum_zero 8 (by omega)).1]; go_simp, by rw [(sum_zero 8 (by omega)).2]; go_simp, by go_simp, by go_simp, by go_simp, by go_simp, by go_simp, by simp, by simp; omega, by simp; omega, by omega, by omega, by omega, by go_grown⟩
    case round =>
      obtain ⟨k, hk9, hkB, rfl, hs0, hs1, hF0, hF1, hm1, hk0, hk1, hS, hM, hK, nM, nK, hold, hBr⟩ := hrel
      clear hc1 hf1 hb1 hz1 hc2 hf2 hb2 hz2 hc3 hf3 hb3 hz3 hc4 hf4 hb4 hz4 hc5 hf5 hb5 hz5 hc6 hf6 hb6 hz6 hc7 hf7 hb7 hz7 hc8 hf8 hb8 hz8 hc9 hf9 hb9 hz9
      by_cases hlt : (k : Int) < 1 + b % 9
      · have JL := Lib.hid fun w => unitLen 8 w (by omega)
        have JA := Lib.hid fun w => sumAdd k 8 w (by omega) (by omega)
        generalize ratioN ((k : Nat) : Int) 8 = p at *
        generalize ratioD ((k : Nat) : Int) 8 = q at *
        generalize hp' : ratioN ((k + 1 : Nat) : Int) 8 = p' at *
        generalize hq' : ratioD ((k + 1 : Nat) : Int) 8 = q' at *
        have HP := Lib.hid hp'
        have HQ := Lib.hid hq'
        clear hp' hq'
        go_wp2_with fail
        refine (JL.out _).mono ?_
        rintro e wa ⟨rfl, hba⟩; obtain ⟨hca, hfa⟩ := bcell hba; have hza := hba.size; (try simp at hza)
        have hSa : (wt.heap.size + 1) < wa.heap.size := by omega
        have hMa : (w9.heap.size + 1) < wa.heap.size := by omega
        have hKa : wt.heap.size < wa.heap.size := by omega
        have hMb : w9.heap.size < wa.heap.size := by omega
        have hMn : ¬ w9.heap.size + 1 = wa.heap.size := by omega
        have hBa : Below w.heap.size w wa := hBr.trans (hba.mono hBr.size)
        go_wp2_with fail
        refine (JA.out _).mono ?_
        rintro e wc ⟨rfl, hbc⟩; obtain ⟨hcc, hfc⟩ := bcell hbc; have hzc := hbc.size; (try simp at hzc)
        have hBc : Below w.heap.size w wc := below_step (by go_grown) hbc
        have hSc : (wt.heap.size + 1) < wc.heap.size := by omega
        have hMc : (w9.heap.size + 1) < wc.heap.size := by omega
        have hKc : wt.heap.size < wc.heap.size := by omega
        go_wp2_with fail
        go_roundw
        case rel => exact ⟨k + 1, by omega, by omega, by go_num, by rw [HP.out]; go_simp, by rw [HQ.out]; go_simp, by go_simp, by go_simp, by go_simp, by go_simp, by go_simp, by simp; omega, by simp; omega, by simp; omega, nM, nK, hold, by go_grown⟩
        case measure => simp [intOf]; omega
      · obtain ⟨E1, E2⟩ := HE.out k (by omega)
        rw [E1] at hs0
        rw [E2] at hs1
        go_wp2_with fail
        refine (awake_c _).mono ?_
        rintro e wz ⟨rfl, hbz⟩
        go_wp2_with fail
        go_ret
        exact ⟨rfl, hBr.trans (hbz.mono hBr.size)⟩
set_option maxRecDepth 100000 in
set_option maxHeartbeats 16000000 in
theorem Lasts_4 (v b u : Int) (w : World) (hv : v % 5 = 2) (kv0 : 0 ≤ v) (kv1 : v ≤ 255) (kb0 : 0 ≤ b) (kb1 : b ≤ 255) (ku0 : 0 ≤ u) (ku1 : u ≤ 255) :
    Calls Tryd.prog 5 #[.int .u8 v, .int .u8 b, .int .u8 u] w fun e w' => e = .returned (.bool true) ∧ Below w.heap.size w w' := by
  have H1 := fun w => Length_yes 4 false false w (by unfold isValue; omega)
  rw [show ratioV (lenN false false) (lenD 4 false false) = .tuple #[.agg #[.int .i64 1, .int .i64 4], .int .i64 0] by kernel_rfl] at H1
  have J1 := Lib.hid H1
  clear H1
  have H2 := fun w => Length_yes 4 true false w (by unfold isValue; omega)
  rw [show ratioV (lenN true false) (lenD 4 true false) = .tuple #[.agg #[.int .i64 3, .int .i64 8], .int .i64 0] by kernel_rfl] at H2
  have J2 := Lib.hid H2
  clear H2
  have H3 := fun w => Length_yes 4 false true w (by unfold isValue; omega)
  rw [show ratioV (lenN false true) (lenD 4 false true) = .tuple #[.agg #[.int .i64 1, .int .i64 6], .int .i64 0] by kernel_rfl] at H3
  have J3 := Lib.hid H3
  clear H3
  have H4 := fun w => Length_yes 4 true true w (by unfold isValue; omega)
  rw [show ratioV (lenN true true) (lenD 4 true true) = .tuple #[.agg #[.int .i64 1, .int .i64 4], .int .i64 0] by kernel_rfl] at H4
  have J4 := Lib.hid H4
  clear H4
  have H5 := fun w => Div_c 1 4 2 1 w (by unfold i64P; decide) (by unfold i64P; decide) (by unfold i64P; decide) (by unfold i64P; decide)
  rw [show fracV (validB 1 4 && validB 2 1) (1 * 1) (4 * 2) = .tuple #[.agg #[.int .i64 1, .int .i64 8], .int .i64 0] by kernel_rfl] at H5
  have J5 := Lib.hid H5
  clear H5
  have H6 := fun w => Add_c 1 4 1 8 w (by unfold i64P; decide) (by unfold i64P; decide) (by unfold i64P; decide) (by unfold i64P; decide)
  rw [show fracV (validB 1 4 && validB 1 8) (1 * 8 + 1 * 1 * 4) (4 * 8) = .tuple #[.agg #[.int .i64 3, .int .i64 8], .int .i64 0] by kernel_rfl] at H6
  have J6 := Lib.hid H6
  clear H6
  have H7 := fun w => Mul_c 1 6 3 1 w (by unfold i64P; decide) (by unfold i64P; decide) (by unfold i64P; decide) (by unfold i64P; decide)
  rw [show fracV (validB 1 6 && validB 3 1) (1 * 3) (6 * 1) = .tuple #[.agg #[.int .i64 1, .int .i64 2], .int .i64 0] by kernel_rfl] at H7
  have J7 := Lib.hid H7
  clear H7
  have H8 := fun w => Add_c 1 4 1 4 w (by unfold i64P; decide) (by unfold i64P; decide) (by unfold i64P; decide) (by unfold i64P; decide)
  rw [show fracV (validB 1 4 && validB 1 4) (1 * 4 + 1 * 1 * 4) (4 * 4) = .tuple #[.agg #[.int .i64 1, .int .i64 2], .int .i64 0] by kernel_rfl] at H8
  have J8 := Lib.hid H8
  clear H8
  have H9 := fun w => Length_yes 2 false false w (by unfold isValue; omega)
  rw [show ratioV (lenN false false) (lenD 2 false false) = .tuple #[.agg #[.int .i64 1, .int .i64 2], .int .i64 0] by kernel_rfl] at H9
  have J9 := Lib.hid H9
  clear H9
  have hq0 : 0 ≤ b % 9 := by omega
  have hq1 : b % 9 ≤ 8 := by omega
  go_enter Tryd.func5, Tryd.ntmps5
  go_wp2_with fail
  refine (J1.out _).mono ?_
  rintro e w1 ⟨rfl, hb1⟩; obtain ⟨hc1, hf1⟩ := bcell hb1; have hz1 := hb1.size; (try simp at hz1); have hB1 : Below w.heap.size w w1 := below_step (by go_grown) hb1
  go_wp2_with fail
  refine (J2.out _).mono ?_
  rintro e w2 ⟨rfl, hb2⟩; obtain ⟨hc2, hf2⟩ := bcell hb2; have hz2 := hb2.size; (try simp at hz2); have hy2 : w.heap.size < w2.heap.size := (by omega); have hB2 : Below w.heap.size w w2 := below_step (by go_grown) hb2
  have g1_2 : w1.heap.size < w2.heap.size := by omega
  go_wp2_with fail
  refine (J3.out _).mono ?_
  rintro e w3 ⟨rfl, hb3⟩; obtain ⟨hc3, hf3⟩ := bcell hb3; have hz3 := hb3.size; (try simp at hz3); have hy3 : w.heap.size < w3.heap.size := (by omega); have hB3 : Below w.heap.size w w3 := below_step (by go_grown) hb3
  have g1_3 : w1.heap.size < w3.heap.size := by omega
  have g2_3 : w2.heap.size < w3.heap.size := by omega
  go_wp2_with fail
  refine (J4.out _).mono ?_
  rintro e w4 ⟨rfl, hb4⟩; obtain ⟨hc4, hf4⟩ := bcell hb4; have hz4 := hb4.size; (try simp at hz4); have hy4 : w.heap.size < w4.heap.size := (by omega); have hB4 : Below w.heap.size w w4 := below_step (by go_grown) hb4
  have g1_4 : w1.heap.size < w4.heap.size := by omega
  have g2_4 : w2.heap.size < w4.heap.size := by omega
  have g3_4 : w3.heap.size < w4.heap.size := by omega
  go_wp2_with fail
  refine (J5.out _).mono ?_
  rintro e w5 ⟨rfl, hb5⟩; obtain ⟨hc5, hf5⟩ := bcell hb5; have hz5 := hb5.size; (try simp at hz5); have hy5 : w.heap.size < w5.heap.size := (by omega); have hB5 : Below w.heap.size w w5 := below_step (by go_grown) hb5
  have g1_5 : w1.heap.size < w5.heap.size := by omega
  have g2_5 : w2.heap.size < w5.heap.size := by omega
  have g3_5 : w3.heap.size < w5.heap.size := by omega
  have g4_5 : w4.heap.size < w5.heap.size := by omega
  go_wp2_with fail
  refine (J6.out _).mono ?_
  rintro e w6 ⟨rfl, hb6⟩; obtain ⟨hc6, hf6⟩ := bcell hb6; have hz6 := hb6.size; (try simp at hz6); have hy6 : w.heap.size < w6.heap.size := (by omega); have hB6 : Below w.heap.size w w6 := below_step (by go_grown) hb6
  have g1_6 : w1.heap.size < w6.heap.size := by omega
  have g2_6 : w2.heap.size < w6.heap.size := by omega
  have g3_6 : w3.heap.size < w6.heap.size := by omega
  have g4_6 : w4.heap.size < w6.heap.size := by omega
  have g5_6 : w5.heap.size < w6.heap.size := by omega
  go_wp2_with fail
  refine (J7.out _).mono ?_
  rintro e w7 ⟨rfl, hb7⟩; obtain ⟨hc7, hf7⟩ := bcell hb7; have hz7 := hb7.size; (try simp at hz7); have hy7 : w.heap.size < w7.heap.size := (by omega); have hB7 : Below w.heap.size w w7 := below_step (by go_grown) hb7
  have g1_7 : w1.heap.size < w7.heap.size := by omega
  have g2_7 : w2.heap.size < w7.heap.size := by omega
  have g3_7 : w3.heap.size < w7.heap.size := by omega
  have g4_7 : w4.heap.size < w7.heap.size := by omega
  have g5_7 : w5.heap.size < w7.heap.size := by omega
  have g6_7 : w6.heap.size < w7.heap.size := by omega
  go_wp2_with fail
  refine (J8.out _).mono ?_
  rintro e w8 ⟨rfl, hb8⟩; obtain ⟨hc8, hf8⟩ := bcell hb8; have hz8 := hb8.size; (try simp at hz8); have hy8 : w.heap.size < w8.heap.size := (by omega); have hB8 : Below w.heap.size w w8 := below_step (by go_grown) hb8
  have g1_8 : w1.heap.size < w8.heap.size := by omega
  have g2_8 : w2.heap.size < w8.heap.size := by omega
  have g3_8 : w3.heap.size < w8.heap.size := by omega
  have g4_8 : w4.heap.size < w8.heap.size := by omega
  have g5_8 : w5.heap.size < w8.heap.size := by omega
  have g6_8 : w6.heap.size < w8.heap.size := by omega
  have g7_8 : w7.heap.size < w8.heap.size := by omega
  go_wp2_with fail
  refine (J9.out _).mono ?_
  rintro e w9 ⟨rfl, hb9⟩; obtain ⟨hc9, hf9⟩ := bcell hb9; have hz9 := hb9.size; (try simp at hz9); have hy9 : w.heap.size < w9.heap.size := (by omega); have hB9 : Below w.heap.size w w9 := below_step (by go_grown) hb9
  have g1_9 : w1.heap.size < w9.heap.size := by omega
  have g2_9 : w2.heap.size < w9.heap.size := by omega
  have g3_9 : w3.heap.size < w9.heap.size := by omega
  have g4_9 : w4.heap.size < w9.heap.size := by omega
  have g5_9 : w5.heap.size < w9.heap.size := by omega
  have g6_9 : w6.heap.size < w9.heap.size := by omega
  have g7_9 : w7.heap.size < w9.heap.size := by omega
  have g8_9 : w8.heap.size < w9.heap.size := by omega
  rcases (by omega : u % 3 = 0 ∨ u % 3 = 1 ∨ u % 3 = 2) with hu | hu | hu
  · go_wp2_with fail
    refine (barBar _ _ _ ⟨by omega, by omega, by omega⟩).mono ?_
    rintro e wt ⟨rfl, hbt⟩; obtain ⟨hct, hft⟩ := bcell hbt; have hzt := hbt.size; (try simp at hzt); have hyt : w.heap.size < wt.heap.size := (by omega); have hBt : Below w.heap.size w wt := below_step (by go_grown) hbt
    have gm : w9.heap.size + 1 < wt.heap.size := by omega
    have gm2 : w9.heap.size + 1 < wt.heap.size + 1 := by omega
    have gm3 : ¬ w9.heap.size + 1 = wt.heap.size := by omega
    have gm4 : ¬ w9.heap.size = wt.heap.size := by omega
    have gm5 : w9.heap.size < wt.heap.size := by omega
    have HE : Hid (∀ k : Nat, (k : Int) = 1 + b % 9 → ratioN k 2 = (ratioN (1 + b % 9) 2) ∧ ratioD k 2 = (ratioD (1 + b % 9) 2)) := fun k h => by rw [h]; exact ⟨rfl, rfl⟩
    generalize (ratioN (1 + b % 9) 2) = x at *
    generalize (ratioD (1 + b % 9) 2) = y at *
    go_wp2_with fail
    go_loopw [157] (fun i wr => ∃ k : Nat, k ≤ 9 ∧ (k : Int) ≤ 1 + b % 9 ∧ i = .int .i64 k ∧ Beat w (w9.heap.size + 1) wt.heap.size (wt.heap.size + 1) 2 x y k wr) (fun i _ => 9 - (intOf i).toNat)
    case atStart => exact ⟨0, by omega, by omega, rfl, by rw [(sum_zero 2 (by omega)).1]; go_simp, by rw [(sum_zero 2 (by omega)).2]; go_simp, by go_simp, by go_simp, by go_simp, by go_simp, by go_simp, by simp, by simp; omega, by simp; omega, by omega, by omega, by omega, by go_grown⟩
    case round =>
      obtain ⟨k, hk9, hkB, rfl, hs0, hs1, hF0, hF1, hm1, hk0, hk1, hS, hM, hK, nM, nK, hold, hBr⟩ := hrel
      clear hc1 hf1 hb1 hz1 hc2 hf2 hb2 hz2 hc3 hf3 hb3 hz3 hc4 hf4 hb4 hz4 hc5 hf5 hb5 hz5 hc6 hf6 hb6 hz6 hc7 hf7 hb7 hz7 hc8 hf8 hb8 hz8 hc9 hf9 hb9 hz9
      by_cases hlt : (k : Int) < 1 + b % 9
      · have JL := Lib.hid fun w => unitLen 2 w (by omega)
        have JA := Lib.hid fun w => sumAdd k 2 w (by omega) (by omega)
        generalize ratioN ((k : Nat) : Int) 2 = p at *
        generalize ratioD ((k : Nat) : Int) 2 = q at *
        generalize hp' : ratioN ((k + 1 : Nat) : Int) 2 = p' at *
        generalize hq' : ratioD ((k + 1 : Nat) : Int) 2 = q' at *
        have HP := Lib.hid hp'
        have HQ := Lib.hid hq'
        clear hp' hq'
        go_wp2_with fail
        refine (JL.out _).mono ?_
        rintro e wa ⟨rfl, hba⟩; obtain ⟨hca, hfa⟩ := bcell hba; have hza := hba.size; (try simp at hza)
        have hSa : (wt.heap.size + 1) < wa.heap.size := by omega
        have hMa : (w9.heap.size + 1) < wa.heap.size := by omega
        have hKa : wt.heap.size < wa.heap.size := by omega
        have hMb : w9.heap.size < wa.heap.size := by omega
        have hMn : ¬ w9.heap.size + 1 = wa.heap.size := by omega
        have hBa : Below w.heap.size w wa := hBr.trans (hba.mono hBr.size)
        go_wp2_with fail
        refine (JA.out _).mono ?_
        rintro e wc ⟨rfl, hbc⟩; obtain ⟨hcc, hfc⟩ := bcell hbc; have hzc := hbc.size; (try simp at hzc)
        have hBc : Below w.heap.size w wc := below_step (by go_grown) hbc
        have hSc : (wt.heap.size + 1) < wc.heap.size := by omega
        have hMc : (w9.heap.size + 1) < wc.heap.size := by omega
        have hKc : wt.heap.size < wc.heap.size := by omega
        go_wp2_with fail
        go_roundw
        case rel => exact ⟨k + 1, by omega, by omega, by go_num, by rw [HP.out]; go_simp, by rw [HQ.out]; go_simp, by go_simp, by go_simp, by go_simp, by go_simp, by go_simp, by simp; omega, by simp; omega, by simp; omega, nM, nK, hold, by go_grown⟩
        case measure => simp [intOf]; omega
      · obtain ⟨E1, E2⟩ := HE.out k (by omega)
        rw [E1] at hs0
        rw [E2] at hs1
        go_wp2_with fail
        refine (awake_c _).mono ?_
        rintro e wz ⟨rfl, hbz⟩
        go_wp2_with fail
        go_ret
        exact ⟨rfl, hBr.trans (hbz.mono hBr.size)⟩
  · go_wp2_with fail
    refine (barBar _ _ _ ⟨by omega, by omega, by omega⟩).mono ?_
    rintro e wt ⟨rfl, hbt⟩; obtain ⟨hct, hft⟩ := bcell hbt; have hzt := hbt.size; (try simp at hzt); have hyt : w.heap.size < wt.heap.size := (by omega); have hBt : Below w.heap.size w wt := below_step (by go_grown) hbt
    have gm : w9.heap.size + 1 < wt.heap.size := by omega
    have gm2 : w9.heap.size + 1 < wt.heap.size + 1 := by omega
    have gm3 : ¬ w9.heap.size + 1 = wt.heap.size := by omega
    have gm4 : ¬ w9.heap.size = wt.heap.size := by omega
    have gm5 : w9.heap.size < wt.heap.size := by omega
    have HE : Hid (∀ k : Nat, (k : Int) = 1 + b % 9 → ratioN k 4 = (ratioN (1 + b % 9) 4) ∧ ratioD k 4 = (ratioD (1 + b % 9) 4)) := fun k h => by rw [h]; exact ⟨rfl, rfl⟩
    generalize (ratioN (1 + b % 9) 4) = x at *
    generalize (ratioD (1 + b % 9) 4) = y at *
    go_wp2_with fail
    go_loopw [157] (fun i wr => ∃ k : Nat, k ≤ 9 ∧ (k : Int) ≤ 1 + b % 9 ∧ i = .int .i64 k ∧ Beat w (w9.heap.size + 1) wt.heap.size (wt.heap.size + 1) 4 x y k wr) (fun i _ => 9 - (intOf i).toNat)
    case atStart => exact ⟨0, by omega, by omega, rfl, by rw [(sum_zero 4 (by omega)).1]; go_simp, by rw [(sum_zero 4 (by omega)).2]; go_simp, by go_simp, by go_simp, by go_simp, by go_simp, by go_simp, by simp, by simp; omega, by simp; omega, by omega, by omega, by omega, by go_grown⟩
    case round =>
      obtain ⟨k, hk9, hkB, rfl, hs0, hs1, hF0, hF1, hm1, hk0, hk1, hS, hM, hK, nM, nK, hold, hBr⟩ := hrel
      clear hc1 hf1 hb1 hz1 hc2 hf2 hb2 hz2 hc3 hf3 hb3 hz3 hc4 hf4 hb4 hz4 hc5 hf5 hb5 hz5 hc6 hf6 hb6 hz6 hc7 hf7 hb7 hz7 hc8 hf8 hb8 hz8 hc9 hf9 hb9 hz9
      by_cases hlt : (k : Int) < 1 + b % 9
      · have JL := Lib.hid fun w => unitLen 4 w (by omega)
        have JA := Lib.hid fun w => sumAdd k 4 w (by omega) (by omega)
        generalize ratioN ((k : Nat) : Int) 4 = p at *
        generalize ratioD ((k : Nat) : Int) 4 = q at *
        generalize hp' : ratioN ((k + 1 : Nat) : Int) 4 = p' at *
        generalize hq' : ratioD ((k + 1 : Nat) : Int) 4 = q' at *
        have HP := Lib.hid hp'
        have HQ := Lib.hid hq'
        clear hp' hq'
        go_wp2_with fail
        refine (JL.out _).mono ?_
        rintro e wa ⟨rfl, hba⟩; obtain ⟨hca, hfa⟩ := bcell hba; have hza := hba.size; (try simp at hza)
        have hSa : (wt.heap.size + 1) < wa.heap.size := by omega
        have hMa : (w9.heap.size + 1) < wa.heap.size := by omega
        have hKa : wt.heap.size < wa.heap.size := by omega
        have hMb : w9.heap.size < wa.heap.size := by omega
        have hMn : ¬ w9.heap.size + 1 = wa.heap.size := by omega
        have hBa : Below w.heap.size w wa := hBr.trans (hba.mono hBr.size)
        go_wp2_with fail
        refine (JA.out _).mono ?_
        rintro e wc ⟨rfl, hbc⟩; obtain ⟨hcc, hfc⟩ := bcell hbc; have hzc := hbc.size; (try simp at hzc)
        have hBc : Below w.heap.size w wc := below_step (by go_grown) hbc
        have hSc : (wt.heap.size + 1) < wc.heap.size := by omega
        have hMc : (w9.heap.size + 1) < wc.heap.size := by omega
        have hKc : wt.heap.size < wc.heap.size := by omega
        go_wp2_with fail
        go_roundw
        case rel => exact ⟨k + 1, by omega, by omega, by go_num, by rw [HP.out]; go_simp, by rw [HQ.out]; go_simp, by go_simp, by go_simp, by go_simp, by go_simp, by go_simp, by simp; omega, by simp; omega, by simp; omega, nM, nK, hold, by go_grown⟩
        case measure => simp [intOf]; omega
      · obtain ⟨E1, E2⟩ := HE.out k (by omega)
        rw [E1] at hs0
        rw [E2] at hs1
        go_wp2_with fail
        refine (awake_c _).mono ?_
        rintro e wz ⟨rfl, hbz⟩
        go_wp2_with fail
        go_ret
        exact ⟨rfl, hBr.trans (hbz.mono hBr.size)⟩
  · go_wp2_with fail
    refine (barBar _ _ _ ⟨by omega, by omega, by omega⟩).mono ?_
    rintro e wt ⟨rfl, hbt⟩; obtain ⟨hct, hft⟩ := bcell hbt; have hzt := hbt.size; (try simp at hzt); have hyt : w.heap.size < wt.heap.size := (by omega); have hBt : Below w.heap.size w wt := below_step (by go_grown) hbt
    have gm : w9.heap.size + 1 < wt.heap.size := by omega
    have gm2 : w9.heap.size + 1 < wt.heap.size + 1 := by omega
    have gm3 : ¬ w9.heap.size + 1 = wt.heap.size := by omega
    have gm4 : ¬ w9.heap.size = wt.heap.size := by omega
    have gm5 : w9.heap.size < wt.heap.size := by omega
    have HE : Hid (∀ k : Nat, (k : Int) = 1 + b % 9 → ratioN k 8 = (ratioN (1 + b % 9) 8) ∧ ratioD k 8 = (ratioD (1 + b % 9) 8)) := fun k h => by rw [h]; exact ⟨rfl, rfl⟩
    generalize (ratioN (1 + b % 9) 8) = x at *
    generalize (ratioD (1 + b % 9) 8) = y at *
    go_wp2_with fail
    go_loopw [157] (fun i wr => ∃ k : Nat, k ≤ 9 ∧ (k : Int) ≤ 1 + b % 9 ∧ i = .int .i64 k ∧ Beat w (w9.heap.size + 1) wt.heap.size (wt.heap.size + 1) 8 x y k wr) (fun i _ => 9 - (intOf i).toNat)
    case atStart => exact ⟨0, by omega, by omega, rfl, by rw [(sum_zero 8 (by omega)).1]; go_simp, by rw [(sum_zero 8 (by omega)).2]; go_simp, by go_simp, by go_simp, by go_simp, by go_simp, by go_simp, by simp, by simp; omega, by simp; omega, by omega, by omega, by omega, by go_grown⟩
    case round =>
      obtain ⟨k, hk9, hkB, rfl, hs0, hs1, hF0, hF1, hm1, hk0, hk1, hS, hM, hK, nM, nK, hold, hBr⟩ := hrel
      clear hc1 hf1 hb1 hz1 hc2 hf2 hb2 hz2 hc3 hf3 hb3 hz3 hc4 hf4 hb4 hz4 hc5 hf5 hb5 hz5 hc6 hf6 hb6 hz6 hc7 hf7 hb7 hz7 hc8 hf8 hb8 hz8 hc9 hf9 hb9 hz9
      by_cases hlt : (k : Int) < 1 + b % 9
      · have JL := Lib.hid fun w => unitLen 8 w (by omega)
        have JA := Lib.hid fun w => sumAdd k 8 w (by omega) (by omega)
        generalize ratioN ((k : Nat) : Int) 8 = p at *
        generalize ratioD ((k : Nat) : Int) 8 = q at *
        generalize hp' : ratioN ((k + 1 : Nat) : Int) 8 = p' at *
        generalize hq' : ratioD ((k + 1 : Nat) : Int) 8 = q' at *
        have HP := Lib.hid hp'
        have HQ := Lib.hid hq'
        clear hp' hq'
        go_wp2_with fail
        refine (JL.out _).mono ?_
        rintro e wa ⟨rfl, hba⟩; obtain ⟨hca, hfa⟩ := bcell hba; have hza := hba.size; (try simp at hza)
        have hSa : (wt.heap.size + 1) < wa.heap.size := by omega
        have hMa : (w9.heap.size + 1) < wa.heap.size := by omega
        have hKa : wt.heap.size < wa.heap.size := by omega
        have hMb : w9.heap.size < wa.heap.size := by omega
        have hMn : ¬ w9.heap.size + 1 = wa.heap.size := by omega
        have hBa : Below w.heap.size w wa := hBr.trans (hba.mono hBr.size)
        go_wp2_with fail
        refine (JA.out _).mono ?_
        rintro e wc ⟨rfl, hbc⟩; obtain ⟨hcc, hfc⟩ := bcell hbc; have hzc := hbc.size; (try simp at hzc)
        have hBc : Below w.heap.size w wc := below_step (by go_grown) hbc
        have hSc : (wt.heap.size + 1) < wc.heap.size := by omega
        have hMc : (w9.heap.size + 1) < wc.heap.size := by omega
        have hKc : wt.heap.size < wc.heap.size := by omega
        go_wp2_with fail
        go_roundw
        case rel => exact ⟨k + 1, by omega, by omega, by go_num, by rw [HP.out]; go_simp, by rw [HQ.out]; go_simp, by go_simp, by go_simp, by go_simp, by go_simp, by go_simp, by simp; omega, by simp; omega, by simp; omega, nM, nK, hold, by go_grown⟩
        case measure => simp [intOf]; omega
      · obtain ⟨E1, E2⟩ := HE.out k (by omega)
        rw [E1] at hs0
        rw [E2] at hs1
        go_wp2_with fail
        refine (awake_c _).mono ?_
        rintro e wz ⟨rfl, hbz⟩
        go_wp2_with fail
        go_ret
        exact ⟨rfl, hBr.trans (hbz.mono hBr.size)⟩
set_option maxRecDepth 100000 in
set_option maxHeartbeats 16000000 in
theorem Lasts_8 (v b u : Int) (w : World) (hv : v % 5 = 3) (kv0 : 0 ≤ v) (kv1 : v ≤ 255) (kb0 : 0 ≤ b) (kb1 : b ≤ 255) (ku0 : 0 ≤ u) (ku1 : u ≤ 255) :
    Calls Tryd.prog 5 #[.int .u8 v, .int .u8 b, .int .u8 u] w fun e w' => e = .returned (.bool true) ∧ Below w.heap.size w w' := by
  have H1 := fun w => Length_yes 8 false false w (by unfold isValue; omega)
  rw [show ratioV (lenN false false) (lenD 8 false false) = .tuple #[.agg #[.int .i64 1, .int .i64 8], .int .i64 0] by kernel_rfl] at H1
  have J1 := Lib.hid H1
  clear H1
  have H2 := fun w => Length_yes 8 true false w (by unfold isValue; omega)
  rw [show ratioV (lenN true false) (lenD 8 true false) = .tuple #[.agg #[.int .i64 3, .int .i64 16], .int .i64 0] by kernel_rfl] at H2
  have J2 := Lib.hid H2
  clear H2
  have H3 := fun w => Length_yes 8 false true w (by unfold isValue; omega)
  rw [show ratioV (lenN false true) (lenD 8 false true) = .tuple #[.agg #[.int .i64 1, .int .i64 12], .int .i64 0] by kernel_rfl] at H3
  have J3 := Lib.hid H3
  clear H3
  have H4 := fun w => Length_yes 8 true true w (by unfold isValue; omega)
  rw [show ratioV (lenN true true) (lenD 8 true true) = .tuple #[.agg #[.int .i64 1, .int .i64 8], .int .i64 0] by kernel_rfl] at H4
  have J4 := Lib.hid H4
  clear H4
  have H5 := fun w => Div_c 1 8 2 1 w (by unfold i64P; decide) (by unfold i64P; decide) (by unfold i64P; decide) (by unfold i64P; decide)
  rw [show fracV (validB 1 8 && validB 2 1) (1 * 1) (8 * 2) = .tuple #[.agg #[.int .i64 1, .int .i64 16], .int .i64 0] by kernel_rfl] at H5
  have J5 := Lib.hid H5
  clear H5
  have H6 := fun w => Add_c 1 8 1 16 w (by unfold i64P; decide) (by unfold i64P; decide) (by unfold i64P; decide) (by unfold i64P; decide)
  rw [show fracV (validB 1 8 && validB 1 16) (1 * 16 + 1 * 1 * 8) (8 * 16) = .tuple #[.agg #[.int .i64 3, .int .i64 16], .int .i64 0] by kernel_rfl] at H6
  have J6 := Lib.hid H6
  clear H6
  have H7 := fun w => Mul_c 1 12 3 1 w (by unfold i64P; decide) (by unfold i64P; decide) (by unfold i64P; decide) (by unfold i64P; decide)
  rw [show fracV (validB 1 12 && validB 3 1) (1 * 3) (12 * 1) = .tuple #[.agg #[.int .i64 1, .int .i64 4], .int .i64 0] by kernel_rfl] at H7
  have J7 := Lib.hid H7
  clear H7
  have H8 := fun w => Add_c 1 8 1 8 w (by unfold i64P; decide) (by unfold i64P; decide) (by unfold i64P; decide) (by unfold i64P; decide)
  rw [show fracV (validB 1 8 && validB 1 8) (1 * 8 + 1 * 1 * 8) (8 * 8) = .tuple #[.agg #[.int .i64 1, .int .i64 4], .int .i64 0] by kernel_rfl] at H8
  have J8 := Lib.hid H8
  clear H8
  have H9 := fun w => Length_yes 4 false false w (by unfold isValue; omega)
  rw [show ratioV (lenN false false) (lenD 4 false false) = .tuple #[.agg #[.int .i64 1, .int .i64 4], .int .i64 0] by kernel_rfl] at H9
  have J9 := Lib.hid H9
  clear H9
  have hq0 : 0 ≤ b % 9 := by omega
  have hq1 : b % 9 ≤ 8 := by omega
  go_enter Tryd.func5, Tryd.ntmps5
  go_wp2_with fail
  refine (J1.out _).mono ?_
  rintro e w1 ⟨rfl, hb1⟩; obtain ⟨hc1, hf1⟩ := bcell hb1; have hz1 := hb1.size; (try simp at hz1); have hB1 : Below w.heap.size w w1 := below_step (by go_grown) hb1
  go_wp2_with fail
  refine (J2.out _).mono ?_
  rintro e w2 ⟨rfl, hb2⟩; obtain ⟨hc2, hf2⟩ := bcell hb2; have hz2 := hb2.size; (try simp at hz2); have hy2 : w.heap.size < w2.heap.size := (by omega); have hB2 : Below w.heap.size w w2 := below_step (by go_grown) hb2
  have g1_2 : w1.heap.size < w2.heap.size := by omega
  go_wp2_with fail
  refine (J3.out _).mono ?_
  rintro e w3 ⟨rfl, hb3⟩; obtain ⟨hc3, hf3⟩ := bcell hb3; have hz3 := hb3.size; (try simp at hz3); have hy3 : w.heap.size < w3.heap.size := (by omega); have hB3 : Below w.heap.size w w3 := below_step (by go_grown) hb3
  have g1_3 : w1.heap.size < w3.heap.size := by omega
  have g2_3 : w2.heap.size < w3.heap.size := by omega
  go_wp2_with fail
  refine (J4.out _).mono ?_
  rintro e w4 ⟨rfl, hb4⟩; obtain ⟨hc4, hf4⟩ := bcell hb4; have hz4 := hb4.size; (try simp at hz4); have hy4 : w.heap.size < w4.heap.size := (by omega); have hB4 : Below w.heap.size w w4 := below_step (by go_grown) hb4
  have g1_4 : w1.heap.size < w4.heap.size := by omega
  have g2_4 : w2.heap.size < w4.heap.size := by omega
  have g3_4 : w3.heap.size < w4.heap.size := by omega
  go_wp2_with fail
  refine (J5.out _).mono ?_
  rintro e w5 ⟨rfl, hb5⟩; obtain ⟨hc5, hf5⟩ := bcell hb5; have hz5 := hb5.size; (try simp at hz5); have hy5 : w.heap.size < w5.heap.size := (by omega); have hB5 : Below w.heap.size w w5 := below_step (by go_grown) hb5
  have g1_5 : w1.heap.size < w5.heap.size := by omega
  have g2_5 : w2.heap.size < w5.heap.size := by omega
  have g3_5 : w3.heap.size < w5.heap.size := by omega
  have g4_5 : w4.heap.size < w5.heap.size := by omega
  go_wp2_with fail
  refine (J6.out _).mono ?_
  rintro e w6 ⟨rfl, hb6⟩; obtain ⟨hc6, hf6⟩ := bcell hb6; have hz6 := hb6.size; (try simp at hz6); have hy6 : w.heap.size < w6.heap.size := (by omega); have hB6 : Below w.heap.size w w6 := below_step (by go_grown) hb6
  have g1_6 : w1.heap.size < w6.heap.size := by omega
  have g2_6 : w2.heap.size < w6.heap.size := by omega
  have g3_6 : w3.heap.size < w6.heap.size := by omega
  have g4_6 : w4.heap.size < w6.heap.size := by omega
  have g5_6 : w5.heap.size < w6.heap.size := by omega
  go_wp2_with fail
  refine (J7.out _).mono ?_
  rintro e w7 ⟨rfl, hb7⟩; obtain ⟨hc7, hf7⟩ := bcell hb7; have hz7 := hb7.size; (try simp at hz7); have hy7 : w.heap.size < w7.heap.size := (by omega); have hB7 : Below w.heap.size w w7 := below_step (by go_grown) hb7
  have g1_7 : w1.heap.size < w7.heap.size := by omega
  have g2_7 : w2.heap.size < w7.heap.size := by omega
  have g3_7 : w3.heap.size < w7.heap.size := by omega
  have g4_7 : w4.heap.size < w7.heap.size := by omega
  have g5_7 : w5.heap.size < w7.heap.size := by omega
  have g6_7 : w6.heap.size < w7.heap.size := by omega
  go_wp2_with fail
  refine (J8.out _).mono ?_
  rintro e w8 ⟨rfl, hb8⟩; obtain ⟨hc8, hf8⟩ := bcell hb8; have hz8 := hb8.size; (try simp at hz8); have hy8 : w.heap.size < w8.heap.size := (by omega); have hB8 : Below w.heap.size w w8 := below_step (by go_grown) hb8
  have g1_8 : w1.heap.size < w8.heap.size := by omega
  have g2_8 : w2.heap.size < w8.heap.size := by omega
  have g3_8 : w3.heap.size < w8.heap.size := by omega
  have g4_8 : w4.heap.size < w8.heap.size := by omega
  have g5_8 : w5.heap.size < w8.heap.size := by omega
  have g6_8 : w6.heap.size < w8.heap.size := by omega
  have g7_8 : w7.heap.size < w8.heap.size := by omega
  go_wp2_with fail
  refine (J9.out _).mono ?_
  rintro e w9 ⟨rfl, hb9⟩; obtain ⟨hc9, hf9⟩ := bcell hb9; have hz9 := hb9.size; (try simp at hz9); have hy9 : w.heap.size < w9.heap.size := (by omega); have hB9 : Below w.heap.size w w9 := below_step (by go_grown) hb9
  have g1_9 : w1.heap.size < w9.heap.size := by omega
  have g2_9 : w2.heap.size < w9.heap.size := by omega
  have g3_9 : w3.heap.size < w9.heap.size := by omega
  have g4_9 : w4.heap.size < w9.heap.size := by omega
  have g5_9 : w5.heap.size < w9.heap.size := by omega
  have g6_9 : w6.heap.size < w9.heap.size := by omega
  have g7_9 : w7.heap.size < w9.heap.size := by omega
  have g8_9 : w8.heap.size < w9.heap.size := by omega
  rcases (by omega : u % 3 = 0 ∨ u % 3 = 1 ∨ u % 3 = 2) with hu | hu | hu
  · go_wp2_with fail
    refine (barBar _ _ _ ⟨by omega, by omega, by omega⟩).mono ?_
    rintro e wt ⟨rfl, hbt⟩; obtain ⟨hct, hft⟩ := bcell hbt; have hzt := hbt.size; (try simp at hzt); have hyt : w.heap.size < wt.heap.size := (by omega); have hBt : Below w.heap.size w wt := below_step (by go_grown) hbt
    have gm : w9.heap.size + 1 < wt.heap.size := by omega
    have gm2 : w9.heap.size + 1 < wt.heap.size + 1 := by omega
    have gm3 : ¬ w9.heap.size + 1 = wt.heap.size := by omega
    have gm4 : ¬ w9.heap.size = wt.heap.size := by omega
    have gm5 : w9.heap.size < wt.heap.size := by omega
    have HE : Hid (∀ k : Nat, (k : Int) = 1 + b % 9 → ratioN k 2 = (ratioN (1 + b % 9) 2) ∧ ratioD k 2 = (ratioD (1 + b % 9) 2)) := fun k h => by rw [h]; exact ⟨rfl, rfl⟩
    generalize (ratioN (1 + b % 9) 2) = x at *
    generalize (ratioD (1 + b % 9) 2) = y at *
    go_wp2_with fail
    go_loopw [157] (fun i wr => ∃ k : Nat, k ≤ 9 ∧ (k : Int) ≤ 1 + b % 9 ∧ i = .int .i64 k ∧ Beat w (w9.heap.size + 1) wt.heap.size (wt.heap.size + 1) 2 x y k wr) (fun i _ => 9 - (intOf i).toNat)
    case atStart => exact ⟨0, by omega, by omega, rfl, by rw [(sum_zero 2 (by omega)).1]; go_simp, by rw [(sum_zero 2 (by omega)).2]; go_simp, by go_simp, by go_simp, by go_simp, by go_simp, by go_simp, by simp, by simp; omega, by simp; omega, by omega, by omega, by omega, by go_grown⟩
    case round =>
      obtain ⟨k, hk9, hkB, rfl, hs0, hs1, hF0, hF1, hm1, hk0, hk1, hS, hM, hK, nM, nK, hold, hBr⟩ := hrel
      clear hc1 hf1 hb1 hz1 hc2 hf2 hb2 hz2 hc3 hf3 hb3 hz3 hc4 hf4 hb4 hz4 hc5 hf5 hb5 hz5 hc6 hf6 hb6 hz6 hc7 hf7 hb7 hz7 hc8 hf8 hb8 hz8 hc9 hf9 hb9 hz9
      by_cases hlt : (k : Int) < 1 + b % 9
      · have JL := Lib.hid fun w => unitLen 2 w (by omega)
        have JA := Lib.hid fun w => sumAdd k 2 w (by omega) (by omega)
        generalize ratioN ((k : Nat) : Int) 2 = p at *
        generalize ratioD ((k : Nat) : Int) 2 = q at *
        generalize hp' : ratioN ((k + 1 : Nat) : Int) 2 = p' at *
        generalize hq' : ratioD ((k + 1 : Nat) : Int) 2 = q' at *
        have HP := Lib.hid hp'
        have HQ := Lib.hid hq'
        clear hp' hq'
        go_wp2_with fail
        refine (JL.out _).mono ?_
        rintro e wa ⟨rfl, hba⟩; obtain ⟨hca, hfa⟩ := bcell hba; have hza := hba.size; (try simp at hza)
        have hSa : (wt.heap.size + 1) < wa.heap.size := by omega
        have hMa : (w9.heap.size + 1) < wa.heap.size := by omega
        have hKa : wt.heap.size < wa.heap.size := by omega
        have hMb : w9.heap.size < wa.heap.size := by omega
        have hMn : ¬ w9.heap.size + 1 = wa.heap.size := by omega
        have hBa : Below w.heap.size w wa := hBr.trans (hba.mono hBr.size)
        go_wp2_with fail
        refine (JA.out _).mono ?_
        rintro e wc ⟨rfl, hbc⟩; obtain ⟨hcc, hfc⟩ := bcell hbc; have hzc := hbc.size; (try simp at hzc)
        have hBc : Below w.heap.size w wc := below_step (by go_grown) hbc
        have hSc : (wt.heap.size + 1) < wc.heap.size := by omega
        have hMc : (w9.heap.size + 1) < wc.heap.size := by omega
        have hKc : wt.heap.size < wc.heap.size := by omega
        go_wp2_with fail
        go_roundw
        case rel => exact ⟨k + 1, by omega, by omega, by go_num, by rw [HP.out]; go_simp, by rw [HQ.out]; go_simp, by go_simp, by go_simp, by go_simp, by go_simp, by go_simp, by simp; omega, by simp; omega, by simp; omega, nM, nK, hold, by go_grown⟩
        case measure => simp [intOf]; omega
      · obtain ⟨E1, E2⟩ := HE.out k (by omega)
        rw [E1] at hs0
        rw [E2] at hs1
        go_wp2_with fail
        refine (awake_c _).mono ?_
        rintro e wz ⟨rfl, hbz⟩
        go_wp2_with fail
        go_ret
        exact ⟨rfl, hBr.trans (hbz.mono hBr.size)⟩
  · go_wp2_with fail
    refine (barBar _ _ _ ⟨by omega, by omega, by omega⟩).mono ?_
    rintro e wt ⟨rfl, hbt⟩; obtain ⟨hct, hft⟩ := bcell hbt; have hzt := hbt.size; (try simp at hzt); have hyt : w.heap.size < wt.heap.size := (by omega); have hBt : Below w.heap.size w wt := below_step (by go_grown) hbt
    have gm : w9.heap.size + 1 < wt.heap.size := by omega
    have gm2 : w9.heap.size + 1 < wt.heap.size + 1 := by omega
    have gm3 : ¬ w9.heap.size + 1 = wt.heap.size := by omega
    have gm4 : ¬ w9.heap.size = wt.heap.size := by omega
    have gm5 : w9.heap.size < wt.heap.size := by omega
    have HE : Hid (∀ k : Nat, (k : Int) = 1 + b % 9 → ratioN k 4 = (ratioN (1 + b % 9) 4) ∧ ratioD k 4 = (ratioD (1 + b % 9) 4)) := fun k h => by rw [h]; exact ⟨rfl, rfl⟩
    generalize (ratioN (1 + b % 9) 4) = x at *
    generalize (ratioD (1 + b % 9) 4) = y at *
    go_wp2_with fail
    go_loopw [157] (fun i wr => ∃ k : Nat, k ≤ 9 ∧ (k : Int) ≤ 1 + b % 9 ∧ i = .int .i64 k ∧ Beat w (w9.heap.size + 1) wt.heap.size (wt.heap.size + 1) 4 x y k wr) (fun i _ => 9 - (intOf i).toNat)
    case atStart => exact ⟨0, by omega, by omega, rfl, by rw [(sum_zero 4 (by omega)).1]; go_simp, by rw [(sum_zero 4 (by omega)).2]; go_simp, by go_simp, by go_simp, by go_simp, by go_simp, by go_simp, by simp, by simp; omega, by simp; omega, by omega, by omega, by omega, by go_grown⟩
    case round =>
      obtain ⟨k, hk9, hkB, rfl, hs0, hs1, hF0, hF1, hm1, hk0, hk1, hS, hM, hK, nM, nK, hold, hBr⟩ := hrel
      clear hc1 hf1 hb1 hz1 hc2 hf2 hb2 hz2 hc3 hf3 hb3 hz3 hc4 hf4 hb4 hz4 hc5 hf5 hb5 hz5 hc6 hf6 hb6 hz6 hc7 hf7 hb7 hz7 hc8 hf8 hb8 hz8 hc9 hf9 hb9 hz9
      by_cases hlt : (k : Int) < 1 + b % 9
      · have JL := Lib.hid fun w => unitLen 4 w (by omega)
        have JA := Lib.hid fun w => sumAdd k 4 w (by omega) (by omega)
        generalize ratioN ((k : Nat) : Int) 4 = p at *
        generalize ratioD ((k : Nat) : Int) 4 = q at *
        generalize hp' : ratioN ((k + 1 : Nat) : Int) 4 = p' at *
        generalize hq' : ratioD ((k + 1 : Nat) : Int) 4 = q' at *
        have HP := Lib.hid hp'
        have HQ := Lib.hid hq'
        clear hp' hq'
        go_wp2_with fail
        refine (JL.out _).mono ?_
        rintro e wa ⟨rfl, hba⟩; obtain ⟨hca, hfa⟩ := bcell hba; have hza := hba.size; (try simp at hza)
        have hSa : (wt.heap.size + 1) < wa.heap.size := by omega
        have hMa : (w9.heap.size + 1) < wa.heap.size := by omega
        have hKa : wt.heap.size < wa.heap.size := by omega
        have hMb : w9.heap.size < wa.heap.size := by omega
        have hMn : ¬ w9.heap.size + 1 = wa.heap.size := by omega
        have hBa : Below w.heap.size w wa := hBr.trans (hba.mono hBr.size)
        go_wp2_with fail
        refine (JA.out _).mono ?_
        rintro e wc ⟨rfl, hbc⟩; obtain ⟨hcc, hfc⟩ := bcell hbc; have hzc := hbc.size; (try simp at hzc)
        have hBc : Below w.heap.size w wc := below_step (by go_grown) hbc
        have hSc : (wt.heap.size + 1) < wc.heap.size := by omega
        have hMc : (w9.heap.size + 1) < wc.heap.size := by omega
        have hKc : wt.heap.size < wc.heap.size := by omega
        go_wp2_with fail
        go_roundw
        case rel => exact ⟨k + 1, by omega, by omega, by go_num, by rw [HP.out]; go_simp, by rw [HQ.out]; go_simp, by go_simp, by go_simp, by go_simp, by go_simp, by go_simp, by simp; omega, by simp; omega, by simp; omega, nM, nK, hold, by go_grown⟩
        case measure => simp [intOf]; omega
      · obtain ⟨E1, E2⟩ := HE.out k (by omega)
        rw [E1] at hs0
        rw [E2] at hs1
        go_wp2_with fail
        refine (awake_c _).mono ?_
        rintro e wz ⟨rfl, hbz⟩
        go_wp2_with fail
        go_ret
        exact ⟨rfl, hBr.trans (hbz.mono hBr.size)⟩
  · go_wp2_with fail
    refine (barBar _ _ _ ⟨by omega, by omega, by omega⟩).mono ?_
    rintro e wt ⟨rfl, hbt⟩; obtain ⟨hct, hft⟩ := bcell hbt; have hzt := hbt.size; (try simp at hzt); have hyt : w.heap.size < wt.heap.size := (by omega); have hBt : Below w.heap.size w wt := below_step (by go_grown) hbt
    have gm : w9.heap.size + 1 < wt.heap.size := by omega
    have gm2 : w9.heap.size + 1 < wt.heap.size + 1 := by omega
    have gm3 : ¬ w9.heap.size + 1 = wt.heap.size := by omega
    have gm4 : ¬ w9.heap.size = wt.heap.size := by omega
    have gm5 : w9.heap.size < wt.heap.size := by omega
    have HE : Hid (∀ k : Nat, (k : Int) = 1 + b % 9 → ratioN k 8 = (ratioN (1 + b % 9) 8) ∧ ratioD k 8 = (ratioD (1 + b % 9) 8)) := fun k h => by rw [h]; exact ⟨rfl, rfl⟩
    generalize (ratioN (1 + b % 9) 8) = x at *
    generalize (ratioD (1 + b % 9) 8) = y at *
    go_wp2_with fail
    go_loopw [157] (fun i wr => ∃ k : Nat, k ≤ 9 ∧ (k : Int) ≤ 1 + b % 9 ∧ i = .int .i64 k ∧ Beat w (w9.heap.size + 1) wt.heap.size (wt.heap.size + 1) 8 x y k wr) (fun i _ => 9 - (intOf i).toNat)
    case atStart => exact ⟨0, by omega, by omega, rfl, by rw [(sum_zero 8 (by omega)).1]; go_simp, by rw [(sum_zero 8 (by omega)).2]; go_simp, by go_simp, by go_simp, by go_simp, by go_simp, by go_simp, by simp, by simp; omega, by simp; omega, by omega, by omega, by omega, by go_grown⟩
    case round =>
      obtain ⟨k, hk9, hkB, rfl, hs0, hs1, hF0, hF1, hm1, hk0, hk1, hS, hM, hK, nM, nK, hold, hBr⟩ := hrel
      clear hc1 hf1 hb1 hz1 hc2 hf2 hb2 hz2 hc3 hf3 hb3 hz3 hc4 hf4 hb4 hz4 hc5 hf5 hb5 hz5 hc6 hf6 hb6 hz6 hc7 hf7 hb7 hz7 hc8 hf8 hb8 hz8 hc9 hf9 hb9 hz9
      by_cases hlt : (k : Int) < 1 + b % 9
      · have JL := Lib.hid fun w => unitLen 8 w (by omega)
        have JA := Lib.hid fun w => sumAdd k 8 w (by omega) (by omega)
        generalize ratioN ((k : Nat) : Int) 8 = p at *
        generalize ratioD ((k : Nat) : Int) 8 = q at *
        generalize hp' : ratioN ((k + 1 : Nat) : Int) 8 = p' at *
        generalize hq' : ratioD ((k + 1 : Nat) : Int) 8 = q' at *
        have HP := Lib.hid hp'
        have HQ := Lib.hid hq'
        clear hp' hq'
        go_wp2_with fail
        refine (JL.out _).mono ?_
        rintro e wa ⟨rfl, hba⟩; obtain ⟨hca, hfa⟩ := bcell hba; have hza := hba.size; (try simp at hza)
        have hSa : (wt.heap.size + 1) < wa.heap.size := by omega
        have hMa : (w9.heap.size + 1) < wa.heap.size := by omega
        have hKa : wt.heap.size < wa.heap.size := by omega
        have hMb : w9.heap.size < wa.heap.size := by omega
        have hMn : ¬ w9.heap.size + 1 = wa.heap.size := by omega
        have hBa : Below w.heap.size w wa := hBr.trans (hba.mono hBr.size)
        go_wp2_with fail
        refine (JA.out _).mono ?_
        rintro e wc ⟨rfl, hbc⟩; obtain ⟨hcc, hfc⟩ := bcell hbc; have hzc := hbc.size; (try simp at hzc)
        have hBc : Below w.heap.size w wc := below_step (by go_grown) hbc
        have hSc : (wt.heap.size + 1) < wc.heap.size := by omega
        have hMc : (w9.heap.size + 1) < wc.heap.size := by omega
        have hKc : wt.heap.size < wc.heap.size := by omega
        go_wp2_with fail
        go_roundw
        case rel => exact ⟨k + 1, by omega, by omega, by go_num, by rw [HP.out]; go_simp, by rw [HQ.out]; go_simp, by go_simp, by go_simp, by go_simp, by go_simp, by go_simp, by simp; omega, by simp; omega, by simp; omega, nM, nK, hold, by go_grown⟩
        case measure => simp [intOf]; omega
      · obtain ⟨E1, E2⟩ := HE.out k (by omega)
        rw [E1] at hs0
        rw [E2] at hs1
        go_wp2_with fail
        refine (awake_c _).mono ?_
        rintro e wz ⟨rfl, hbz⟩
        go_wp2_with fail
        go_ret
        exact ⟨rfl, hBr.trans (hbz.mono hBr.size)⟩
set_option maxRecDepth 100000 in
set_option maxHeartbeats 16000000 in
theorem Lasts_16 (v b u : Int) (w : World) (hv : v % 5 = 4) (kv0 : 0 ≤ v) (kv1 : v ≤ 255) (kb0 : 0 ≤ b) (kb1 : b ≤ 255) (ku0 : 0 ≤ u) (ku1 : u ≤ 255) :
    Calls Tryd.prog 5 #[.int .u8 v, .int .u8 b, .int .u8 u] w fun e w' => e = .returned (.bool true) ∧ Below w.heap.size w w' := by
  have H1 := fun w => Length_yes 16 false false w (by unfold isValue; omega)
  rw [show ratioV (lenN false false) (lenD 16 false false) = .tuple #[.agg #[.int .i64 1, .int .i64 16], .int .i64 0] by kernel_rfl] at H1
  have J1 := Lib.hid H1
  clear H1
  have H2 := fun w => Length_yes 16 true false w (by unfold isValue; omega)
  rw [show ratioV (lenN true false) (lenD 16 true false) = .tuple #[.agg #[.int .i64 3, .int .i64 32], .int .i64 0] by kernel_rfl] at H2
  have J2 := Lib.hid H2
  clear H2
  have H3 := fun w => Length_yes 16 false true w (by unfold isValue; omega)
  rw [show ratioV (lenN false true) (lenD 16 false true) = .tuple #[.agg #[.int .i64 1, .int .i64 24], .int .i64 0] by kernel_rfl] at H3
  have J3 := Lib.hid H3
  clear H3
  have H4 := fun w => Length_yes 16 true true w (by unfold isValue; omega)
  rw [show ratioV (lenN true true) (lenD 16 true true) = .tuple #[.agg #[.int .i64 1, .int .i64 16], .int .i64 0] by kernel_rfl] at H4
  have J4 := Lib.hid H4
  clear H4
  have H5 := fun w => Div_c 1 16 2 1 w (by unfold i64P; decide) (by unfold i64P; decide) (by unfold i64P; decide) (by unfold i64P; decide)
  rw [show fracV (validB 1 16 && validB 2 1) (1 * 1) (16 * 2) = .tuple #[.agg #[.int .i64 1, .int .i64 32], .int .i64 0] by kernel_rfl] at H5
  have J5 := Lib.hid H5
  clear H5
  have H6 := fun w => Add_c 1 16 1 32 w (by unfold i64P; decide) (by unfold i64P; decide) (by unfold i64P; decide) (by unfold i64P; decide)
  rw [show fracV (validB 1 16 && validB 1 32) (1 * 32 + 1 * 1 * 16) (16 * 32) = .tuple #[.agg #[.int .i64 3, .int .i64 32], .int .i64 0] by kernel_rfl] at H6
  have J6 := Lib.hid H6
  clear H6
  have H7 := fun w => Mul_c 1 24 3 1 w (by unfold i64P; decide) (by unfold i64P; decide) (by unfold i64P; decide) (by unfold i64P; decide)
  rw [show fracV (validB 1 24 && validB 3 1) (1 * 3) (24 * 1) = .tuple #[.agg #[.int .i64 1, .int .i64 8], .int .i64 0] by kernel_rfl] at H7
  have J7 := Lib.hid H7
  clear H7
  have H8 := fun w => Add_c 1 16 1 16 w (by unfold i64P; decide) (by unfold i64P; decide) (by unfold i64P; decide) (by unfold i64P; decide)
  rw [show fracV (validB 1 16 && validB 1 16) (1 * 16 + 1 * 1 * 16) (16 * 16) = .tuple #[.agg #[.int .i64 1, .int .i64 8], .int .i64 0] by kernel_rfl] at H8
  have J8 := Lib.hid H8
  clear H8
  have H9 := fun w => Length_yes 8 false false w (by unfold isValue; omega)
  rw [show ratioV (lenN false false) (lenD 8 false false) = .tuple #[.agg #[.int .i64 1, .int .i64 8], .int .i64 0] by kernel_rfl] at H9
  have J9 := Lib.hid H9
  clear H9
  have hq0 : 0 ≤ b % 9 := by omega
  have hq1 : b % 9 ≤ 8 := by omega
  go_enter Tryd.func5, Tryd.ntmps5
  go_wp2_with fail
  refine (J1.out _).mono ?_
  rintro e w1 ⟨rfl, hb1⟩; obtain ⟨hc1, hf1⟩ := bcell hb1; have hz1 := hb1.size; (try simp at hz1); have hB1 : Below w.heap.size w w1 := below_step (by go_grown) hb1
  go_wp2_with fail
  refine (J2.out _).mono ?_
  rintro e w2 ⟨rfl, hb2⟩; obtain ⟨hc2, hf2⟩ := bcell hb2; have hz2 := hb2.size; (try simp at hz2); have hy2 : w.heap.size < w2.heap.size := (by omega); have hB2 : Below w.heap.size w w2 := below_step (by go_grown) hb2
  have g1_2 : w1.heap.size < w2.heap.size := by omega
  go_wp2_with fail
  refine (J3.out _).mono ?_
  rintro e w3 ⟨rfl, hb3⟩; obtain ⟨hc3, hf3⟩ := bcell hb3; have hz3 := hb3.size; (try simp at hz3); have hy3 : w.heap.size < w3.heap.size := (by omega); have hB3 : Below w.heap.size w w3 := below_step (by go_grown) hb3
  have g1_3 : w1.heap.size < w3.heap.size := by omega
  have g2_3 : w2.heap.size < w3.heap.size := by omega
  go_wp2_with fail
  refine (J4.out _).mono ?_
  rintro e w4 ⟨rfl, hb4⟩; obtain ⟨hc4, hf4⟩ := bcell hb4; have hz4 := hb4.size; (try simp at hz4); have hy4 : w.heap.size < w4.heap.size := (by omega); have hB4 : Below w.heap.size w w4 := below_step (by go_grown) hb4
  have g1_4 : w1.heap.size < w4.heap.size := by omega
  have g2_4 : w2.heap.size < w4.heap.size := by omega
  have g3_4 : w3.heap.size < w4.heap.size := by omega
  go_wp2_with fail
  refine (J5.out _).mono ?_
  rintro e w5 ⟨rfl, hb5⟩; obtain ⟨hc5, hf5⟩ := bcell hb5; have hz5 := hb5.size; (try simp at hz5); have hy5 : w.heap.size < w5.heap.size := (by omega); have hB5 : Below w.heap.size w w5 := below_step (by go_grown) hb5
  have g1_5 : w1.heap.size < w5.heap.size := by omega
  have g2_5 : w2.heap.size < w5.heap.size := by omega
  have g3_5 : w3.heap.size < w5.heap.size := by omega
  have g4_5 : w4.heap.size < w5.heap.size := by omega
  go_wp2_with fail
  refine (J6.out _).mono ?_
  rintro e w6 ⟨rfl, hb6⟩; obtain ⟨hc6, hf6⟩ := bcell hb6; have hz6 := hb6.size; (try simp at hz6); have hy6 : w.heap.size < w6.heap.size := (by omega); have hB6 : Below w.heap.size w w6 := below_step (by go_grown) hb6
  have g1_6 : w1.heap.size < w6.heap.size := by omega
  have g2_6 : w2.heap.size < w6.heap.size := by omega
  have g3_6 : w3.heap.size < w6.heap.size := by omega
  have g4_6 : w4.heap.size < w6.heap.size := by omega
  have g5_6 : w5.heap.size < w6.heap.size := by omega
  go_wp2_with fail
  refine (J7.out _).mono ?_
  rintro e w7 ⟨rfl, hb7⟩; obtain ⟨hc7, hf7⟩ := bcell hb7; have hz7 := hb7.size; (try simp at hz7); have hy7 : w.heap.size < w7.heap.size := (by omega); have hB7 : Below w.heap.size w w7 := below_step (by go_grown) hb7
  have g1_7 : w1.heap.size < w7.heap.size := by omega
  have g2_7 : w2.heap.size < w7.heap.size := by omega
  have g3_7 : w3.heap.size < w7.heap.size := by omega
  have g4_7 : w4.heap.size < w7.heap.size := by omega
  have g5_7 : w5.heap.size < w7.heap.size := by omega
  have g6_7 : w6.heap.size < w7.heap.size := by omega
  go_wp2_with fail
  refine (J8.out _).mono ?_
  rintro e w8 ⟨rfl, hb8⟩; obtain ⟨hc8, hf8⟩ := bcell hb8; have hz8 := hb8.size; (try simp at hz8); have hy8 : w.heap.size < w8.heap.size := (by omega); have hB8 : Below w.heap.size w w8 := below_step (by go_grown) hb8
  have g1_8 : w1.heap.size < w8.heap.size := by omega
  have g2_8 : w2.heap.size < w8.heap.size := by omega
  have g3_8 : w3.heap.size < w8.heap.size := by omega
  have g4_8 : w4.heap.size < w8.heap.size := by omega
  have g5_8 : w5.heap.size < w8.heap.size := by omega
  have g6_8 : w6.heap.size < w8.heap.size := by omega
  have g7_8 : w7.heap.size < w8.heap.size := by omega
  go_wp2_with fail
  refine (J9.out _).mono ?_
  rintro e w9 ⟨rfl, hb9⟩; obtain ⟨hc9, hf9⟩ := bcell hb9; have hz9 := hb9.size; (try simp at hz9); have hy9 : w.heap.size < w9.heap.size := (by omega); have hB9 : Below w.heap.size w w9 := below_step (by go_grown) hb9
  have g1_9 : w1.heap.size < w9.heap.size := by omega
  have g2_9 : w2.heap.size < w9.heap.size := by omega
  have g3_9 : w3.heap.size < w9.heap.size := by omega
  have g4_9 : w4.heap.size < w9.heap.size := by omega
  have g5_9 : w5.heap.size < w9.heap.size := by omega
  have g6_9 : w6.heap.size < w9.heap.size := by omega
  have g7_9 : w7.heap.size < w9.heap.size := by omega
  have g8_9 : w8.heap.size < w9.heap.size := by omega
  rcases (by omega : u % 3 = 0 ∨ u % 3 = 1 ∨ u % 3 = 2) with hu | hu | hu
  · go_wp2_with fail
    refine (barBar _ _ _ ⟨by omega, by omega, by omega⟩).mono ?_
    rintro e wt ⟨rfl, hbt⟩; obtain ⟨hct, hft⟩ := bcell hbt; have hzt := hbt.size; (try simp at hzt); have hyt : w.heap.size < wt.heap.size := (by omega); have hBt : Below w.heap.size w wt := below_step (by go_grown) hbt
    have gm : w9.heap.size + 1 < wt.heap.size := by omega
    have gm2 : w9.heap.size + 1 < wt.heap.size + 1 := by omega
    have gm3 : ¬ w9.heap.size + 1 = wt.heap.size := by omega
    have gm4 : ¬ w9.heap.size = wt.heap.size := by omega
    have gm5 : w9.heap.size < wt.heap.size := by omega
    have HE : Hid (∀ k : Nat, (k : Int) = 1 + b % 9 → ratioN k 2 = (ratioN (1 + b % 9) 2) ∧ ratioD k 2 = (ratioD (1 + b % 9) 2)) := fun k h => by rw [h]; exact ⟨rfl, rfl⟩
    generalize (ratioN (1 + b % 9) 2) = x at *
    generalize (ratioD (1 + b % 9) 2) = y at *
    go_wp2_with fail
    go_loopw [157] (fun i wr => ∃ k : Nat, k ≤ 9 ∧ (k : Int) ≤ 1 + b % 9 ∧ i = .int .i64 k ∧ Beat w (w9.heap.size + 1) wt.heap.size (wt.heap.size + 1) 2 x y k wr) (fun i _ => 9 - (intOf i).toNat)
    case atStart => exact ⟨0, by omega, by omega, rfl, by rw [(sum_zero 2 (by omega)).1]; go_simp, by rw [(sum_zero 2 (by omega)).2]; go_simp, by go_simp, by go_simp, by go_simp, by go_simp, by go_simp, by simp, by simp; omega, by simp; omega, by omega, by omega, by omega, by go_grown⟩
    case round =>
      obtain ⟨k, hk9, hkB, rfl, hs0, hs1, hF0, hF1, hm1, hk0, hk1, hS, hM, hK, nM, nK, hold, hBr⟩ := hrel
      clear hc1 hf1 hb1 hz1 hc2 hf2 hb2 hz2 hc3 hf3 hb3 hz3 hc4 hf4 hb4 hz4 hc5 hf5 hb5 hz5 hc6 hf6 hb6 hz6 hc7 hf7 hb7 hz7 hc8 hf8 hb8 hz8 hc9 hf9 hb9 hz9
      by_cases hlt : (k : Int) < 1 + b % 9
      · have JL := Lib.hid fun w => unitLen 2 w (by omega)
        have JA := Lib.hid fun w => sumAdd k 2 w (by omega) (by omega)
        generalize ratioN ((k : Nat) : Int) 2 = p at *
        generalize ratioD ((k : Nat) : Int) 2 = q at *
        generalize hp' : ratioN ((k + 1 : Nat) : Int) 2 = p' at *
        generalize hq' : ratioD ((k + 1 : Nat) : Int) 2 = q' at *
        have HP := Lib.hid hp'
        have HQ := Lib.hid hq'
        clear hp' hq'
        go_wp2_with fail
        refine (JL.out _).mono ?_
        rintro e wa ⟨rfl, hba⟩; obtain ⟨hca, hfa⟩ := bcell hba; have hza := hba.size; (try simp at hza)
        have hSa : (wt.heap.size + 1) < wa.heap.size := by omega
        have hMa : (w9.heap.size + 1) < wa.heap.size := by omega
        have hKa : wt.heap.size < wa.heap.size := by omega
        have hMb : w9.heap.size < wa.heap.size := by omega
        have hMn : ¬ w9.heap.size + 1 = wa.heap.size := by omega
        have hBa : Below w.heap.size w wa := hBr.trans (hba.mono hBr.size)
        go_wp2_with fail
        refine (JA.out _).mono ?_
        rintro e wc ⟨rfl, hbc⟩; obtain ⟨hcc, hfc⟩ := bcell hbc; have hzc := hbc.size; (try simp at hzc)
        have hBc : Below w.heap.size w wc := below_step (by go_grown) hbc
        have hSc : (wt.heap.size + 1) < wc.heap.size := by omega
        have hMc : (w9.heap.size + 1) < wc.heap.size := by omega
        have hKc : wt.heap.size < wc.heap.size := by omega
        go_wp2_with fail
        go_roundw
        case rel => exact ⟨k + 1, by omega, by omega, by go_num, by rw [HP.out]; go_simp, by rw [HQ.out]; go_simp, by go_simp, by go_simp, by go_simp, by go_simp, by go_simp, by simp; omega, by simp; omega, by simp; omega, nM, nK, hold, by go_grown⟩
        case measure => simp [intOf]; omega
      · obtain ⟨E1, E2⟩ := HE.out k (by omega)
        rw [E1] at hs0
        rw [E2] at hs1
        go_wp2_with fail
        refine (awake_c _).mono ?_
        rintro e wz ⟨rfl, hbz⟩
        go_wp2_with fail
        go_ret
        exact ⟨rfl, hBr.trans (hbz.mono hBr.size)⟩
  · go_wp2_with fail
    refine (barBar _ _ _ ⟨by omega, by omega, by omega⟩).mono ?_
    rintro e wt ⟨rfl, hbt⟩; obtain ⟨hct, hft⟩ := bcell hbt; have hzt := hbt.size; (try simp at hzt); have hyt : w.heap.size < wt.heap.size := (by omega); have hBt : Below w.heap.size w wt := below_step (by go_grown) hbt
    have gm : w9.heap.size + 1 < wt.heap.size := by omega
    have gm2 : w9.heap.size + 1 < wt.heap.size + 1 := by omega
    have gm3 : ¬ w9.heap.size + 1 = wt.heap.size := by omega
    have gm4 : ¬ w9.heap.size = wt.heap.size := by omega
    have gm5 : w9.heap.size < wt.heap.size := by omega
    have HE : Hid (∀ k : Nat, (k : Int) = 1 + b % 9 → ratioN k 4 = (ratioN (1 + b % 9) 4) ∧ ratioD k 4 = (ratioD (1 + b % 9) 4)) := fun k h => by rw [h]; exact ⟨rfl, rfl⟩
    generalize (ratioN (1 + b % 9) 4) = x at *
    generalize (ratioD (1 + b % 9) 4) = y at *
    go_wp2_with fail
    go_loopw [157] (fun i wr => ∃ k : Nat, k ≤ 9 ∧ (k : Int) ≤ 1 + b % 9 ∧ i = .int .i64 k ∧ Beat w (w9.heap.size + 1) wt.heap.size (wt.heap.size + 1) 4 x y k wr) (fun i _ => 9 - (intOf i).toNat)
    case atStart => exact ⟨0, by omega, by omega, rfl, by rw [(sum_zero 4 (by omega)).1]; go_simp, by rw [(sum_zero 4 (by omega)).2]; go_simp, by go_simp, by go_simp, by go_simp, by go_simp, by go_simp, by simp, by simp; omega, by simp; omega, by omega, by omega, by omega, by go_grown⟩
    case round =>
      obtain ⟨k, hk9, hkB, rfl, hs0, hs1, hF0, hF1, hm1, hk0, hk1, hS, hM, hK, nM, nK, hold, hBr⟩ := hrel
      clear hc1 hf1 hb1 hz1 hc2 hf2 hb2 hz2 hc3 hf3 hb3 hz3 hc4 hf4 hb4 hz4 hc5 hf5 hb5 hz5 hc6 hf6 hb6 hz6 hc7 hf7 hb7 hz7 hc8 hf8 hb8 hz8 hc9 hf9 hb9 hz9
      by_cases hlt : (k : Int) < 1 + b % 9
      · have JL := Lib.hid fun w => unitLen 4 w (by omega)
        have JA := Lib.hid fun w => sumAdd k 4 w (by omega) (by omega)
        generalize ratioN ((k : Nat) : Int) 4 = p at *
        generalize ratioD ((k : Nat) : Int) 4 = q at *
        generalize hp' : ratioN ((k + 1 : Nat) : Int) 4 = p' at *
        generalize hq' : ratioD ((k + 1 : Nat) : Int) 4 = q' at *
        have HP := Lib.hid hp'
        have HQ := Lib.hid hq'
        clear hp' hq'
        go_wp2_with fail
        refine (JL.out _).mono ?_
        rintro e wa ⟨rfl, hba⟩; obtain ⟨hca, hfa⟩ := bcell hba; have hza := hba.size; (try simp at hza)
        have hSa : (wt.heap.size + 1) < wa.heap.size := by omega
        have hMa : (w9.heap.size + 1) < wa.heap.size := by omega
        have hKa : wt.heap.size < wa.heap.size := by omega
        have hMb : w9.heap.size < wa.heap.size := by omega
        have hMn : ¬ w9.heap.size + 1 = wa.heap.size := by omega
        have hBa : Below w.heap.size w wa := hBr.trans (hba.mono hBr.size)
        go_wp2_with fail
        refine (JA.out _).mono ?_
        rintro e wc ⟨rfl, hbc⟩; obtain ⟨hcc, hfc⟩ := bcell hbc; have hzc := hbc.size; (try simp at hzc)
        have hBc : Below w.heap.size w wc := below_step (by go_grown) hbc
        have hSc : (wt.heap.size + 1) < wc.heap.size := by omega
        have hMc : (w9.heap.size + 1) < wc.heap.size := by omega
        have hKc : wt.heap.size < wc.heap.size := by omega
        go_wp2_with fail
        go_roundw
        case rel => exact ⟨k + 1, by omega, by omega, by go_num, by rw [HP.out]; go_simp, by rw [HQ.out]; go_simp, by go_simp, by go_simp, by go_simp, by go_simp, by go_simp, by simp; omega, by simp; omega, by simp; omega, nM, nK, hold, by go_grown⟩
        case measure => simp [intOf]; omega
      · obtain ⟨E1, E2⟩ := HE.out k (by omega)
        rw [E1] at hs0
        rw [E2] at hs1
        go_wp2_with fail
        refine (awake_c _).mono ?_
        rintro e wz ⟨rfl, hbz⟩
        go_wp2_with fail
        go_ret
        exact ⟨rfl, hBr.trans (hbz.mono hBr.size)⟩
  · go_wp2_with fail
    refine (barBar _ _ _ ⟨by omega, by omega, by omega⟩).mono ?_
    rintro e wt ⟨rfl, hbt⟩; obtain ⟨hct, hft⟩ := bcell hbt; have hzt := hbt.size; (try simp at hzt); have hyt : w.heap.size < wt.heap.size := (by omega); have hBt : Below w.heap.size w wt := below_step (by go_grown) hbt
    have gm : w9.heap.size + 1 < wt.heap.size := by omega
    have gm2 : w9.heap.size + 1 < wt.heap.size + 1 := by omega
    have gm3 : ¬ w9.heap.size + 1 = wt.heap.size := by omega
    have gm4 : ¬ w9.heap.size = wt.heap.size := by omega
    have gm5 : w9.heap.size < wt.heap.size := by omega
    have HE : Hid (∀ k : Nat, (k : Int) = 1 + b % 9 → ratioN k 8 = (ratioN (1 + b % 9) 8) ∧ ratioD k 8 = (ratioD (1 + b % 9) 8)) := fun k h => by rw [h]; exact ⟨rfl, rfl⟩
    generalize (ratioN (1 + b % 9) 8) = x at *
    generalize (ratioD (1 + b % 9) 8) = y at *
    go_wp2_with fail
    go_loopw [157] (fun i wr => ∃ k : Nat, k ≤ 9 ∧ (k : Int) ≤ 1 + b % 9 ∧ i = .int .i64 k ∧ Beat w (w9.heap.size + 1) wt.heap.size (wt.heap.size + 1) 8 x y k wr) (fun i _ => 9 - (intOf i).toNat)
    case atStart => exact ⟨0, by omega, by omega, rfl, by rw [(sum_zero 8 (by omega)).1]; go_simp, by rw [(sum_zero 8 (by omega)).2]; go_simp, by go_simp, by go_simp, by go_simp, by go_simp, by go_simp, by simp, by simp; omega, by simp; omega, by omega, by omega, by omega, by go_grown⟩
    case round =>
      obtain ⟨k, hk9, hkB, rfl, hs0, hs1, hF0, hF1, hm1, hk0, hk1, hS, hM, hK, nM, nK, hold, hBr⟩ := hrel
      clear hc1 hf1 hb1 hz1 hc2 hf2 hb2 hz2 hc3 hf3 hb3 hz3 hc4 hf4 hb4 hz4 hc5 hf5 hb5 hz5 hc6 hf6 hb6 hz6 hc7 hf7 hb7 hz7 hc8 hf8 hb8 hz8 hc9 hf9 hb9 hz9
      by_cases hlt : (k : Int) < 1 + b % 9
      · have JL := Lib.hid fun w => unitLen 8 w (by omega)
        have JA := Lib.hid fun w => sumAdd k 8 w (by omega) (by omega)
        generalize ratioN ((k : Nat) : Int) 8 = p at *
        generalize ratioD ((k : Nat) : Int) 8 = q at *
        generalize hp' : ratioN ((k + 1 : Nat) : Int) 8 = p' at *
        generalize hq' : ratioD ((k + 1 : Nat) : Int) 8 = q' at *
        have HP := Lib.hid hp'
        have HQ := Lib.hid hq'
        clear hp' hq'
        go_wp2_with fail
        refine (JL.out _).mono ?_
        rintro e wa ⟨rfl, hba⟩; obtain ⟨hca, hfa⟩ := bcell hba; have hza := hba.size; (try simp at hza)
        have hSa : (wt.heap.size + 1) < wa.heap.size := by omega
        have hMa : (w9.heap.size + 1) < wa.heap.size := by omega
        have hKa : wt.heap.size < wa.heap.size := by omega
        have hMb : w9.heap.size < wa.heap.size := by omega
        have hMn : ¬ w9.heap.size + 1 = wa.heap.size := by omega
        have hBa : Below w.heap.size w wa := hBr.trans (hba.mono hBr.size)
        go_wp2_with fail
        refine (JA.out _).mono ?_
        rintro e wc ⟨rfl, hbc⟩; obtain ⟨hcc, hfc⟩ := bcell hbc; have hzc := hbc.size; (try simp at hzc)
        have hBc : Below w.heap.size w wc := below_step (by go_grown) hbc
        have hSc : (wt.heap.size + 1) < wc.heap.size := by omega
        have hMc : (w9.heap.size + 1) < wc.heap.size := by omega
        have hKc : wt.heap.size < wc.heap.size := by omega
        go_wp2_with fail
        go_roundw
        case rel => exact ⟨k + 1, by omega, by omega, by go_num, by rw [HP.out]; go_simp, by rw [HQ.out]; go_simp, by go_simp, by go_simp, by go_simp, by go_simp, by go_simp, by simp; omega, by simp; omega, by simp; omega, nM, nK, hold, by go_grown⟩
        case measure => simp [intOf]; omega
      · obtain ⟨E1, E2⟩ := HE.out k (by omega)
        rw [E1] at hs0
        rw [E2] at hs1
        go_wp2_with fail
        refine (awake_c _).mono ?_
        rintro e wz ⟨rfl, hbz⟩
        go_wp2_with fail
        go_ret
        exact ⟨rfl, hBr.trans (hbz.mono hBr.size)⟩
theorem Lasts_walk (v b u : Int) (w : World) (hv : 0 ≤ v ∧ v ≤ 255) (hb : 0 ≤ b ∧ b ≤ 255) (hu : 0 ≤ u ∧ u ≤ 255) :
    Calls Tryd.prog 5 #[.int .u8 v, .int .u8 b, .int .u8 u] w fun e w' => e = .returned (.bool true) ∧ Below w.heap.size w w' := by
  rcases (by omega : v % 5 = 0 ∨ v % 5 = 1 ∨ v % 5 = 2 ∨ v % 5 = 3 ∨ v % 5 = 4) with h | h | h | h | h
  · exact Lasts_1 v b u w h hv.1 hv.2 hb.1 hb.2 hu.1 hu.2
  · exact Lasts_2 v b u w h hv.1 hv.2 hb.1 hb.2 hu.1 hu.2
  · exact Lasts_4 v b u w h hv.1 hv.2 hb.1 hb.2 hu.1 hu.2
  · exact Lasts_8 v b u w h hv.1 hv.2 hb.1 hb.2 hu.1 hu.2
  · exact Lasts_16 v b u w h hv.1 hv.2 hb.1 hb.2 hu.1 hu.2
end Go.Proofs.YtkhikdiaaiddaaaDoor
