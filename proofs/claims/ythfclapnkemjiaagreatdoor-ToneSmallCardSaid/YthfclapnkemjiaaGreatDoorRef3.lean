/-
  Contracts of Add, Sub, Mul, Div and Cmp of the reference: what they return is what package tone returns. Conditions: integers are of their type.
-/
import Derived.Test.YthfclapnkemjiaaGreatDoorRef2
namespace Go.Proofs.YthfclapnkemjiaaGreatDoor
open Go.RowKit

set_option maxRecDepth 100000 in
set_option maxHeartbeats 2000000 in
theorem rAdd_c (a b c d : Int) (w : World) (ha : i64P a) (hb : i64P b) (hc : i64P c) (hd : i64P d) :
    Calls Tryz.prog 19 #[.agg #[.int .i64 a, .int .i64 b], .agg #[.int .i64 c, .int .i64 d]] w fun e w' => e = .returned (fracV (validB a b && validB c d) (a * d + c * b) (b * d)) ∧ Below w.heap.size w w' := by
  have HX := Lib.hid fun w => rValid_c a b w ha hb
  have HY := Lib.hid fun w => rValid_c c d w hc hd
  cases hx : validB a b
  · rw [hx] at HX
    rw [Bool.false_and, fracV_false]
    clear HY hx ha hb hc hd
    go_enter Tryz.func19, Tryz.ntmps19
    go_wp2_with fail
    refine (HX.out _).mono ?_
    rintro e w1 ⟨rfl, hb1⟩; obtain ⟨hc1, hf1⟩ := bcell hb1; have hz1 := hb1.size; (try simp at hz1); have hy1 : w.heap.size < w1.heap.size := (by omega); have hy1_1 : w.heap.size + 1 < w1.heap.size := (by omega); have hy1_2 : w.heap.size + 2 < w1.heap.size := (by omega); have hB1 : Below w.heap.size w w1 := below_step (by go_grown) hb1
    go_wp2_with fail
    (try simp only [Exit.inBlock, Exit.then]); refine bodyPost_ret (by simp [results, Tryz.results19, go_sem, *]; try rfl) rfl ?_
    exact ⟨rfl, by go_grown⟩
  · cases hy : validB c d
    · rw [hx] at HX
      rw [hy] at HY
      rw [Bool.true_and, fracV_false]
      clear hx hy ha hb hc hd
      go_enter Tryz.func19, Tryz.ntmps19
      go_wp2_with fail
      refine (HX.out _).mono ?_
      rintro e w1 ⟨rfl, hb1⟩; obtain ⟨hc1, hf1⟩ := bcell hb1; have hz1 := hb1.size; (try simp at hz1); have hy1 : w.heap.size < w1.heap.size := (by omega); have hy1_1 : w.heap.size + 1 < w1.heap.size := (by omega); have hy1_2 : w.heap.size + 2 < w1.heap.size := (by omega); have hB1 : Below w.heap.size w w1 := below_step (by go_grown) hb1
      go_wp2_with fail
      refine (HY.out _).mono ?_
      rintro e w2 ⟨rfl, hb2⟩; obtain ⟨hc2, hf2⟩ := bcell hb2; have hz2 := hb2.size; (try simp at hz2); have hy2 : w.heap.size < w2.heap.size := (by omega); have hy2_1 : w.heap.size + 1 < w2.heap.size := (by omega); have hy2_2 : w.heap.size + 2 < w2.heap.size := (by omega); have hB2 : Below w.heap.size w w2 := below_step (by go_grown) hb2
      go_wp2_with fail
      (try simp only [Exit.inBlock, Exit.then]); refine bodyPost_ret (by simp [results, Tryz.results19, go_sem, *]; try rfl) rfl ?_
      exact ⟨rfl, by go_grown⟩
    · have hsx := validB_sm hx
      have hsy := validB_sm hy
      rw [hx] at HX
      rw [hy] at HY
      rw [Bool.true_and, fracV_true]
      obtain ⟨sa, sb, _⟩ := hsx
      obtain ⟨sc, sd, _⟩ := hsy
      have m1 := mul20 sa sd
      have m2 := mul20 sc sb
      have m3 := mul20 sb sd
      have m4 := mul20 sa sc
      have m5 := mul20 sb sc
      have e0 : wrap64 (a * d) = a * d := IntWalk.wrap64_in _ ⟨by omega, by omega⟩
      have e1 : wrap64 (c * b) = c * b := IntWalk.wrap64_in _ ⟨by omega, by omega⟩
      have e2 : wrap64 (b * d) = b * d := IntWalk.wrap64_in _ ⟨by omega, by omega⟩
      have e3 : wrap64 (a * d + c * b) = a * d + c * b := IntWalk.wrap64_in _ ⟨by omega, by omega⟩
      have HR := fun w => rRatio_c (a * d + c * b) (b * d) w (by unfold i64P; omega) (by unfold i64P; omega)
      have HV : Hid (ratioV (a * d + c * b) (b * d) = .tuple #[.agg #[.int .i64 (ratioN (a * d + c * b) (b * d)), .int .i64 (ratioD (a * d + c * b) (b * d))], .int .i64 (ratioE (a * d + c * b) (b * d))]) := rfl
      rw [HV.out] at HR ⊢
      generalize ratioN (a * d + c * b) (b * d) = x1 at *
      generalize ratioD (a * d + c * b) (b * d) = x2 at *
      generalize ratioE (a * d + c * b) (b * d) = x3 at *
      have HR := Lib.hid HR
      clear HV hx hy ha hb hc hd sa sb sc sd m1 m2 m3 m4 m5
      go_enter Tryz.func19, Tryz.ntmps19
      go_wp2_with fail
      refine (HX.out _).mono ?_
      rintro e w1 ⟨rfl, hb1⟩; obtain ⟨hc1, hf1⟩ := bcell hb1; have hz1 := hb1.size; (try simp at hz1); have hy1 : w.heap.size < w1.heap.size := (by omega); have hy1_1 : w.heap.size + 1 < w1.heap.size := (by omega); have hy1_2 : w.heap.size + 2 < w1.heap.size := (by omega); have hB1 : Below w.heap.size w w1 := below_step (by go_grown) hb1
      go_wp2_with fail
      refine (HY.out _).mono ?_
      rintro e w2 ⟨rfl, hb2⟩; obtain ⟨hc2, hf2⟩ := bcell hb2; have hz2 := hb2.size; (try simp at hz2); have hy2 : w.heap.size < w2.heap.size := (by omega); have hy2_1 : w.heap.size + 1 < w2.heap.size := (by omega); have hy2_2 : w.heap.size + 2 < w2.heap.size := (by omega); have hB2 : Below w.heap.size w w2 := below_step (by go_grown) hb2
      go_wp2_with fail
      refine (HR.out _).mono ?_
      rintro e w3 ⟨rfl, hb3⟩; obtain ⟨hc3, hf3⟩ := bcell hb3; have hz3 := hb3.size; (try simp at hz3); have hy3 : w.heap.size < w3.heap.size := (by omega); have hy3_1 : w.heap.size + 1 < w3.heap.size := (by omega); have hy3_2 : w.heap.size + 2 < w3.heap.size := (by omega); have hB3 : Below w.heap.size w w3 := below_step (by go_grown) hb3
      go_wp2_with fail
      (try simp only [Exit.inBlock, Exit.then]); refine bodyPost_ret (by simp [results, Tryz.results19, go_sem, *]; try rfl) rfl ?_
      exact ⟨rfl, by go_grown⟩
set_option maxRecDepth 100000 in
set_option maxHeartbeats 2000000 in
theorem rMul_c (a b c d : Int) (w : World) (ha : i64P a) (hb : i64P b) (hc : i64P c) (hd : i64P d) :
    Calls Tryz.prog 21 #[.agg #[.int .i64 a, .int .i64 b], .agg #[.int .i64 c, .int .i64 d]] w fun e w' => e = .returned (fracV (validB a b && validB c d) (a * c) (b * d)) ∧ Below w.heap.size w w' := by
  have HX := Lib.hid fun w => rValid_c a b w ha hb
  have HY := Lib.hid fun w => rValid_c c d w hc hd
  cases hx : validB a b
  · rw [hx] at HX
    rw [Bool.false_and, fracV_false]
    clear HY hx ha hb hc hd
    go_enter Tryz.func21, Tryz.ntmps21
    go_wp2_with fail
    refine (HX.out _).mono ?_
    rintro e w1 ⟨rfl, hb1⟩; obtain ⟨hc1, hf1⟩ := bcell hb1; have hz1 := hb1.size; (try simp at hz1); have hy1 : w.heap.size < w1.heap.size := (by omega); have hy1_1 : w.heap.size + 1 < w1.heap.size := (by omega); have hy1_2 : w.heap.size + 2 < w1.heap.size := (by omega); have hB1 : Below w.heap.size w w1 := below_step (by go_grown) hb1
    go_wp2_with fail
    (try simp only [Exit.inBlock, Exit.then]); refine bodyPost_ret (by simp [results, Tryz.results21, go_sem, *]; try rfl) rfl ?_
    exact ⟨rfl, by go_grown⟩
  · cases hy : validB c d
    · rw [hx] at HX
      rw [hy] at HY
      rw [Bool.true_and, fracV_false]
      clear hx hy ha hb hc hd
      go_enter Tryz.func21, Tryz.ntmps21
      go_wp2_with fail
      refine (HX.out _).mono ?_
      rintro e w1 ⟨rfl, hb1⟩; obtain ⟨hc1, hf1⟩ := bcell hb1; have hz1 := hb1.size; (try simp at hz1); have hy1 : w.heap.size < w1.heap.size := (by omega); have hy1_1 : w.heap.size + 1 < w1.heap.size := (by omega); have hy1_2 : w.heap.size + 2 < w1.heap.size := (by omega); have hB1 : Below w.heap.size w w1 := below_step (by go_grown) hb1
      go_wp2_with fail
      refine (HY.out _).mono ?_
      rintro e w2 ⟨rfl, hb2⟩; obtain ⟨hc2, hf2⟩ := bcell hb2; have hz2 := hb2.size; (try simp at hz2); have hy2 : w.heap.size < w2.heap.size := (by omega); have hy2_1 : w.heap.size + 1 < w2.heap.size := (by omega); have hy2_2 : w.heap.size + 2 < w2.heap.size := (by omega); have hB2 : Below w.heap.size w w2 := below_step (by go_grown) hb2
      go_wp2_with fail
      (try simp only [Exit.inBlock, Exit.then]); refine bodyPost_ret (by simp [results, Tryz.results21, go_sem, *]; try rfl) rfl ?_
      exact ⟨rfl, by go_grown⟩
    · have hsx := validB_sm hx
      have hsy := validB_sm hy
      rw [hx] at HX
      rw [hy] at HY
      rw [Bool.true_and, fracV_true]
      obtain ⟨sa, sb, _⟩ := hsx
      obtain ⟨sc, sd, _⟩ := hsy
      have m1 := mul20 sa sd
      have m2 := mul20 sc sb
      have m3 := mul20 sb sd
      have m4 := mul20 sa sc
      have m5 := mul20 sb sc
      have e0 : wrap64 (a * c) = a * c := IntWalk.wrap64_in _ ⟨by omega, by omega⟩
      have e1 : wrap64 (b * d) = b * d := IntWalk.wrap64_in _ ⟨by omega, by omega⟩
      have HR := fun w => rRatio_c (a * c) (b * d) w (by unfold i64P; omega) (by unfold i64P; omega)
      have HV : Hid (ratioV (a * c) (b * d) = .tuple #[.agg #[.int .i64 (ratioN (a * c) (b * d)), .int .i64 (ratioD (a * c) (b * d))], .int .i64 (ratioE (a * c) (b * d))]) := rfl
      rw [HV.out] at HR ⊢
      generalize ratioN (a * c) (b * d) = x1 at *
      generalize ratioD (a * c) (b * d) = x2 at *
      generalize ratioE (a * c) (b * d) = x3 at *
      have HR := Lib.hid HR
      clear HV hx hy ha hb hc hd sa sb sc sd m1 m2 m3 m4 m5
      go_enter Tryz.func21, Tryz.ntmps21
      go_wp2_with fail
      refine (HX.out _).mono ?_
      rintro e w1 ⟨rfl, hb1⟩; obtain ⟨hc1, hf1⟩ := bcell hb1; have hz1 := hb1.size; (try simp at hz1); have hy1 : w.heap.size < w1.heap.size := (by omega); have hy1_1 : w.heap.size + 1 < w1.heap.size := (by omega); have hy1_2 : w.heap.size + 2 < w1.heap.size := (by omega); have hB1 : Below w.heap.size w w1 := below_step (by go_grown) hb1
      go_wp2_with fail
      refine (HY.out _).mono ?_
      rintro e w2 ⟨rfl, hb2⟩; obtain ⟨hc2, hf2⟩ := bcell hb2; have hz2 := hb2.size; (try simp at hz2); have hy2 : w.heap.size < w2.heap.size := (by omega); have hy2_1 : w.heap.size + 1 < w2.heap.size := (by omega); have hy2_2 : w.heap.size + 2 < w2.heap.size := (by omega); have hB2 : Below w.heap.size w w2 := below_step (by go_grown) hb2
      go_wp2_with fail
      refine (HR.out _).mono ?_
      rintro e w3 ⟨rfl, hb3⟩; obtain ⟨hc3, hf3⟩ := bcell hb3; have hz3 := hb3.size; (try simp at hz3); have hy3 : w.heap.size < w3.heap.size := (by omega); have hy3_1 : w.heap.size + 1 < w3.heap.size := (by omega); have hy3_2 : w.heap.size + 2 < w3.heap.size := (by omega); have hB3 : Below w.heap.size w w3 := below_step (by go_grown) hb3
      go_wp2_with fail
      (try simp only [Exit.inBlock, Exit.then]); refine bodyPost_ret (by simp [results, Tryz.results21, go_sem, *]; try rfl) rfl ?_
      exact ⟨rfl, by go_grown⟩
set_option maxRecDepth 100000 in
set_option maxHeartbeats 2000000 in
theorem rDiv_c (a b c d : Int) (w : World) (ha : i64P a) (hb : i64P b) (hc : i64P c) (hd : i64P d) :
    Calls Tryz.prog 22 #[.agg #[.int .i64 a, .int .i64 b], .agg #[.int .i64 c, .int .i64 d]] w fun e w' => e = .returned (fracV (validB a b && validB c d) (a * d) (b * c)) ∧ Below w.heap.size w w' := by
  have HX := Lib.hid fun w => rValid_c a b w ha hb
  have HY := Lib.hid fun w => rValid_c c d w hc hd
  cases hx : validB a b
  · rw [hx] at HX
    rw [Bool.false_and, fracV_false]
    clear HY hx ha hb hc hd
    go_enter Tryz.func22, Tryz.ntmps22
    go_wp2_with fail
    refine (HX.out _).mono ?_
    rintro e w1 ⟨rfl, hb1⟩; obtain ⟨hc1, hf1⟩ := bcell hb1; have hz1 := hb1.size; (try simp at hz1); have hy1 : w.heap.size < w1.heap.size := (by omega); have hy1_1 : w.heap.size + 1 < w1.heap.size := (by omega); have hy1_2 : w.heap.size + 2 < w1.heap.size := (by omega); have hB1 : Below w.heap.size w w1 := below_step (by go_grown) hb1
    go_wp2_with fail
    (try simp only [Exit.inBlock, Exit.then]); refine bodyPost_ret (by simp [results, Tryz.results22, go_sem, *]; try rfl) rfl ?_
    exact ⟨rfl, by go_grown⟩
  · cases hy : validB c d
    · rw [hx] at HX
      rw [hy] at HY
      rw [Bool.true_and, fracV_false]
      clear hx hy ha hb hc hd
      go_enter Tryz.func22, Tryz.ntmps22
      go_wp2_with fail
      refine (HX.out _).mono ?_
      rintro e w1 ⟨rfl, hb1⟩; obtain ⟨hc1, hf1⟩ := bcell hb1; have hz1 := hb1.size; (try simp at hz1); have hy1 : w.heap.size < w1.heap.size := (by omega); have hy1_1 : w.heap.size + 1 < w1.heap.size := (by omega); have hy1_2 : w.heap.size + 2 < w1.heap.size := (by omega); have hB1 : Below w.heap.size w w1 := below_step (by go_grown) hb1
      go_wp2_with fail
      refine (HY.out _).mono ?_
      rintro e w2 ⟨rfl, hb2⟩; obtain ⟨hc2, hf2⟩ := bcell hb2; have hz2 := hb2.size; (try simp at hz2); have hy2 : w.heap.size < w2.heap.size := (by omega); have hy2_1 : w.heap.size + 1 < w2.heap.size := (by omega); have hy2_2 : w.heap.size + 2 < w2.heap.size := (by omega); have hB2 : Below w.heap.size w w2 := below_step (by go_grown) hb2
      go_wp2_with fail
      (try simp only [Exit.inBlock, Exit.then]); refine bodyPost_ret (by simp [results, Tryz.results22, go_sem, *]; try rfl) rfl ?_
      exact ⟨rfl, by go_grown⟩
    · have hsx := validB_sm hx
      have hsy := validB_sm hy
      rw [hx] at HX
      rw [hy] at HY
      rw [Bool.true_and, fracV_true]
      obtain ⟨sa, sb, _⟩ := hsx
      obtain ⟨sc, sd, _⟩ := hsy
      have m1 := mul20 sa sd
      have m2 := mul20 sc sb
      have m3 := mul20 sb sd
      have m4 := mul20 sa sc
      have m5 := mul20 sb sc
      have e0 : wrap64 (a * d) = a * d := IntWalk.wrap64_in _ ⟨by omega, by omega⟩
      have e1 : wrap64 (b * c) = b * c := IntWalk.wrap64_in _ ⟨by omega, by omega⟩
      have HR := fun w => rRatio_c (a * d) (b * c) w (by unfold i64P; omega) (by unfold i64P; omega)
      have HV : Hid (ratioV (a * d) (b * c) = .tuple #[.agg #[.int .i64 (ratioN (a * d) (b * c)), .int .i64 (ratioD (a * d) (b * c))], .int .i64 (ratioE (a * d) (b * c))]) := rfl
      rw [HV.out] at HR ⊢
      generalize ratioN (a * d) (b * c) = x1 at *
      generalize ratioD (a * d) (b * c) = x2 at *
      generalize ratioE (a * d) (b * c) = x3 at *
      have HR := Lib.hid HR
      clear HV hx hy ha hb hc hd sa sb sc sd m1 m2 m3 m4 m5
      go_enter Tryz.func22, Tryz.ntmps22
      go_wp2_with fail
      refine (HX.out _).mono ?_
      rintro e w1 ⟨rfl, hb1⟩; obtain ⟨hc1, hf1⟩ := bcell hb1; have hz1 := hb1.size; (try simp at hz1); have hy1 : w.heap.size < w1.heap.size := (by omega); have hy1_1 : w.heap.size + 1 < w1.heap.size := (by omega); have hy1_2 : w.heap.size + 2 < w1.heap.size := (by omega); have hB1 : Below w.heap.size w w1 := below_step (by go_grown) hb1
      go_wp2_with fail
      refine (HY.out _).mono ?_
      rintro e w2 ⟨rfl, hb2⟩; obtain ⟨hc2, hf2⟩ := bcell hb2; have hz2 := hb2.size; (try simp at hz2); have hy2 : w.heap.size < w2.heap.size := (by omega); have hy2_1 : w.heap.size + 1 < w2.heap.size := (by omega); have hy2_2 : w.heap.size + 2 < w2.heap.size := (by omega); have hB2 : Below w.heap.size w w2 := below_step (by go_grown) hb2
      go_wp2_with fail
      refine (HR.out _).mono ?_
      rintro e w3 ⟨rfl, hb3⟩; obtain ⟨hc3, hf3⟩ := bcell hb3; have hz3 := hb3.size; (try simp at hz3); have hy3 : w.heap.size < w3.heap.size := (by omega); have hy3_1 : w.heap.size + 1 < w3.heap.size := (by omega); have hy3_2 : w.heap.size + 2 < w3.heap.size := (by omega); have hB3 : Below w.heap.size w w3 := below_step (by go_grown) hb3
      go_wp2_with fail
      (try simp only [Exit.inBlock, Exit.then]); refine bodyPost_ret (by simp [results, Tryz.results22, go_sem, *]; try rfl) rfl ?_
      exact ⟨rfl, by go_grown⟩
end Go.Proofs.YthfclapnkemjiaaGreatDoor
