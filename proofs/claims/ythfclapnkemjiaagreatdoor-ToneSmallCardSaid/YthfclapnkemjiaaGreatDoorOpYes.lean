/-
  Contracts of operation.do and of Add, Sub, Mul, Div of package tone. Conditions: as the premises say; integers are of their type.
-/
import Derived.Test.YthfclapnkemjiaaGreatDoorOp
namespace Go.Proofs.YthfclapnkemjiaaGreatDoor
open Go.RowKit

/-- what an operation returns: v says whether both fractions are valid -/
def fracN (v : Bool) (n d : Int) : Int := if v = true then ratioN n d else 0
def fracD (v : Bool) (n d : Int) : Int := if v = true then ratioD n d else 0
def fracE (v : Bool) (n d : Int) : Int := if v = true then ratioE n d else 1
def fracV (v : Bool) (n d : Int) : Value := .tuple #[.agg #[.int .i64 (fracN v n d), .int .i64 (fracD v n d)], .int .i64 (fracE v n d)]
theorem fracV_true (n d : Int) : fracV true n d = ratioV n d := rfl
theorem fracV_false (n d : Int) : fracV false n d = .tuple #[.agg #[.int .i64 0, .int .i64 0], .int .i64 1] := rfl
set_option maxRecDepth 100000 in
set_option maxHeartbeats 4000000 in
theorem do_cross (way a b c d : Int) (cb : Nat) (w : World) (hcw : w.cell? ⟨cb, 0, none⟩ = some (.int .i64 way)) (hcb : cb < w.heap.size) (hw : way = 1 ∨ way = -1) (v1 : validB a b = true) (v2 : validB c d = true) :
    Calls Tryz.prog 64 #[.agg #[.func (.func 96) #[] #[.pointer (some ⟨cb, 0, none⟩)], .func (.func 63) #[] #[]], .agg #[.int .i64 a, .int .i64 b], .agg #[.int .i64 c, .int .i64 d]] w
      fun e w' => e = .returned (ratioV (a * d + way * c * b) (b * d)) ∧ Below w.heap.size w w' := by
  obtain ⟨sa, sb, pb⟩ := validB_sm v1
  obtain ⟨sc, sd, pd⟩ := validB_sm v2
  have H1 := Lib.hid fun w => valid_c a b w (by unfold sm at *; omega) (by unfold sm at *; omega) (by unfold sm at *; omega) (by unfold sm at *; omega)
  have H2 := Lib.hid fun w => valid_c c d w (by unfold sm at *; omega) (by unfold sm at *; omega) (by unfold sm at *; omega) (by unfold sm at *; omega)
  rw [v1] at H1
  rw [v2] at H2
  have HC := Lib.hid fun w hc hb => cross1_c way a b c d cb w hc hb hw sa sb sc sd
  have HB := Lib.hid fun w => bottom_c a b c d w sb sd
  have h1 := mul20 sa sd
  have h2 : -1048576 ≤ way * c ∧ way * c ≤ 1048576 := by unfold sm at sc; rcases hw with rfl | rfl <;> omega
  have h3 := mul20 h2 sb
  have h4 := mul20 sb sd
  have HR := Lib.hid fun w => Ratio_c (a * d + way * c * b) (b * d) w (by omega) (by omega) (by omega) (by omega)
  have HV : Hid (ratioV (a * d + way * c * b) (b * d) = .tuple #[.agg #[.int .i64 (ratioN (a * d + way * c * b) (b * d)), .int .i64 (ratioD (a * d + way * c * b) (b * d))], .int .i64 (ratioE (a * d + way * c * b) (b * d))]) := rfl
  generalize a * d + way * c * b = n at *
  generalize b * d = m at *
  rw [HV.out] at HR ⊢
  generalize ratioN n m = rn at *
  generalize ratioD n m = rd at *
  generalize ratioE n m = re at *
  clear h1 h2 h3 h4 hw sa sb pb sc sd pd v1 v2 HV
  go_enter Tryz.func64, Tryz.ntmps64
  go_wp2_with fail
  refine (H1.out _).mono ?_
  rintro e w1 ⟨rfl, hb1⟩; obtain ⟨hc1, hf1⟩ := bcell hb1; have hz1 := hb1.size; (try simp at hz1); have hy1 : w.heap.size < w1.heap.size := (by omega); have hy1_1 : w.heap.size + 1 < w1.heap.size := (by omega); have hy1_2 : w.heap.size + 2 < w1.heap.size := (by omega); have hy1_3 : w.heap.size + 3 < w1.heap.size := (by omega); have hB1 : Below w.heap.size w w1 := below_step (by go_grown) hb1
  go_wp2_with fail
  refine (H2.out _).mono ?_
  rintro e w2 ⟨rfl, hb2⟩; obtain ⟨hc2, hf2⟩ := bcell hb2; have hz2 := hb2.size; (try simp at hz2); have hy2 : w.heap.size < w2.heap.size := (by omega); have hy2_1 : w.heap.size + 1 < w2.heap.size := (by omega); have hy2_2 : w.heap.size + 2 < w2.heap.size := (by omega); have hy2_3 : w.heap.size + 3 < w2.heap.size := (by omega); have hB2 : Below w.heap.size w w2 := below_step (by go_grown) hb2
  go_wp2_with fail
  have k0 : w2.cell? ⟨w.heap.size, 0, none⟩ = some (.func (.func 96) #[] #[.pointer (some ⟨cb, 0, none⟩)]) := by go_simp
  have k1 : w2.cell? ⟨w.heap.size, 1, none⟩ = some (.func (.func 63) #[] #[]) := by go_simp
  have k2 : w2.cell? ⟨w.heap.size + 1, 0, none⟩ = some (.int .i64 a) := by go_simp
  have k3 : w2.cell? ⟨w.heap.size + 1, 1, none⟩ = some (.int .i64 b) := by go_simp
  have k4 : w2.cell? ⟨w.heap.size + 2, 0, none⟩ = some (.int .i64 c) := by go_simp
  have k5 : w2.cell? ⟨w.heap.size + 2, 1, none⟩ = some (.int .i64 d) := by go_simp
  have k6 : w2.cell? ⟨w.heap.size + 3, 0, none⟩ = some (.int .i64 0) := by go_simp
  have k7 : w2.cell? ⟨w.heap.size + 3, 1, none⟩ = some (.int .i64 0) := by go_simp
  have k8 : w2.frozen? ⟨w.heap.size + 3, 0, none⟩ = false := by go_simp
  have k9 : w2.frozen? ⟨w.heap.size + 3, 1, none⟩ = false := by go_simp
  have kc : w2.cell? ⟨cb, 0, none⟩ = some (.int .i64 way) := by rw [hB2.cell (p := ⟨cb, 0, none⟩) hcb]; exact hcw
  have kb : cb < w2.heap.size := by omega
  have kn : cb ≠ w.heap.size + 3 := by omega
  clear hc1 hc2 hf1 hf2 hb1 hb2 hB1 hz1 hz2
  go_region_held3 (fun w' => Sc w2 (w.heap.size + 3) w')
    (first | exact Sc_drew (by assumption) (by assumption) (by assumption) (by assumption) | exact Sc_call (by assumption) (by assumption) (by assumption) | exact Sc_set (Sc_set (by assumption) _) _ | exact Sc_set (by assumption) _)
    (first
      | (go_at_call 96; have hh : Sc w2 (w.heap.size + 3) _ := (by assumption); refine (HC.out _ (by rw [hh.1 _ _ kb kn]; exact kc) (Nat.lt_of_lt_of_le kb hh.2.1.size)).mono ?_; rintro e w3 ⟨rfl, hb3⟩)
      | (go_at_call 63; refine (HB.out _).mono ?_; rintro e w4 ⟨rfl, hb4⟩)
      | (go_at_call 23; refine (HR.out _).mono ?_; rintro e w5 ⟨rfl, hb5⟩; obtain ⟨u5, v5, c50, c51, f50, f51⟩ := Sc_open (Sc_call (by assumption : Sc w2 (w.heap.size + 3) _) (by omega) hb5)))
  go_wp2
  (try simp only [Exit.inBlock, Exit.then]); refine bodyPost_ret (by simp [results, Tryz.results64, go_sem, *]; try rfl) rfl ?_
  exact ⟨rfl, Sc_below (W := w2) (B := w.heap.size + 3) (by assumption) hB2 (by omega)⟩
theorem do_cross_any (way a b c d : Int) (cb : Nat) (w : World) (hcw : w.cell? ⟨cb, 0, none⟩ = some (.int .i64 way)) (hcb : cb < w.heap.size) (hw : way = 1 ∨ way = -1) (ha : i64P a) (hb : i64P b) (hc : i64P c) (hd : i64P d) :
    Calls Tryz.prog 64 #[.agg #[.func (.func 96) #[] #[.pointer (some ⟨cb, 0, none⟩)], .func (.func 63) #[] #[]], .agg #[.int .i64 a, .int .i64 b], .agg #[.int .i64 c, .int .i64 d]] w
      fun e w' => e = .returned (fracV (validB a b && validB c d) (a * d + way * c * b) (b * d)) ∧ Below w.heap.size w w' := by
  cases h1 : validB a b with
  | false => exact do_no _ a b c d _ _ rfl w ha.1 ha.2 hb.1 hb.2 hc.1 hc.2 hd.1 hd.2 (.inl h1)
  | true =>
    cases h2 : validB c d with
    | false => exact do_no _ a b c d _ _ rfl w ha.1 ha.2 hb.1 hb.2 hc.1 hc.2 hd.1 hd.2 (.inr h2)
    | true => exact do_cross way a b c d cb w hcw hcb hw h1 h2
set_option maxRecDepth 100000 in
set_option maxHeartbeats 4000000 in
theorem do_mul (a b c d : Int) (w : World) (v1 : validB a b = true) (v2 : validB c d = true) :
    Calls Tryz.prog 64 #[.agg #[.func (.func 65) #[] #[], .func (.func 63) #[] #[]], .agg #[.int .i64 a, .int .i64 b], .agg #[.int .i64 c, .int .i64 d]] w
      fun e w' => e = .returned (ratioV (a * c) (b * d)) ∧ Below w.heap.size w w' := by
  obtain ⟨sa, sb, pb⟩ := validB_sm v1
  obtain ⟨sc, sd, pd⟩ := validB_sm v2
  have H1 := Lib.hid fun w => valid_c a b w (by unfold sm at *; omega) (by unfold sm at *; omega) (by unfold sm at *; omega) (by unfold sm at *; omega)
  have H2 := Lib.hid fun w => valid_c c d w (by unfold sm at *; omega) (by unfold sm at *; omega) (by unfold sm at *; omega) (by unfold sm at *; omega)
  rw [v1] at H1
  rw [v2] at H2
  have HC := Lib.hid fun w => mul1_c a b c d w sa sc
  have HB := Lib.hid fun w => bottom_c a b c d w sb sd
  have h1 := mul20 sa sc
  have h2 := mul20 sb sd
  have HR := Lib.hid fun w => Ratio_c (a * c) (b * d) w (by omega) (by omega) (by omega) (by omega)
  have HV : Hid (ratioV (a * c) (b * d) = .tuple #[.agg #[.int .i64 (ratioN (a * c) (b * d)), .int .i64 (ratioD (a * c) (b * d))], .int .i64 (ratioE (a * c) (b * d))]) := rfl
  generalize a * c = n at *
  generalize b * d = m at *
  rw [HV.out] at HR ⊢
  generalize ratioN n m = rn at *
  generalize ratioD n m = rd at *
  generalize ratioE n m = re at *
  clear h1 h2 sa sb pb sc sd pd v1 v2 HV
  go_enter Tryz.func64, Tryz.ntmps64
  go_wp2_with fail
  refine (H1.out _).mono ?_
  rintro e w1 ⟨rfl, hb1⟩; obtain ⟨hc1, hf1⟩ := bcell hb1; have hz1 := hb1.size; (try simp at hz1); have hy1 : w.heap.size < w1.heap.size := (by omega); have hy1_1 : w.heap.size + 1 < w1.heap.size := (by omega); have hy1_2 : w.heap.size + 2 < w1.heap.size := (by omega); have hy1_3 : w.heap.size + 3 < w1.heap.size := (by omega); have hB1 : Below w.heap.size w w1 := below_step (by go_grown) hb1
  go_wp2_with fail
  refine (H2.out _).mono ?_
  rintro e w2 ⟨rfl, hb2⟩; obtain ⟨hc2, hf2⟩ := bcell hb2; have hz2 := hb2.size; (try simp at hz2); have hy2 : w.heap.size < w2.heap.size := (by omega); have hy2_1 : w.heap.size + 1 < w2.heap.size := (by omega); have hy2_2 : w.heap.size + 2 < w2.heap.size := (by omega); have hy2_3 : w.heap.size + 3 < w2.heap.size := (by omega); have hB2 : Below w.heap.size w w2 := below_step (by go_grown) hb2
  go_wp2_with fail
  have k0 : w2.cell? ⟨w.heap.size, 0, none⟩ = some (.func (.func 65) #[] #[]) := by go_simp
  have k1 : w2.cell? ⟨w.heap.size, 1, none⟩ = some (.func (.func 63) #[] #[]) := by go_simp
  have k2 : w2.cell? ⟨w.heap.size + 1, 0, none⟩ = some (.int .i64 a) := by go_simp
  have k3 : w2.cell? ⟨w.heap.size + 1, 1, none⟩ = some (.int .i64 b) := by go_simp
  have k4 : w2.cell? ⟨w.heap.size + 2, 0, none⟩ = some (.int .i64 c) := by go_simp
  have k5 : w2.cell? ⟨w.heap.size + 2, 1, none⟩ = some (.int .i64 d) := by go_simp
  have k6 : w2.cell? ⟨w.heap.size + 3, 0, none⟩ = some (.int .i64 0) := by go_simp
  have k7 : w2.cell? ⟨w.heap.size + 3, 1, none⟩ = some (.int .i64 0) := by go_simp
  have k8 : w2.frozen? ⟨w.heap.size + 3, 0, none⟩ = false := by go_simp
  have k9 : w2.frozen? ⟨w.heap.size + 3, 1, none⟩ = false := by go_simp
  clear hc1 hc2 hf1 hf2 hb1 hb2 hB1 hz1 hz2
  go_region_held3 (fun w' => Sc w2 (w.heap.size + 3) w')
    (first | exact Sc_drew (by assumption) (by assumption) (by assumption) (by assumption) | exact Sc_call (by assumption) (by assumption) (by assumption) | exact Sc_set (Sc_set (by assumption) _) _ | exact Sc_set (by assumption) _)
    (first
      | (go_at_call 65; refine (HC.out _).mono ?_; rintro e w3 ⟨rfl, hb3⟩)
      | (go_at_call 63; refine (HB.out _).mono ?_; rintro e w4 ⟨rfl, hb4⟩)
      | (go_at_call 23; refine (HR.out _).mono ?_; rintro e w5 ⟨rfl, hb5⟩; obtain ⟨u5, v5, c50, c51, f50, f51⟩ := Sc_open (Sc_call (by assumption : Sc w2 (w.heap.size + 3) _) (by omega) hb5)))
  go_wp2
  (try simp only [Exit.inBlock, Exit.then]); refine bodyPost_ret (by simp [results, Tryz.results64, go_sem, *]; try rfl) rfl ?_
  exact ⟨rfl, Sc_below (W := w2) (B := w.heap.size + 3) (by assumption) hB2 (by omega)⟩
theorem do_mul_any (a b c d : Int) (w : World) (ha : i64P a) (hb : i64P b) (hc : i64P c) (hd : i64P d) :
    Calls Tryz.prog 64 #[.agg #[.func (.func 65) #[] #[], .func (.func 63) #[] #[]], .agg #[.int .i64 a, .int .i64 b], .agg #[.int .i64 c, .int .i64 d]] w
      fun e w' => e = .returned (fracV (validB a b && validB c d) (a * c) (b * d)) ∧ Below w.heap.size w w' := by
  cases h1 : validB a b with
  | false => exact do_no _ a b c d _ _ rfl w ha.1 ha.2 hb.1 hb.2 hc.1 hc.2 hd.1 hd.2 (.inl h1)
  | true =>
    cases h2 : validB c d with
    | false => exact do_no _ a b c d _ _ rfl w ha.1 ha.2 hb.1 hb.2 hc.1 hc.2 hd.1 hd.2 (.inr h2)
    | true => exact do_mul a b c d w h1 h2
set_option maxRecDepth 100000 in
set_option maxHeartbeats 4000000 in
theorem do_div (a b c d : Int) (w : World) (v1 : validB a b = true) (v2 : validB c d = true) :
    Calls Tryz.prog 64 #[.agg #[.func (.func 66) #[] #[], .func (.func 67) #[] #[]], .agg #[.int .i64 a, .int .i64 b], .agg #[.int .i64 c, .int .i64 d]] w
      fun e w' => e = .returned (ratioV (a * d) (b * c)) ∧ Below w.heap.size w w' := by
  obtain ⟨sa, sb, pb⟩ := validB_sm v1
  obtain ⟨sc, sd, pd⟩ := validB_sm v2
  have H1 := Lib.hid fun w => valid_c a b w (by unfold sm at *; omega) (by unfold sm at *; omega) (by unfold sm at *; omega) (by unfold sm at *; omega)
  have H2 := Lib.hid fun w => valid_c c d w (by unfold sm at *; omega) (by unfold sm at *; omega) (by unfold sm at *; omega) (by unfold sm at *; omega)
  rw [v1] at H1
  rw [v2] at H2
  have HC := Lib.hid fun w => div1_c a b c d w sa sd
  have HB := Lib.hid fun w => div2_c a b c d w sb sc
  have h1 := mul20 sa sd
  have h2 := mul20 sb sc
  have HR := Lib.hid fun w => Ratio_c (a * d) (b * c) w (by omega) (by omega) (by omega) (by omega)
  have HV : Hid (ratioV (a * d) (b * c) = .tuple #[.agg #[.int .i64 (ratioN (a * d) (b * c)), .int .i64 (ratioD (a * d) (b * c))], .int .i64 (ratioE (a * d) (b * c))]) := rfl
  generalize a * d = n at *
  generalize b * c = m at *
  rw [HV.out] at HR ⊢
  generalize ratioN n m = rn at *
  generalize ratioD n m = rd at *
  generalize ratioE n m = re at *
  clear h1 h2 sa sb pb sc sd pd v1 v2 HV
  go_enter Tryz.func64, Tryz.ntmps64
  go_wp2_with fail
  refine (H1.out _).mono ?_
  rintro e w1 ⟨rfl, hb1⟩; obtain ⟨hc1, hf1⟩ := bcell hb1; have hz1 := hb1.size; (try simp at hz1); have hy1 : w.heap.size < w1.heap.size := (by omega); have hy1_1 : w.heap.size + 1 < w1.heap.size := (by omega); have hy1_2 : w.heap.size + 2 < w1.heap.size := (by omega); have hy1_3 : w.heap.size + 3 < w1.heap.size := (by omega); have hB1 : Below w.heap.size w w1 := below_step (by go_grown) hb1
  go_wp2_with fail
  refine (H2.out _).mono ?_
  rintro e w2 ⟨rfl, hb2⟩; obtain ⟨hc2, hf2⟩ := bcell hb2; have hz2 := hb2.size; (try simp at hz2); have hy2 : w.heap.size < w2.heap.size := (by omega); have hy2_1 : w.heap.size + 1 < w2.heap.size := (by omega); have hy2_2 : w.heap.size + 2 < w2.heap.size := (by omega); have hy2_3 : w.heap.size + 3 < w2.heap.size := (by omega); have hB2 : Below w.heap.size w w2 := below_step (by go_grown) hb2
  go_wp2_with fail
  have k0 : w2.cell? ⟨w.heap.size, 0, none⟩ = some (.func (.func 66) #[] #[]) := by go_simp
  have k1 : w2.cell? ⟨w.heap.size, 1, none⟩ = some (.func (.func 67) #[] #[]) := by go_simp
  have k2 : w2.cell? ⟨w.heap.size + 1, 0, none⟩ = some (.int .i64 a) := by go_simp
  have k3 : w2.cell? ⟨w.heap.size + 1, 1, none⟩ = some (.int .i64 b) := by go_simp
  have k4 : w2.cell? ⟨w.heap.size + 2, 0, none⟩ = some (.int .i64 c) := by go_simp
  have k5 : w2.cell? ⟨w.heap.size + 2, 1, none⟩ = some (.int .i64 d) := by go_simp
  have k6 : w2.cell? ⟨w.heap.size + 3, 0, none⟩ = some (.int .i64 0) := by go_simp
  have k7 : w2.cell? ⟨w.heap.size + 3, 1, none⟩ = some (.int .i64 0) := by go_simp
  have k8 : w2.frozen? ⟨w.heap.size + 3, 0, none⟩ = false := by go_simp
  have k9 : w2.frozen? ⟨w.heap.size + 3, 1, none⟩ = false := by go_simp
  clear hc1 hc2 hf1 hf2 hb1 hb2 hB1 hz1 hz2
  go_region_held3 (fun w' => Sc w2 (w.heap.size + 3) w')
    (first | exact Sc_drew (by assumption) (by assumption) (by assumption) (by assumption) | exact Sc_call (by assumption) (by assumption) (by assumption) | exact Sc_set (Sc_set (by assumption) _) _ | exact Sc_set (by assumption) _)
    (first
      | (go_at_call 66; refine (HC.out _).mono ?_; rintro e w3 ⟨rfl, hb3⟩)
      | (go_at_call 67; refine (HB.out _).mono ?_; rintro e w4 ⟨rfl, hb4⟩)
      | (go_at_call 23; refine (HR.out _).mono ?_; rintro e w5 ⟨rfl, hb5⟩; obtain ⟨u5, v5, c50, c51, f50, f51⟩ := Sc_open (Sc_call (by assumption : Sc w2 (w.heap.size + 3) _) (by omega) hb5)))
  go_wp2
  (try simp only [Exit.inBlock, Exit.then]); refine bodyPost_ret (by simp [results, Tryz.results64, go_sem, *]; try rfl) rfl ?_
  exact ⟨rfl, Sc_below (W := w2) (B := w.heap.size + 3) (by assumption) hB2 (by omega)⟩
theorem do_div_any (a b c d : Int) (w : World) (ha : i64P a) (hb : i64P b) (hc : i64P c) (hd : i64P d) :
    Calls Tryz.prog 64 #[.agg #[.func (.func 66) #[] #[], .func (.func 67) #[] #[]], .agg #[.int .i64 a, .int .i64 b], .agg #[.int .i64 c, .int .i64 d]] w
      fun e w' => e = .returned (fracV (validB a b && validB c d) (a * d) (b * c)) ∧ Below w.heap.size w w' := by
  cases h1 : validB a b with
  | false => exact do_no _ a b c d _ _ rfl w ha.1 ha.2 hb.1 hb.2 hc.1 hc.2 hd.1 hd.2 (.inl h1)
  | true =>
    cases h2 : validB c d with
    | false => exact do_no _ a b c d _ _ rfl w ha.1 ha.2 hb.1 hb.2 hc.1 hc.2 hd.1 hd.2 (.inr h2)
    | true => exact do_div a b c d w h1 h2
end Go.Proofs.YthfclapnkemjiaaGreatDoor
