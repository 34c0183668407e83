/-
  Contracts of tone.Cmp, and of Sub and Cmp of the reference. Conditions: integers are of their type.
-/
import Derived.Test.YthfclapnkemjiaaGreatDoorRef3
namespace Go.Proofs.YthfclapnkemjiaaGreatDoor
open Go.RowKit

/-- the order of two numbers -/
def cmp3 (x y : Int) : Int := if x < y then -1 else if y < x then 1 else 0
theorem cmp3_lt {x y : Int} (h : x < y) : cmp3 x y = -1 := if_pos h
theorem cmp3_gt {x y : Int} (h : y < x) : cmp3 x y = 1 := by unfold cmp3; rw [if_neg (by omega), if_pos h]
theorem cmp3_eq {x y : Int} (h : x = y) : cmp3 x y = 0 := by unfold cmp3; rw [if_neg (by omega), if_neg (by omega)]
theorem isNaN_c (x : Int) (w : World) : Calls Tryz.prog 97 #[.int .i64 x] w fun e w' => e = .returned (.bool false) ∧ w = w' := by
  go_enter Tryz.func97, Tryz.ntmps97
  go_wp2
  go_ret
  exact ⟨ret_bool (by simp), rfl⟩
theorem Compare_c (x y : Int) (w : World) :
    Calls Tryz.prog 73 #[.int .i64 x, .int .i64 y] w fun e w' => e = .returned (.int .i64 (cmp3 x y)) ∧ Below w.heap.size w w' := by
  rcases (by omega : x < y ∨ y < x ∨ x = y) with h | h | h
  · rw [cmp3_lt h]
    go_enter Tryz.func73, Tryz.ntmps73
    go_wp2_with (go_at_call 97; refine (isNaN_c _ _).mono ?_; rintro e w' ⟨rfl, rfl⟩)
    go_ret
    exact ⟨rfl, Below.refl _ _⟩
  · rw [cmp3_gt h]
    have h' : ¬ x < y := by omega
    go_enter Tryz.func73, Tryz.ntmps73
    go_wp2_with (go_at_call 97; refine (isNaN_c _ _).mono ?_; rintro e w' ⟨rfl, rfl⟩)
    go_ret
    exact ⟨rfl, Below.refl _ _⟩
  · rw [cmp3_eq h]
    have h1 : ¬ x < y := by omega
    have h2 : ¬ y < x := by omega
    clear h
    go_enter Tryz.func73, Tryz.ntmps73
    go_wp2_with (go_at_call 97; refine (isNaN_c _ _).mono ?_; rintro e w' ⟨rfl, rfl⟩)
    go_ret
    exact ⟨rfl, Below.refl _ _⟩

/-- what Cmp returns -/
def cmpV (v : Bool) (x : Int) : Value := if v = true then .tuple #[.int .i64 x, .int .i64 0] else .tuple #[.int .i64 0, .int .i64 1]
theorem cmp_diff (a b c d : Int) : cmp3 (a * d + -1 * c * b) 0 = cmp3 (a * d) (c * b) := by
  have e : -1 * c * b = -(c * b) := by rw [Int.mul_assoc, Int.neg_one_mul]
  rw [e]
  generalize a * d = x
  generalize c * b = y
  unfold cmp3
  split <;> split <;> (try split) <;> (try split) <;> omega

set_option maxRecDepth 100000 in
set_option maxHeartbeats 2000000 in
theorem Cmp_c (a b c d : Int) (w : World) (ha : i64P a) (hb : i64P b) (hc : i64P c) (hd : i64P d) :
    Calls Tryz.prog 25 #[.agg #[.int .i64 a, .int .i64 b], .agg #[.int .i64 c, .int .i64 d]] w fun e w' => e = .returned (cmpV (validB a b && validB c d) (cmp3 (a * d) (c * b))) ∧ Below w.heap.size w w' := by
  have HX := Lib.hid fun w => valid_c a b w ha.1 ha.2 hb.1 hb.2
  have HY := Lib.hid fun w => valid_c c d w hc.1 hc.2 hd.1 hd.2
  cases hx : validB a b
  · rw [hx] at HX
    rw [Bool.false_and, show cmpV false (cmp3 (a * d) (c * b)) = .tuple #[.int .i64 0, .int .i64 1] from rfl]
    clear HY hx ha hb hc hd
    go_enter Tryz.func25, Tryz.ntmps25
    go_wp2_with fail
    refine (HX.out _).mono ?_
    rintro e w1 ⟨rfl, hb1⟩; obtain ⟨hc1, hf1⟩ := bcell hb1; have hz1 := hb1.size; (try simp at hz1); have hy1 : w.heap.size < w1.heap.size := (by omega); have hy1_1 : w.heap.size + 1 < w1.heap.size := (by omega); have hB1 : Below w.heap.size w w1 := below_step (by go_grown) hb1
    go_wp2_with fail
    go_ret2
    exact ⟨rfl, by go_grown⟩
  · cases hy : validB c d
    · rw [hx] at HX
      rw [hy] at HY
      rw [Bool.true_and, show cmpV false (cmp3 (a * d) (c * b)) = .tuple #[.int .i64 0, .int .i64 1] from rfl]
      clear hx hy ha hb hc hd
      go_enter Tryz.func25, Tryz.ntmps25
      go_wp2_with fail
      refine (HX.out _).mono ?_
      rintro e w1 ⟨rfl, hb1⟩; obtain ⟨hc1, hf1⟩ := bcell hb1; have hz1 := hb1.size; (try simp at hz1); have hy1 : w.heap.size < w1.heap.size := (by omega); have hy1_1 : w.heap.size + 1 < w1.heap.size := (by omega); have hB1 : Below w.heap.size w w1 := below_step (by go_grown) hb1
      go_wp2_with fail
      refine (HY.out _).mono ?_
      rintro e w2 ⟨rfl, hb2⟩; obtain ⟨hc2, hf2⟩ := bcell hb2; have hz2 := hb2.size; (try simp at hz2); have hy2 : w.heap.size < w2.heap.size := (by omega); have hy2_1 : w.heap.size + 1 < w2.heap.size := (by omega); have hB2 : Below w.heap.size w w2 := below_step (by go_grown) hb2
      go_wp2_with fail
      go_ret2
      exact ⟨rfl, by go_grown⟩
    · obtain ⟨sa, sb, _⟩ := validB_sm hx
      obtain ⟨sc, sd, _⟩ := validB_sm hy
      rw [hx] at HX
      rw [hy] at HY
      rw [Bool.true_and, show cmpV true (cmp3 (a * d) (c * b)) = .tuple #[.int .i64 (cmp3 (a * d) (c * b)), .int .i64 0] from rfl]
      have HC := Lib.hid fun cb w h1 h2 => cross1_c (-1) a b c d cb w h1 h2 (by decide) sa sb sc sd
      have HK := fun w => Compare_c (a * d + -1 * c * b) 0 w
      rw [cmp_diff] at HK
      have HK := Lib.hid HK
      generalize cmp3 (a * d) (c * b) = r at *
      generalize a * d + -1 * c * b = x at *
      clear hx hy ha hb hc hd sa sb sc sd
      go_enter Tryz.func25, Tryz.ntmps25
      go_wp2_with fail
      refine (HX.out _).mono ?_
      rintro e w1 ⟨rfl, hb1⟩; obtain ⟨hc1, hf1⟩ := bcell hb1; have hz1 := hb1.size; (try simp at hz1); have hy1 : w.heap.size < w1.heap.size := (by omega); have hy1_1 : w.heap.size + 1 < w1.heap.size := (by omega); have hB1 : Below w.heap.size w w1 := below_step (by go_grown) hb1
      go_wp2_with fail
      refine (HY.out _).mono ?_
      rintro e w2 ⟨rfl, hb2⟩; obtain ⟨hc2, hf2⟩ := bcell hb2; have hz2 := hb2.size; (try simp at hz2); have hy2 : w.heap.size < w2.heap.size := (by omega); have hy2_1 : w.heap.size + 1 < w2.heap.size := (by omega); have hB2 : Below w.heap.size w w2 := below_step (by go_grown) hb2
      go_wp2_with fail
      have k2 : w2.cell? ⟨w.heap.size, 0, none⟩ = some (.int .i64 a) := by go_simp
      have k3 : w2.cell? ⟨w.heap.size, 1, none⟩ = some (.int .i64 b) := by go_simp
      have k4 : w2.cell? ⟨w.heap.size + 1, 0, none⟩ = some (.int .i64 c) := by go_simp
      have k5 : w2.cell? ⟨w.heap.size + 1, 1, none⟩ = some (.int .i64 d) := by go_simp
      clear hc1 hc2 hf1 hf2 hb1 hb2 hB1 hz1 hz2
      go_region_held3 (fun w' => Sk w2 w')
        (first | exact Sk_drew _ | exact Sk_call (by assumption) (by assumption))
        (first
          | (go_at_call 62; refine (cross_c (-1) _).mono ?_; rintro e w3 ⟨rfl, hw3⟩; have hb3 := below_alloc hw3; have c3 := cell_alloc hw3; have z3 := size_alloc hw3)
          | (go_at_call 96; refine (HC.out _ _ c3 z3).mono ?_; rintro e w5 ⟨rfl, hb5⟩)
          | (go_at_call 73; refine (HK.out _).mono ?_; rintro e w6 ⟨rfl, hb6⟩))
      go_wp2
      go_ret2
      exact ⟨rfl, hB2.trans ((by assumption : Sk w2 _).2.mono hB2.size)⟩

set_option maxRecDepth 100000 in
set_option maxHeartbeats 2000000 in
theorem rCmp_c (a b c d : Int) (w : World) (ha : i64P a) (hb : i64P b) (hc : i64P c) (hd : i64P d) :
    Calls Tryz.prog 26 #[.agg #[.int .i64 a, .int .i64 b], .agg #[.int .i64 c, .int .i64 d]] w fun e w' => e = .returned (cmpV (validB a b && validB c d) (cmp3 (a * d) (c * b))) ∧ Below w.heap.size w w' := by
  have HX := Lib.hid fun w => rValid_c a b w ha hb
  have HY := Lib.hid fun w => rValid_c c d w hc hd
  cases hx : validB a b
  · rw [hx] at HX
    rw [Bool.false_and, show cmpV false (cmp3 (a * d) (c * b)) = .tuple #[.int .i64 0, .int .i64 1] from rfl]
    clear HY hx ha hb hc hd
    go_enter Tryz.func26, Tryz.ntmps26
    go_wp2_with fail
    refine (HX.out _).mono ?_
    rintro e w1 ⟨rfl, hb1⟩; obtain ⟨hc1, hf1⟩ := bcell hb1; have hz1 := hb1.size; (try simp at hz1); have hy1 : w.heap.size < w1.heap.size := (by omega); have hy1_1 : w.heap.size + 1 < w1.heap.size := (by omega); have hB1 : Below w.heap.size w w1 := below_step (by go_grown) hb1
    go_wp2_with fail
    go_ret2
    exact ⟨rfl, by go_grown⟩
  · cases hy : validB c d
    · rw [hx] at HX
      rw [hy] at HY
      rw [Bool.true_and, show cmpV false (cmp3 (a * d) (c * b)) = .tuple #[.int .i64 0, .int .i64 1] from rfl]
      clear hx hy ha hb hc hd
      go_enter Tryz.func26, Tryz.ntmps26
      go_wp2_with fail
      refine (HX.out _).mono ?_
      rintro e w1 ⟨rfl, hb1⟩; obtain ⟨hc1, hf1⟩ := bcell hb1; have hz1 := hb1.size; (try simp at hz1); have hy1 : w.heap.size < w1.heap.size := (by omega); have hy1_1 : w.heap.size + 1 < w1.heap.size := (by omega); have hB1 : Below w.heap.size w w1 := below_step (by go_grown) hb1
      go_wp2_with fail
      refine (HY.out _).mono ?_
      rintro e w2 ⟨rfl, hb2⟩; obtain ⟨hc2, hf2⟩ := bcell hb2; have hz2 := hb2.size; (try simp at hz2); have hy2 : w.heap.size < w2.heap.size := (by omega); have hy2_1 : w.heap.size + 1 < w2.heap.size := (by omega); have hB2 : Below w.heap.size w w2 := below_step (by go_grown) hb2
      go_wp2_with fail
      go_ret2
      exact ⟨rfl, by go_grown⟩
    · obtain ⟨sa, sb, _⟩ := validB_sm hx
      obtain ⟨sc, sd, _⟩ := validB_sm hy
      rw [hx] at HX
      rw [hy] at HY
      rw [Bool.true_and, show cmpV true (cmp3 (a * d) (c * b)) = .tuple #[.int .i64 (cmp3 (a * d) (c * b)), .int .i64 0] from rfl]
      have m1 := mul20 sa sd
      have m2 := mul20 sc sb
      have e1 : wrap64 (a * d) = a * d := IntWalk.wrap64_in _ ⟨by omega, by omega⟩
      have e2 : wrap64 (c * b) = c * b := IntWalk.wrap64_in _ ⟨by omega, by omega⟩
      clear m1 m2
      rcases (by omega : a * d < c * b ∨ c * b < a * d ∨ a * d = c * b) with h | h | h
      · rw [cmp3_lt h]
        clear hx hy ha hb hc hd sa sb sc sd
        go_enter Tryz.func26, Tryz.ntmps26
        go_wp2_with fail
        refine (HX.out _).mono ?_
        rintro e w1 ⟨rfl, hb1⟩; obtain ⟨hc1, hf1⟩ := bcell hb1; have hz1 := hb1.size; (try simp at hz1); have hy1 : w.heap.size < w1.heap.size := (by omega); have hy1_1 : w.heap.size + 1 < w1.heap.size := (by omega); have hB1 : Below w.heap.size w w1 := below_step (by go_grown) hb1
        go_wp2_with fail
        refine (HY.out _).mono ?_
        rintro e w2 ⟨rfl, hb2⟩; obtain ⟨hc2, hf2⟩ := bcell hb2; have hz2 := hb2.size; (try simp at hz2); have hy2 : w.heap.size < w2.heap.size := (by omega); have hy2_1 : w.heap.size + 1 < w2.heap.size := (by omega); have hB2 : Below w.heap.size w w2 := below_step (by go_grown) hb2
        go_wp2_with fail
        go_ret2
        exact ⟨rfl, by go_grown⟩
      · rw [cmp3_gt h]
        have d1 : decide (a * d < c * b) = false := decide_eq_false (by omega)
        clear hx hy ha hb hc hd sa sb sc sd
        go_enter Tryz.func26, Tryz.ntmps26
        go_wp2_with fail
        refine (HX.out _).mono ?_
        rintro e w1 ⟨rfl, hb1⟩; obtain ⟨hc1, hf1⟩ := bcell hb1; have hz1 := hb1.size; (try simp at hz1); have hy1 : w.heap.size < w1.heap.size := (by omega); have hy1_1 : w.heap.size + 1 < w1.heap.size := (by omega); have hB1 : Below w.heap.size w w1 := below_step (by go_grown) hb1
        go_wp2_with fail
        refine (HY.out _).mono ?_
        rintro e w2 ⟨rfl, hb2⟩; obtain ⟨hc2, hf2⟩ := bcell hb2; have hz2 := hb2.size; (try simp at hz2); have hy2 : w.heap.size < w2.heap.size := (by omega); have hy2_1 : w.heap.size + 1 < w2.heap.size := (by omega); have hB2 : Below w.heap.size w w2 := below_step (by go_grown) hb2
        go_wp2_with fail
        go_ret2
        exact ⟨rfl, by go_grown⟩
      · rw [cmp3_eq h]
        have d1 : decide (a * d < c * b) = false := decide_eq_false (by omega)
        have d2 : decide (c * b < a * d) = false := decide_eq_false (by omega)
        clear hx hy ha hb hc hd sa sb sc sd h
        go_enter Tryz.func26, Tryz.ntmps26
        go_wp2_with fail
        refine (HX.out _).mono ?_
        rintro e w1 ⟨rfl, hb1⟩; obtain ⟨hc1, hf1⟩ := bcell hb1; have hz1 := hb1.size; (try simp at hz1); have hy1 : w.heap.size < w1.heap.size := (by omega); have hy1_1 : w.heap.size + 1 < w1.heap.size := (by omega); have hB1 : Below w.heap.size w w1 := below_step (by go_grown) hb1
        go_wp2_with fail
        refine (HY.out _).mono ?_
        rintro e w2 ⟨rfl, hb2⟩; obtain ⟨hc2, hf2⟩ := bcell hb2; have hz2 := hb2.size; (try simp at hz2); have hy2 : w.heap.size < w2.heap.size := (by omega); have hy2_1 : w.heap.size + 1 < w2.heap.size := (by omega); have hB2 : Below w.heap.size w w2 := below_step (by go_grown) hb2
        go_wp2_with fail
        go_ret2
        exact ⟨rfl, by go_grown⟩

/-- Sub: Add of the opposite number -/
theorem validB_neg (N D : Int) : validB (-N) D = validB N D := by
  have h1 := validB_iff N D
  have h2 := validB_iff (-N) D
  rw [Int.natAbs_neg] at h2
  cases a : validB N D <;> cases b : validB (-N) D <;> rw [a] at h1 <;> rw [b] at h2 <;> simp at h1 h2 ⊢ <;> omega
theorem wrap_neg (c : Int) (hc : i64P c) : wrap64 (-c) = -c ∨ c = -9223372036854775808 ∧ wrap64 (-c) = c := by
  obtain ⟨h1, h2⟩ := hc
  by_cases h : c = -9223372036854775808
  · right; subst h; exact ⟨rfl, by kernel_rfl⟩
  · left; exact IntWalk.wrap64_in _ ⟨by omega, by omega⟩
set_option maxRecDepth 100000 in
theorem rSub_c (a b c d : Int) (w : World) (ha : i64P a) (hb : i64P b) (hc : i64P c) (hd : i64P d) :
    Calls Tryz.prog 20 #[.agg #[.int .i64 a, .int .i64 b], .agg #[.int .i64 c, .int .i64 d]] w fun e w' => e = .returned (fracV (validB a b && validB c d) (a * d + -1 * c * b) (b * d)) ∧ Below w.heap.size w w' := by
  have key : ∃ c', wrap64 (-c) = c' ∧ i64P c' ∧ fracV (validB a b && validB c' d) (a * d + c' * b) (b * d) = fracV (validB a b && validB c d) (a * d + -1 * c * b) (b * d) := by
    rcases wrap_neg c hc with h | ⟨h, h'⟩
    · refine ⟨-c, h, ?_, ?_⟩
      · have : -c = wrap64 (-c) := h.symm
        by_cases hm : c = -9223372036854775808
        · subst hm; exact absurd h (by decide +kernel)
        · obtain ⟨h1, h2⟩ := hc; constructor <;> omega
      · rw [validB_neg, show -1 * c = -c by omega]
    · refine ⟨c, h', hc, ?_⟩
      have hv : validB c d = false := by
        cases hb : validB c d
        · rfl
        · have := (validB_iff c d).1 hb; omega
      rw [hv, Bool.and_false]
      rfl
  obtain ⟨c', e, hc', hF⟩ := key
  rw [← hF]
  have H := fun w => rAdd_c a b c' d w ha hb hc' hd
  generalize (validB a b && validB c' d) = v at *
  have HV : Hid (fracV v (a * d + c' * b) (b * d) = .tuple #[.agg #[.int .i64 (fracN v (a * d + c' * b) (b * d)), .int .i64 (fracD v (a * d + c' * b) (b * d))], .int .i64 (fracE v (a * d + c' * b) (b * d))]) := rfl
  rw [HV.out] at H ⊢
  generalize fracN v (a * d + c' * b) (b * d) = x1 at *
  generalize fracD v (a * d + c' * b) (b * d) = x2 at *
  generalize fracE v (a * d + c' * b) (b * d) = x3 at *
  have H := Lib.hid H
  clear HV hF ha hb hc hd hc'
  go_enter Tryz.func20, Tryz.ntmps20
  go_wp2_with fail
  refine (H.out _).mono ?_
  rintro e w1 ⟨rfl, hb1⟩; obtain ⟨hc1, hf1⟩ := bcell hb1; have hz1 := hb1.size; (try simp at hz1); have hy1 : w.heap.size < w1.heap.size := (by omega); have hy1_1 : w.heap.size + 1 < w1.heap.size := (by omega); have hy1_2 : w.heap.size + 2 < w1.heap.size := (by omega); have hB1 : Below w.heap.size w w1 := below_step (by go_grown) hb1
  go_wp2_with fail
  (try simp only [Exit.inBlock, Exit.then]); refine bodyPost_ret (by simp [results, Tryz.results20, go_sem, *]; try rfl) rfl ?_
  exact ⟨rfl, by go_grown⟩
end Go.Proofs.YthfclapnkemjiaaGreatDoor
