/-
  Contracts of Add, Sub, Mul, Div of package tone. Conditions: integers are of their type.
-/
import Derived.Test.YthfclapnkemjiaaGreatDoorFrac
import Derived.Test.YthfclapnkemjiaaGreatDoorReg
namespace Go.Proofs.YthfclapnkemjiaaGreatDoor
open Go.RowKit

theorem mul_bd {x y : Int} {M K : Nat} (hx : x.natAbs ≤ M) (hy : y.natAbs ≤ K) : (x * y).natAbs ≤ M * K := by
  rw [Int.natAbs_mul]; exact Nat.mul_le_mul hx hy
theorem mul20 {x y : Int} (hx : -1048576 ≤ x ∧ x ≤ 1048576) (hy : -1048576 ≤ y ∧ y ≤ 1048576) : -1099511627776 ≤ x * y ∧ x * y ≤ 1099511627776 := by
  have := mul_bd (x := x) (y := y) (M := 1048576) (K := 1048576) (by omega) (by omega)
  omega

theorem cross_c (way : Int) (w : World) :
    Calls Tryz.prog 62 #[.int .i64 way] w fun e w' => e = .returned (.func (.func 96) #[] #[.pointer (some ⟨w.heap.size, 0, none⟩)]) ∧ w.alloc (.cells #[.int .i64 way] 3) = w' := by
  go_enter Tryz.func62, Tryz.ntmps62
  go_wp2
  go_ret
  exact ⟨rfl, rfl⟩
/-- a is small -/
def sm (x : Int) : Prop := -1048576 ≤ x ∧ x ≤ 1048576
set_option maxRecDepth 100000 in
theorem cross1_c (way a b c d : Int) (cb : Nat) (w : World) (hc : w.cell? ⟨cb, 0, none⟩ = some (.int .i64 way)) (hb : cb < w.heap.size) (hw : way = 1 ∨ way = -1) (ha : sm a) (hb' : sm b) (hc' : sm c) (hd : sm d) :
    Calls Tryz.prog 96 #[.agg #[.int .i64 a, .int .i64 b], .agg #[.int .i64 c, .int .i64 d], .pointer (some ⟨cb, 0, none⟩)] w fun e w' => e = .returned (.int .i64 (a * d + way * c * b)) ∧ Below w.heap.size w w' := by
  have h1 := mul20 ha hd
  have h2 : -1048576 ≤ way * c ∧ way * c ≤ 1048576 := by unfold sm at hc'; rcases hw with rfl | rfl <;> omega
  have h3 := mul20 h2 hb'
  have e4 : wrap64 (a * d + way * c * b) = a * d + way * c * b := IntWalk.wrap64_in _ ⟨by omega, by omega⟩
  have e1 : wrap64 (a * d) = a * d := IntWalk.wrap64_in _ ⟨by omega, by omega⟩
  have e2 : wrap64 (way * c) = way * c := IntWalk.wrap64_in _ ⟨by omega, by omega⟩
  have e3 : wrap64 (way * c * b) = way * c * b := IntWalk.wrap64_in _ ⟨by omega, by omega⟩
  have e5 : wrap64 (wrap64 (a * d) + wrap64 (wrap64 (way * c) * b)) = a * d + way * c * b := by rw [e1, e2, e3, e4]
  have E := Lib.hid e5
  clear h1 h2 h3 ha hb' hc' hd hw e1 e2 e3 e4 e5
  go_enter Tryz.func96, Tryz.ntmps96
  go_wp2
  go_ret
  exact ⟨ret_int E.out, by go_grown⟩
set_option maxRecDepth 100000 in
theorem bottom_c (a b c d : Int) (w : World) (hx : sm b) (hy : sm d) :
    Calls Tryz.prog 63 #[.agg #[.int .i64 a, .int .i64 b], .agg #[.int .i64 c, .int .i64 d]] w fun e w' => e = .returned (.int .i64 (b * d)) ∧ Below w.heap.size w w' := by
  have h1 := mul20 hx hy
  have e1 : wrap64 (b * d) = b * d := IntWalk.wrap64_in _ ⟨by omega, by omega⟩
  have E := Lib.hid e1
  clear h1 hx hy e1
  go_enter Tryz.func63, Tryz.ntmps63
  go_wp2
  go_ret
  exact ⟨ret_int E.out, by go_grown⟩
set_option maxRecDepth 100000 in
theorem mul1_c (a b c d : Int) (w : World) (hx : sm a) (hy : sm c) :
    Calls Tryz.prog 65 #[.agg #[.int .i64 a, .int .i64 b], .agg #[.int .i64 c, .int .i64 d]] w fun e w' => e = .returned (.int .i64 (a * c)) ∧ Below w.heap.size w w' := by
  have h1 := mul20 hx hy
  have e1 : wrap64 (a * c) = a * c := IntWalk.wrap64_in _ ⟨by omega, by omega⟩
  have E := Lib.hid e1
  clear h1 hx hy e1
  go_enter Tryz.func65, Tryz.ntmps65
  go_wp2
  go_ret
  exact ⟨ret_int E.out, by go_grown⟩
set_option maxRecDepth 100000 in
theorem div1_c (a b c d : Int) (w : World) (hx : sm a) (hy : sm d) :
    Calls Tryz.prog 66 #[.agg #[.int .i64 a, .int .i64 b], .agg #[.int .i64 c, .int .i64 d]] w fun e w' => e = .returned (.int .i64 (a * d)) ∧ Below w.heap.size w w' := by
  have h1 := mul20 hx hy
  have e1 : wrap64 (a * d) = a * d := IntWalk.wrap64_in _ ⟨by omega, by omega⟩
  have E := Lib.hid e1
  clear h1 hx hy e1
  go_enter Tryz.func66, Tryz.ntmps66
  go_wp2
  go_ret
  exact ⟨ret_int E.out, by go_grown⟩
set_option maxRecDepth 100000 in
theorem div2_c (a b c d : Int) (w : World) (hx : sm b) (hy : sm c) :
    Calls Tryz.prog 67 #[.agg #[.int .i64 a, .int .i64 b], .agg #[.int .i64 c, .int .i64 d]] w fun e w' => e = .returned (.int .i64 (b * c)) ∧ Below w.heap.size w w' := by
  have h1 := mul20 hx hy
  have e1 : wrap64 (b * c) = b * c := IntWalk.wrap64_in _ ⟨by omega, by omega⟩
  have E := Lib.hid e1
  clear h1 hx hy e1
  go_enter Tryz.func67, Tryz.ntmps67
  go_wp2
  go_ret
  exact ⟨ret_int E.out, by go_grown⟩

/-- what is done with two fractions that are valid -/
def opV (n d : Int) (v1 v2 : Bool) : Value := if v1 = true ∧ v2 = true then ratioV n d else .tuple #[.agg #[.int .i64 0, .int .i64 0], .int .i64 1]

theorem validB_sm {N D : Int} (h : validB N D = true) : sm N ∧ sm D ∧ 1 ≤ D := by
  unfold validB at h
  have h := of_decide_eq_true h
  obtain ⟨h0, h1, h2⟩ := h
  have hd : D ≠ 0 := by rintro rfl; simp [ratioE] at h0
  unfold ratioE at h0
  rw [if_neg hd] at h0
  split at h0
  · cases h0
  · rename_i hs
    unfold ratioN at h1
    unfold ratioD at h2
    rw [if_neg hd, if_neg hs] at h1 h2
    have hdn : 0 ≤ D := by rw [← h2]; exact Int.natCast_nonneg _
    generalize Nat.gcd N.natAbs D.natAbs = g at *
    generalize N.natAbs / g = x at *
    generalize D.natAbs / g = y at *
    unfold sm
    split at h1 <;> omega

set_option maxRecDepth 100000 in
set_option maxHeartbeats 2000000 in
theorem do_no (o : Array Value) (a b c d : Int) (f1 f2 : Value) (ho : o = #[f1, f2]) (w : World) (ha0 : -9223372036854775808 ≤ a) (ha1 : a ≤ 9223372036854775807) (hb0 : -9223372036854775808 ≤ b) (hb1 : b ≤ 9223372036854775807)
    (hc0 : -9223372036854775808 ≤ c) (hc1 : c ≤ 9223372036854775807) (hd0 : -9223372036854775808 ≤ d) (hd1 : d ≤ 9223372036854775807) (h : validB a b = false ∨ validB c d = false) :
    Calls Tryz.prog 64 #[.agg o, .agg #[.int .i64 a, .int .i64 b], .agg #[.int .i64 c, .int .i64 d]] w fun e w' => e = .returned (.tuple #[.agg #[.int .i64 0, .int .i64 0], .int .i64 1]) ∧ Below w.heap.size w w' := by
  subst ho
  have H1 := Lib.hid fun w => valid_c a b w ha0 ha1 hb0 hb1
  have H2 := Lib.hid fun w => valid_c c d w hc0 hc1 hd0 hd1
  generalize validB a b = v1 at *
  generalize validB c d = v2 at *
  cases v1 with
  | false =>
    clear h
    go_enter Tryz.func64, Tryz.ntmps64
    go_wp2_with (go_at_call 72; refine (H1.out _).mono ?_; rintro e w1 ⟨rfl, hb1⟩; obtain ⟨hc1, hf1⟩ := bcell hb1; have hz1 := hb1.size; (try simp at hz1); have hy1 : w.heap.size < w1.heap.size := (by omega); have hy1_1 : w.heap.size + 1 < w1.heap.size := (by omega); have hy1_2 : w.heap.size + 2 < w1.heap.size := (by omega); have hy1_3 : w.heap.size + 3 < w1.heap.size := (by omega); have hB1 : Below w.heap.size w w1 := below_step (by go_grown) hb1)
    (try simp only [Exit.inBlock, Exit.then]); refine bodyPost_ret (by simp [results, Tryz.results64, go_sem, *]; try rfl) rfl ?_
    exact ⟨rfl, by go_grown⟩
  | true =>
    obtain rfl : v2 = false := by simpa using h
    clear h
    go_enter Tryz.func64, Tryz.ntmps64
    go_wp2_with fail
    refine (H1.out _).mono ?_
    rintro e w1 ⟨rfl, hb1⟩; obtain ⟨hc1, hf1⟩ := bcell hb1; have hz1 := hb1.size; (try simp at hz1); have hy1 : w.heap.size < w1.heap.size := (by omega); have hy1_1 : w.heap.size + 1 < w1.heap.size := (by omega); have hy1_2 : w.heap.size + 2 < w1.heap.size := (by omega); have hy1_3 : w.heap.size + 3 < w1.heap.size := (by omega); have hB1 : Below w.heap.size w w1 := below_step (by go_grown) hb1
    go_wp2_with fail
    refine (H2.out _).mono ?_
    rintro e w2 ⟨rfl, hb2⟩; obtain ⟨hc2, hf2⟩ := bcell hb2; have hz2 := hb2.size; (try simp at hz2); have hy2 : w.heap.size < w2.heap.size := (by omega); have hy2_1 : w.heap.size + 1 < w2.heap.size := (by omega); have hy2_2 : w.heap.size + 2 < w2.heap.size := (by omega); have hy2_3 : w.heap.size + 3 < w2.heap.size := (by omega); have hB2 : Below w.heap.size w w2 := below_step (by go_grown) hb2
    go_wp2_with fail
    (try simp only [Exit.inBlock, Exit.then]); refine bodyPost_ret (by simp [results, Tryz.results64, go_sem, *]; try rfl) rfl ?_
    exact ⟨rfl, by go_grown⟩
end Go.Proofs.YthfclapnkemjiaaGreatDoor
