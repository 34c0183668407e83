/-
  Contracts of operation.do and of Add, Sub, Mul, Div of package tone. Conditions: as the premises say; integers are of their type.
-/
import Derived.Test.YthfclapnkemjiaaGreatDoorOpYes
namespace Go.Proofs.YthfclapnkemjiaaGreatDoor
open Go.RowKit


theorem below_alloc {w w' : World} {o : Obj} (h : w.alloc o = w') : Below w.heap.size w w' := by rw [← h]; exact (Below.refl _ _).alloc (Nat.le_refl _) _
theorem cell_alloc {w w' : World} {v : Value} {t : TypeId} (h : w.alloc (.cells #[v] t) = w') : w'.cell? ⟨w.heap.size, 0, none⟩ = some v := by rw [← h]; simp
theorem size_alloc {w w' : World} {o : Obj} (h : w.alloc o = w') : w.heap.size < w'.heap.size := by rw [← h]; simp
set_option maxRecDepth 100000 in
set_option maxHeartbeats 4000000 in
theorem Add_c (a b c d : Int) (w : World) (ha : i64P a) (hb : i64P b) (hc : i64P c) (hd : i64P d) :
    Calls Tryz.prog 15 #[.agg #[.int .i64 a, .int .i64 b], .agg #[.int .i64 c, .int .i64 d]] w fun e w' => e = .returned (fracV (validB a b && validB c d) (a * d + 1 * c * b) (b * d)) ∧ Below w.heap.size w w' := by
  have HO := Lib.hid fun cb w h1 h2 => do_cross_any (1) a b c d cb w h1 h2 (by decide) ha hb hc hd
  generalize (validB a b && validB c d) = v at *
  have HV : Hid (fracV v (a * d + 1 * c * b) (b * d) = .tuple #[.agg #[.int .i64 (fracN v (a * d + 1 * c * b) (b * d)), .int .i64 (fracD v (a * d + 1 * c * b) (b * d))], .int .i64 (fracE v (a * d + 1 * c * b) (b * d))]) := rfl
  rw [HV.out] at HO ⊢
  generalize fracN v (a * d + 1 * c * b) (b * d) = rn at *
  generalize fracD v (a * d + 1 * c * b) (b * d) = rd at *
  generalize fracE v (a * d + 1 * c * b) (b * d) = re at *
  clear HV ha hb hc hd
  go_enter Tryz.func15, Tryz.ntmps15
  go_wp2_with fail
  refine wp_named fun W hW => ?_
  have k2 : W.cell? ⟨w.heap.size, 0, none⟩ = some (.int .i64 a) := by rw [hW]; go_simp
  have k3 : W.cell? ⟨w.heap.size, 1, none⟩ = some (.int .i64 b) := by rw [hW]; go_simp
  have k4 : W.cell? ⟨w.heap.size + 1, 0, none⟩ = some (.int .i64 c) := by rw [hW]; go_simp
  have k5 : W.cell? ⟨w.heap.size + 1, 1, none⟩ = some (.int .i64 d) := by rw [hW]; go_simp
  have k6 : W.cell? ⟨w.heap.size + 2, 0, none⟩ = some (.int .i64 0) := by rw [hW]; go_simp
  have k7 : W.cell? ⟨w.heap.size + 2, 1, none⟩ = some (.int .i64 0) := by rw [hW]; go_simp
  have k8 : W.frozen? ⟨w.heap.size + 2, 0, none⟩ = false := by rw [hW]; go_simp
  have k9 : W.frozen? ⟨w.heap.size + 2, 1, none⟩ = false := by rw [hW]; go_simp
  have hBW : Below w.heap.size w W := by rw [hW]; go_grown
  have hzW : w.heap.size + 2 < W.heap.size := by rw [hW]; simp
  have y0 : w.heap.size < W.heap.size := by omega
  have y1 : w.heap.size + 1 < W.heap.size := by omega
  clear hW
  go_region_held3 (fun w' => Sc W (w.heap.size + 2) w')
    (first | exact Sc_drew (by assumption) (by assumption) (by assumption) (by assumption) | exact Sc_call (by assumption) (by assumption) (by assumption) | exact Sc_set (Sc_set (by assumption) _) _ | exact Sc_set (by assumption) _)
    (first
      | (go_at_call 62; refine (cross_c (1) _).mono ?_; rintro e w3 ⟨rfl, hw3⟩; have hb3 := below_alloc hw3; have c3 := cell_alloc hw3; have z3 := size_alloc hw3)
      | (go_at_call 64; refine (HO.out _ _ c3 z3).mono ?_; rintro e w5 ⟨rfl, hb5⟩; obtain ⟨u5, v5, c50, c51, f50, f51⟩ := Sc_open (Sc_call (by assumption : Sc W (w.heap.size + 2) _) (by omega) hb5)))
  go_wp2
  (try simp only [Exit.inBlock, Exit.then]); refine bodyPost_ret (by simp [results, Tryz.results15, go_sem, *]; try rfl) rfl ?_
  exact ⟨rfl, Sc_below (W := W) (B := w.heap.size + 2) (by assumption) hBW (by omega)⟩
set_option maxRecDepth 100000 in
set_option maxHeartbeats 4000000 in
theorem Sub_c (a b c d : Int) (w : World) (ha : i64P a) (hb : i64P b) (hc : i64P c) (hd : i64P d) :
    Calls Tryz.prog 16 #[.agg #[.int .i64 a, .int .i64 b], .agg #[.int .i64 c, .int .i64 d]] w fun e w' => e = .returned (fracV (validB a b && validB c d) (a * d + (-1) * c * b) (b * d)) ∧ Below w.heap.size w w' := by
  have HO := Lib.hid fun cb w h1 h2 => do_cross_any (-1) a b c d cb w h1 h2 (by decide) ha hb hc hd
  generalize (validB a b && validB c d) = v at *
  have HV : Hid (fracV v (a * d + (-1) * c * b) (b * d) = .tuple #[.agg #[.int .i64 (fracN v (a * d + (-1) * c * b) (b * d)), .int .i64 (fracD v (a * d + (-1) * c * b) (b * d))], .int .i64 (fracE v (a * d + (-1) * c * b) (b * d))]) := rfl
  rw [HV.out] at HO ⊢
  generalize fracN v (a * d + (-1) * c * b) (b * d) = rn at *
  generalize fracD v (a * d + (-1) * c * b) (b * d) = rd at *
  generalize fracE v (a * d + (-1) * c * b) (b * d) = re at *
  clear HV ha hb hc hd
  go_enter Tryz.func16, Tryz.ntmps16
  go_wp2_with fail
  refine wp_named fun W hW => ?_
  have k2 : W.cell? ⟨w.heap.size, 0, none⟩ = some (.int .i64 a) := by rw [hW]; go_simp
  have k3 : W.cell? ⟨w.heap.size, 1, none⟩ = some (.int .i64 b) := by rw [hW]; go_simp
  have k4 : W.cell? ⟨w.heap.size + 1, 0, none⟩ = some (.int .i64 c) := by rw [hW]; go_simp
  have k5 : W.cell? ⟨w.heap.size + 1, 1, none⟩ = some (.int .i64 d) := by rw [hW]; go_simp
  have k6 : W.cell? ⟨w.heap.size + 2, 0, none⟩ = some (.int .i64 0) := by rw [hW]; go_simp
  have k7 : W.cell? ⟨w.heap.size + 2, 1, none⟩ = some (.int .i64 0) := by rw [hW]; go_simp
  have k8 : W.frozen? ⟨w.heap.size + 2, 0, none⟩ = false := by rw [hW]; go_simp
  have k9 : W.frozen? ⟨w.heap.size + 2, 1, none⟩ = false := by rw [hW]; go_simp
  have hBW : Below w.heap.size w W := by rw [hW]; go_grown
  have hzW : w.heap.size + 2 < W.heap.size := by rw [hW]; simp
  have y0 : w.heap.size < W.heap.size := by omega
  have y1 : w.heap.size + 1 < W.heap.size := by omega
  clear hW
  go_region_held3 (fun w' => Sc W (w.heap.size + 2) w')
    (first | exact Sc_drew (by assumption) (by assumption) (by assumption) (by assumption) | exact Sc_call (by assumption) (by assumption) (by assumption) | exact Sc_set (Sc_set (by assumption) _) _ | exact Sc_set (by assumption) _)
    (first
      | (go_at_call 62; refine (cross_c (-1) _).mono ?_; rintro e w3 ⟨rfl, hw3⟩; have hb3 := below_alloc hw3; have c3 := cell_alloc hw3; have z3 := size_alloc hw3)
      | (go_at_call 64; refine (HO.out _ _ c3 z3).mono ?_; rintro e w5 ⟨rfl, hb5⟩; obtain ⟨u5, v5, c50, c51, f50, f51⟩ := Sc_open (Sc_call (by assumption : Sc W (w.heap.size + 2) _) (by omega) hb5)))
  go_wp2
  (try simp only [Exit.inBlock, Exit.then]); refine bodyPost_ret (by simp [results, Tryz.results16, go_sem, *]; try rfl) rfl ?_
  exact ⟨rfl, Sc_below (W := W) (B := w.heap.size + 2) (by assumption) hBW (by omega)⟩
set_option maxRecDepth 100000 in
set_option maxHeartbeats 4000000 in
theorem Mul_c (a b c d : Int) (w : World) (ha : i64P a) (hb : i64P b) (hc : i64P c) (hd : i64P d) :
    Calls Tryz.prog 17 #[.agg #[.int .i64 a, .int .i64 b], .agg #[.int .i64 c, .int .i64 d]] w fun e w' => e = .returned (fracV (validB a b && validB c d) (a * c) (b * d)) ∧ Below w.heap.size w w' := by
  have HO := Lib.hid fun w => do_mul_any a b c d w ha hb hc hd
  generalize (validB a b && validB c d) = v at *
  have HV : Hid (fracV v (a * c) (b * d) = .tuple #[.agg #[.int .i64 (fracN v (a * c) (b * d)), .int .i64 (fracD v (a * c) (b * d))], .int .i64 (fracE v (a * c) (b * d))]) := rfl
  rw [HV.out] at HO ⊢
  generalize fracN v (a * c) (b * d) = rn at *
  generalize fracD v (a * c) (b * d) = rd at *
  generalize fracE v (a * c) (b * d) = re at *
  clear HV ha hb hc hd
  go_enter Tryz.func17, Tryz.ntmps17
  go_wp2_with (go_at_call 64; refine (HO.out _).mono ?_; rintro e w1 ⟨rfl, hb1⟩; obtain ⟨hc1, hf1⟩ := bcell hb1; have hz1 := hb1.size; (try simp at hz1); have hy1 : w.heap.size < w1.heap.size := (by omega); have hy1_1 : w.heap.size + 1 < w1.heap.size := (by omega); have hy1_2 : w.heap.size + 2 < w1.heap.size := (by omega); have hB1 : Below w.heap.size w w1 := below_step (by go_grown) hb1)
  (try simp only [Exit.inBlock, Exit.then]); refine bodyPost_ret (by simp [results, Tryz.results17, go_sem, *]; try rfl) rfl ?_
  exact ⟨rfl, by go_grown⟩
set_option maxRecDepth 100000 in
set_option maxHeartbeats 4000000 in
theorem Div_c (a b c d : Int) (w : World) (ha : i64P a) (hb : i64P b) (hc : i64P c) (hd : i64P d) :
    Calls Tryz.prog 18 #[.agg #[.int .i64 a, .int .i64 b], .agg #[.int .i64 c, .int .i64 d]] w fun e w' => e = .returned (fracV (validB a b && validB c d) (a * d) (b * c)) ∧ Below w.heap.size w w' := by
  have HO := Lib.hid fun w => do_div_any a b c d w ha hb hc hd
  generalize (validB a b && validB c d) = v at *
  have HV : Hid (fracV v (a * d) (b * c) = .tuple #[.agg #[.int .i64 (fracN v (a * d) (b * c)), .int .i64 (fracD v (a * d) (b * c))], .int .i64 (fracE v (a * d) (b * c))]) := rfl
  rw [HV.out] at HO ⊢
  generalize fracN v (a * d) (b * c) = rn at *
  generalize fracD v (a * d) (b * c) = rd at *
  generalize fracE v (a * d) (b * c) = re at *
  clear HV ha hb hc hd
  go_enter Tryz.func18, Tryz.ntmps18
  go_wp2_with (go_at_call 64; refine (HO.out _).mono ?_; rintro e w1 ⟨rfl, hb1⟩; obtain ⟨hc1, hf1⟩ := bcell hb1; have hz1 := hb1.size; (try simp at hz1); have hy1 : w.heap.size < w1.heap.size := (by omega); have hy1_1 : w.heap.size + 1 < w1.heap.size := (by omega); have hy1_2 : w.heap.size + 2 < w1.heap.size := (by omega); have hB1 : Below w.heap.size w w1 := below_step (by go_grown) hb1)
  (try simp only [Exit.inBlock, Exit.then]); refine bodyPost_ret (by simp [results, Tryz.results18, go_sem, *]; try rfl) rfl ?_
  exact ⟨rfl, by go_grown⟩
end Go.Proofs.YthfclapnkemjiaaGreatDoor
