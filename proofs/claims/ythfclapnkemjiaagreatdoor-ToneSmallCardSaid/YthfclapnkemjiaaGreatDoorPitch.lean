/-
  Contracts of the functions on pitches of package tone: Base, Semitone, Name, near. Conditions: integers are of their type.
-/
import Derived.Test.YthfclapnkemjiaaGreatDoorItoa
namespace Go.Proofs.YthfclapnkemjiaaGreatDoor
open Go.RowKit

theorem Base_yes (c : Int) (w : World) (h1 : 1 ≤ c) (h2 : c ≤ 3) :
    Calls Tryz.prog 29 #[.int .i64 c] w fun e w' => e = .returned (.tuple #[.int .i64 (36 - 6 * c), .int .i64 0]) ∧ w = w' := by
  go_enter Tryz.func29, Tryz.ntmps29
  go_wp2
  go_ret2
  exact ⟨rfl, rfl⟩
theorem Base_no (c : Int) (w : World) (h : c < 1 ∨ 3 < c) :
    Calls Tryz.prog 29 #[.int .i64 c] w fun e w' => e = .returned (.tuple #[.int .i64 0, .int .i64 30]) ∧ w = w' := by
  rcases h with h | h
  · go_enter Tryz.func29, Tryz.ntmps29
    go_wp2
    go_ret2
    exact ⟨rfl, rfl⟩
  · have h' : 1 ≤ c := by omega
    go_enter Tryz.func29, Tryz.ntmps29
    go_wp2
    go_ret2
    exact ⟨rfl, rfl⟩

set_option maxRecDepth 100000 in
theorem near_yes (s m : Int) (w : World) (h : -200 ≤ s ∧ s ≤ 200 ∧ -200 ≤ m ∧ m ≤ 200) :
    Calls Tryz.prog 83 #[.agg #[.int .i64 s, .int .i64 m]] w fun e w' => e = .returned (.bool true) ∧ Below w.heap.size w w' := by
  have H1 := Lib.hid fun w => size_c s w (by omega) (by omega)
  have H2 := Lib.hid fun w => size_c m w (by omega) (by omega)
  obtain ⟨x, hx⟩ : ∃ x, s.natAbs = x := ⟨_, rfl⟩
  obtain ⟨y, hy⟩ : ∃ y, m.natAbs = y := ⟨_, rfl⟩
  have hx2 : (x : Int) ≤ 200 := by omega
  have hy2 : (y : Int) ≤ 200 := by omega
  rw [hx] at H1
  rw [hy] at H2
  clear hx hy h
  go_enter Tryz.func83, Tryz.ntmps83
  go_wp2_with fail
  refine (H1.out _).mono ?_
  rintro e w1 ⟨rfl, rfl⟩
  go_wp2_with fail
  refine (H2.out _).mono ?_
  rintro e w1 ⟨rfl, rfl⟩
  go_wp2_with fail
  go_ret
  exact ⟨rfl, by go_grown⟩
set_option maxRecDepth 100000 in
theorem near_no (s m : Int) (w : World) (h : ¬ (-200 ≤ s ∧ s ≤ 200 ∧ -200 ≤ m ∧ m ≤ 200)) (hs0 : -9223372036854775808 ≤ s) (hs1 : s ≤ 9223372036854775807) (hm0 : -9223372036854775808 ≤ m) (hm1 : m ≤ 9223372036854775807) :
    Calls Tryz.prog 83 #[.agg #[.int .i64 s, .int .i64 m]] w fun e w' => e = .returned (.bool false) ∧ Below w.heap.size w w' := by
  have H1 := Lib.hid fun w => size_c s w (by omega) (by omega)
  have H2 := Lib.hid fun w => size_c m w (by omega) (by omega)
  obtain ⟨x, hx⟩ : ∃ x, s.natAbs = x := ⟨_, rfl⟩
  obtain ⟨y, hy⟩ : ∃ y, m.natAbs = y := ⟨_, rfl⟩
  rw [hx] at H1
  rw [hy] at H2
  by_cases hx2 : (x : Int) ≤ 200
  · have hy2 : ¬ (y : Int) ≤ 200 := by omega
    clear hx hy h hs0 hs1 hm0 hm1
    go_enter Tryz.func83, Tryz.ntmps83
    go_wp2_with fail
    refine (H1.out _).mono ?_
    rintro e w1 ⟨rfl, rfl⟩
    go_wp2_with fail
    refine (H2.out _).mono ?_
    rintro e w1 ⟨rfl, rfl⟩
    go_wp2_with fail
    go_ret
    exact ⟨ret_bool (by first | (simp; omega) | simp), by go_grown⟩
  · clear hx hy h hs0 hs1 hm0 hm1
    go_enter Tryz.func83, Tryz.ntmps83
    go_wp2_with fail
    refine (H1.out _).mono ?_
    rintro e w1 ⟨rfl, rfl⟩
    go_wp2_with fail
    go_ret
    exact ⟨ret_bool (by first | (simp; omega) | simp), by go_grown⟩

set_option maxRecDepth 100000 in
theorem Semitone_no (s a : Int) (w : World) (h : ¬ goodP s a) :
    Calls Tryz.prog 84 #[.agg #[.int .i64 s, .int .i64 a]] w fun e w' => e = .returned (.tuple #[.int .i64 0, .int .i64 34]) ∧ Below w.heap.size w w' := by
  have H := Lib.hid fun w => good_no s a w h
  clear h
  go_enter Tryz.func84, Tryz.ntmps84
  go_wp2_with (go_at_call 74; refine (H.out _).mono ?_; rintro e w1 ⟨rfl, hb1⟩; obtain ⟨hc1, hf1⟩ := bcell hb1; have hz1 := hb1.size; (try simp at hz1); have hy1 : w.heap.size < w1.heap.size := (by omega); have hB1 : Below w.heap.size w w1 := below_step (by go_grown) hb1)
  go_ret2
  exact ⟨rfl, by go_grown⟩
set_option maxRecDepth 100000 in
theorem Semitone_yes (s a : Int) (w : World) (h : goodP s a) :
    Calls Tryz.prog 84 #[.agg #[.int .i64 s, .int .i64 a]] w fun e w' => e = .returned (.tuple #[.int .i64 (nat7 s + a), .int .i64 0]) ∧ Below w.heap.size w w' := by
  have H := Lib.hid fun w => good_yes s a w h
  obtain ⟨h1, h2, h3, h4⟩ := h
  have HN := Lib.hid fun w => natural_c s w h1 (by omega)
  have hn := nat7_bd s h1 (by omega)
  generalize nat7 s = n at *
  have e1 : IntKind.i64.wrap (n + a) = n + a := IntWalk.i64_in _ ⟨by omega, by omega⟩
  have E1 := Lib.hid e1
  clear e1
  go_enter Tryz.func84, Tryz.ntmps84
  go_wp2_with (go_at_call 74; refine (H.out _).mono ?_; rintro e w1 ⟨rfl, hb1⟩; obtain ⟨hc1, hf1⟩ := bcell hb1; have hz1 := hb1.size; (try simp at hz1); have hy1 : w.heap.size < w1.heap.size := (by omega); have hB1 : Below w.heap.size w w1 := below_step (by go_grown) hb1)
  have k0 : w1.cell? ⟨w.heap.size, 0, none⟩ = some (.int .i64 s) := by go_simp
  have k1 : w1.cell? ⟨w.heap.size, 1, none⟩ = some (.int .i64 a) := by go_simp
  have e1 := E1.out
  clear hc1 hf1 hb1 hz1
  go_region_held3 (fun w' => Sk w1 w') (first | exact Sk_drew _ | exact Sk_call (by assumption) (by assumption))
    (first | (go_at_call 85; refine (HN.out _).mono ?_; rintro e w2 ⟨rfl, hb2⟩))
  have hS := (by assumption : Sk w1 _)
  clear e1
  go_wp2
  go_ret2
  exact ⟨rfl, hB1.trans (hS.2.mono (by omega))⟩
end Go.Proofs.YthfclapnkemjiaaGreatDoor
