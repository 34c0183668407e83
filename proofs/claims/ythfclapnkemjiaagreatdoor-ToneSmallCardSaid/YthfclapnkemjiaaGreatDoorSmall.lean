/-
  Contracts of tone.Bar, tone.Staff, tone.Sounding, tone.Key, and of Length, Bar, Base, Good of the reference. Conditions: integers are of their type.
-/
import Derived.Test.YthfclapnkemjiaaGreatDoorPitch
import Derived.Test.YthfclapnkemjiaaGreatDoorRef2
namespace Go.Proofs.YthfclapnkemjiaaGreatDoor
open Go.RowKit

def barP (b u : Int) : Prop := 1 ≤ b ∧ b ≤ 9 ∧ (u = 2 ∨ u = 4 ∨ u = 8)
set_option maxRecDepth 100000 in
set_option maxHeartbeats 1000000 in
theorem Bar_yes (b u : Int) (w : World) (h : barP b u) :
    Calls Tryz.prog 5 #[.agg #[.int .i64 b, .int .i64 u]] w fun e w' => e = .returned (ratioV b u) ∧ Below w.heap.size w w' := by
  obtain ⟨h1, h2, h3⟩ := h
  have H := Lib.hid fun (w : World) => Ratio_c b u w (by omega) (by omega) (by rcases h3 with rfl | rfl | rfl <;> decide) (by rcases h3 with rfl | rfl | rfl <;> decide)
  have HV : Hid (ratioV b u = .tuple #[.agg #[.int .i64 (ratioN b u), .int .i64 (ratioD b u)], .int .i64 (ratioE b u)]) := rfl
  rw [HV.out] at H ⊢
  generalize ratioN b u = x1 at *
  generalize ratioD b u = x2 at *
  generalize ratioE b u = x3 at *
  clear HV
  rcases h3 with rfl | rfl | rfl
  all_goals
    go_enter Tryz.func5, Tryz.ntmps5
    go_wp2_with (go_at_call 23; refine (H.out _).mono ?_; rintro e w1 ⟨rfl, hb1⟩; obtain ⟨hc1, hf1⟩ := bcell hb1; have hz1 := hb1.size; (try simp at hz1); have hy1 : w.heap.size < w1.heap.size := (by omega); have hB1 : Below w.heap.size w w1 := below_step (by go_grown) hb1)
    (try simp only [Exit.inBlock, Exit.then]); refine bodyPost_ret (by simp [results, Tryz.results5, go_sem, *]; try rfl) rfl ?_
    exact ⟨rfl, by go_grown⟩
set_option maxRecDepth 100000 in
set_option maxHeartbeats 1000000 in
theorem Bar_no (b u : Int) (w : World) (h : ¬ barP b u) :
    Calls Tryz.prog 5 #[.agg #[.int .i64 b, .int .i64 u]] w fun e w' => e = .returned (.tuple #[.agg #[.int .i64 0, .int .i64 0], .int .i64 32]) ∧ Below w.heap.size w w' := by
  unfold barP at h
  by_cases h1 : 1 ≤ b
  · by_cases h2 : b ≤ 9
    · have e2 : (u == 2) = false := beq_eq_false_iff_ne.2 (by omega)
      have e4 : (u == 4) = false := beq_eq_false_iff_ne.2 (by omega)
      have e8 : (u == 8) = false := beq_eq_false_iff_ne.2 (by omega)
      have n2 : (u != 2) = true := by rw [bne, e2]; rfl
      have n4 : (u != 4) = true := by rw [bne, e4]; rfl
      have n8 : (u != 8) = true := by rw [bne, e8]; rfl
      clear h
      go_enter Tryz.func5, Tryz.ntmps5
      go_wp2
      go_returns
      exact ⟨rfl, by go_grown⟩
    · clear h
      go_enter Tryz.func5, Tryz.ntmps5
      go_wp2
      go_returns
      exact ⟨rfl, by go_grown⟩
  · clear h
    go_enter Tryz.func5, Tryz.ntmps5
    go_wp2
    go_returns
    exact ⟨rfl, by go_grown⟩
set_option maxRecDepth 100000 in
set_option maxHeartbeats 1000000 in
theorem rBar_yes (b u : Int) (w : World) (h : barP b u) :
    Calls Tryz.prog 6 #[.agg #[.int .i64 b, .int .i64 u]] w fun e w' => e = .returned (ratioV b u) ∧ Below w.heap.size w w' := by
  obtain ⟨h1, h2, h3⟩ := h
  have H := Lib.hid fun (w : World) => rRatio_c b u w (by unfold i64P; omega) (by rcases h3 with rfl | rfl | rfl <;> (unfold i64P; decide))
  have HV : Hid (ratioV b u = .tuple #[.agg #[.int .i64 (ratioN b u), .int .i64 (ratioD b u)], .int .i64 (ratioE b u)]) := rfl
  rw [HV.out] at H ⊢
  generalize ratioN b u = x1 at *
  generalize ratioD b u = x2 at *
  generalize ratioE b u = x3 at *
  clear HV
  rcases h3 with rfl | rfl | rfl
  all_goals
    go_enter Tryz.func6, Tryz.ntmps6
    go_wp2_with (go_at_call 24; refine (H.out _).mono ?_; rintro e w1 ⟨rfl, hb1⟩; obtain ⟨hc1, hf1⟩ := bcell hb1; have hz1 := hb1.size; (try simp at hz1); have hy1 : w.heap.size < w1.heap.size := (by omega); have hB1 : Below w.heap.size w w1 := below_step (by go_grown) hb1)
    (try simp only [Exit.inBlock, Exit.then]); refine bodyPost_ret (by simp [results, Tryz.results6, go_sem, *]; try rfl) rfl ?_
    exact ⟨rfl, by go_grown⟩
set_option maxRecDepth 100000 in
set_option maxHeartbeats 1000000 in
theorem rBar_no (b u : Int) (w : World) (h : ¬ barP b u) :
    Calls Tryz.prog 6 #[.agg #[.int .i64 b, .int .i64 u]] w fun e w' => e = .returned (.tuple #[.agg #[.int .i64 0, .int .i64 0], .int .i64 32]) ∧ Below w.heap.size w w' := by
  unfold barP at h
  by_cases h1 : 1 ≤ b
  · by_cases h2 : b ≤ 9
    · have e2 : (u == 2) = false := beq_eq_false_iff_ne.2 (by omega)
      have e4 : (u == 4) = false := beq_eq_false_iff_ne.2 (by omega)
      have e8 : (u == 8) = false := beq_eq_false_iff_ne.2 (by omega)
      have n2 : (u != 2) = true := by rw [bne, e2]; rfl
      have n4 : (u != 4) = true := by rw [bne, e4]; rfl
      have n8 : (u != 8) = true := by rw [bne, e8]; rfl
      clear h
      go_enter Tryz.func6, Tryz.ntmps6
      go_wp2
      go_returns
      exact ⟨rfl, by go_grown⟩
    · clear h
      go_enter Tryz.func6, Tryz.ntmps6
      go_wp2
      go_returns
      exact ⟨rfl, by go_grown⟩
  · clear h
    go_enter Tryz.func6, Tryz.ntmps6
    go_wp2
    go_returns
    exact ⟨rfl, by go_grown⟩
/-- both give the same three numbers -/
theorem Bar_both (b u : Int) : ∃ x y z : Int, (∀ w, Calls Tryz.prog 5 #[.agg #[.int .i64 b, .int .i64 u]] w fun e w' => e = .returned (.tuple #[.agg #[.int .i64 x, .int .i64 y], .int .i64 z]) ∧ Below w.heap.size w w') ∧
    (∀ w, Calls Tryz.prog 6 #[.agg #[.int .i64 b, .int .i64 u]] w fun e w' => e = .returned (.tuple #[.agg #[.int .i64 x, .int .i64 y], .int .i64 z]) ∧ Below w.heap.size w w') := by
  by_cases h : barP b u
  · exact ⟨_, _, _, fun w => Bar_yes b u w h, fun w => rBar_yes b u w h⟩
  · exact ⟨_, _, _, fun w => Bar_no b u w h, fun w => rBar_no b u w h⟩
end Go.Proofs.YthfclapnkemjiaaGreatDoor
