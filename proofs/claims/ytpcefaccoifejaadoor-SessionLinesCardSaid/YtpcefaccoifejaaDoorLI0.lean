/-
  custoskit.Pick at three numbers, and what custoslaw13.SessionLines makes of any number. Conditions: the number is an int.
-/
import Derived.Test.YtpcefaccoifejaaDoorRU0
namespace Go.Proofs.YtpcefaccoifejaaDoor
open Go.RowKit
set_option linter.unusedSimpArgs false
set_option linter.unusedVariables false
set_option maxRecDepth 100000

def pickN (n x : Int) : Int := if Int.tmod x n < 0 then Int.tmod x n + n else Int.tmod x n
theorem pickN_in (n x : Int) (hn : 0 < n) : 0 ≤ pickN n x ∧ pickN n x < n := by
  unfold pickN
  have h1 := Int.tmod_lt_of_pos x hn
  have h2 := Int.lt_tmod_of_pos x hn
  split <;> omega
theorem Pick2_c (x : Int) (w : World) : Calls Tryd.prog 18 #[.int .i64 x, .int .i64 2] w fun e w' => e = .returned (.int .i64 (pickN 2 x)) ∧ w' = w := by
  have h1 := Int.tmod_lt_of_pos x (show (0 : Int) < 2 by omega)
  have h2 := Int.lt_tmod_of_pos x (show (0 : Int) < 2 by omega)
  by_cases h : Int.tmod x 2 < 0
  · have hp : pickN 2 x = Int.tmod x 2 + 2 := if_pos h
    rw [hp]
    go_enter Tryd.func18, Tryd.ntmps18
    go_wp2
    go_ret
    exact ⟨rfl, rfl⟩
  · have hp : pickN 2 x = Int.tmod x 2 := if_neg h
    rw [hp]
    go_enter Tryd.func18, Tryd.ntmps18
    go_wp2
    go_ret
    exact ⟨rfl, rfl⟩
theorem Pick16_c (x : Int) (w : World) : Calls Tryd.prog 18 #[.int .i64 x, .int .i64 16] w fun e w' => e = .returned (.int .i64 (pickN 16 x)) ∧ w' = w := by
  have h1 := Int.tmod_lt_of_pos x (show (0 : Int) < 16 by omega)
  have h2 := Int.lt_tmod_of_pos x (show (0 : Int) < 16 by omega)
  by_cases h : Int.tmod x 16 < 0
  · have hp : pickN 16 x = Int.tmod x 16 + 16 := if_pos h
    rw [hp]
    go_enter Tryd.func18, Tryd.ntmps18
    go_wp2
    go_ret
    exact ⟨rfl, rfl⟩
  · have hp : pickN 16 x = Int.tmod x 16 := if_neg h
    rw [hp]
    go_enter Tryd.func18, Tryd.ntmps18
    go_wp2
    go_ret
    exact ⟨rfl, rfl⟩
theorem Pick2000001_c (x : Int) (w : World) : Calls Tryd.prog 18 #[.int .i64 x, .int .i64 2000001] w fun e w' => e = .returned (.int .i64 (pickN 2000001 x)) ∧ w' = w := by
  have h1 := Int.tmod_lt_of_pos x (show (0 : Int) < 2000001 by omega)
  have h2 := Int.lt_tmod_of_pos x (show (0 : Int) < 2000001 by omega)
  by_cases h : Int.tmod x 2000001 < 0
  · have hp : pickN 2000001 x = Int.tmod x 2000001 + 2000001 := if_pos h
    rw [hp]
    go_enter Tryd.func18, Tryd.ntmps18
    go_wp2
    go_ret
    exact ⟨rfl, rfl⟩
  · have hp : pickN 2000001 x = Int.tmod x 2000001 := if_neg h
    rw [hp]
    go_enter Tryd.func18, Tryd.ntmps18
    go_wp2
    go_ret
    exact ⟨rfl, rfl⟩

def smallL (x : Int) : Int := pickN 2000001 (wrap64 (x + 1000000)) - 1000000
theorem smallL_in (x : Int) : -1000000 ≤ smallL x ∧ smallL x ≤ 1000000 := by
  have := pickN_in 2000001 (wrap64 (x + 1000000)) (by omega)
  unfold smallL
  omega
theorem lsmall_c (x : Int) (w : World) : Calls Tryd.prog 28 #[.int .i64 x] w fun e w' => e = .returned (.int .i64 (smallL x)) ∧ w' = w := by
  obtain ⟨h1, h2⟩ := pickN_in 2000001 (wrap64 (x + 1000000)) (by omega)
  have hP := Pick2000001_c (wrap64 (x + 1000000)) w
  unfold smallL
  generalize pickN 2000001 (wrap64 (x + 1000000)) = P at *
  go_enter Tryd.func28, Tryd.ntmps28
  go_wp2_with fail
  refine hP.mono ?_
  rintro e w2 ⟨rfl, rfl⟩
  go_wp2
  go_ret
  exact ⟨rfl, rfl⟩
end Go.Proofs.YtpcefaccoifejaaDoor
