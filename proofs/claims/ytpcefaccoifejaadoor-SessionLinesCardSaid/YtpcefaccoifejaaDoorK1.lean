/-
  Equality of places, options and acts, and contracts of custoskit over options, features and places. Conditions: what is read lies in memory as SW says.
-/
import Derived.Test.YtpcefaccoifejaaDoorSW
import Derived.Laws.StructEq
namespace Go.Proofs.YtpcefaccoifejaaDoor
open Go.RowKit Go.Maps
set_option linter.unusedSimpArgs false
set_option linter.unusedVariables false
set_option maxRecDepth 100000

theorem ein_opt (x y x' y' : Int) (w : World) : (Op.equalIn 10000 51 (.agg #[.int .i64 x, .int .i64 y]) (.agg #[.int .i64 x', .int .i64 y'])).run Tryd.prog w = .ok (decide ((x, y) = (x', y'))) w := by
  have u3 := Tryd.underlying3
  have a3 := Tryd.isAgg3
  have z3 := Tryd.sizeOf3
  have hS : Tryd.prog.underlying 51 = some (.struct (Tryd.prog.fieldsOf 51)) := by kernel_rfl
  have hp : Tryd.prog.stoodInHeld 51 = false := by kernel_rfl
  rw [show (10000 : Nat) = 9999 + 1 from rfl, run_equalIn_agg w 9999 51 _ _ hS hp]
  simp only [Program.fieldsOf, Tryd.underlying51]
  go_simp
  by_cases h1 : x = x' <;> by_cases h2 : y = y' <;> simp [h1, h2]
theorem ein_pl (a b c d e a' b' c' d' e' : Int) (w : World) : (Op.equalIn 10000 26 (.agg #[.int .i64 a, .int .i64 b, .int .i64 c, .int .i64 d, .int .i64 e]) (.agg #[.int .i64 a', .int .i64 b', .int .i64 c', .int .i64 d', .int .i64 e'])).run Tryd.prog w = .ok (decide ((a, b, c, d, e) = (a', b', c', d', e'))) w := by
  have u3 := Tryd.underlying3
  have a3 := Tryd.isAgg3
  have z3 := Tryd.sizeOf3
  have u4 := Tryd.underlying24
  have a4 := Tryd.isAgg24
  have z4 := Tryd.sizeOf24
  have hS : Tryd.prog.underlying 26 = some (.struct (Tryd.prog.fieldsOf 26)) := by kernel_rfl
  have hp : Tryd.prog.stoodInHeld 26 = false := by kernel_rfl
  rw [show (10000 : Nat) = 9999 + 1 from rfl, run_equalIn_agg w 9999 26 _ _ hS hp]
  simp only [Program.fieldsOf, Tryd.underlying26]
  go_simp
  by_cases h1 : a = a' <;> by_cases h2 : b = b' <;> by_cases h3 : c = c' <;> by_cases h4 : d = d' <;> by_cases h5 : e = e' <;> simp [h1, h2, h3, h4, h5]
theorem ein_act (k a b c d e v k' a' b' c' d' e' v' : Int) (w : World) : (Op.equalIn 10000 63 (.agg #[.int .i64 k, .int .i64 a, .int .i64 b, .int .i64 c, .int .i64 d, .int .i64 e, .int .i64 v]) (.agg #[.int .i64 k', .int .i64 a', .int .i64 b', .int .i64 c', .int .i64 d', .int .i64 e', .int .i64 v'])).run Tryd.prog w = .ok (decide ((k, (a, b, c, d, e), v) = (k', (a', b', c', d', e'), v'))) w := by
  have u3 := Tryd.underlying3
  have a3 := Tryd.isAgg3
  have z3 := Tryd.sizeOf3
  have u4 := Tryd.underlying24
  have a4 := Tryd.isAgg24
  have z4 := Tryd.sizeOf24
  have u5 := Tryd.underlying61
  have a5 := Tryd.isAgg61
  have z5 := Tryd.sizeOf61
  have a6 := Tryd.isAgg26
  have z6 := Tryd.sizeOf26
  have hS : Tryd.prog.underlying 63 = some (.struct (Tryd.prog.fieldsOf 63)) := by kernel_rfl
  have hp : Tryd.prog.stoodInHeld 63 = false := by kernel_rfl
  have hS2 : Tryd.prog.underlying 26 = some (.struct (Tryd.prog.fieldsOf 26)) := by kernel_rfl
  have hp2 : Tryd.prog.stoodInHeld 26 = false := by kernel_rfl
  have hi : ∀ w, (Op.equalIn 9999 26 (.agg #[.int .i64 a, .int .i64 b, .int .i64 c, .int .i64 d, .int .i64 e]) (.agg #[.int .i64 a', .int .i64 b', .int .i64 c', .int .i64 d', .int .i64 e'])).run Tryd.prog w = .ok (decide ((a, b, c, d, e) = (a', b', c', d', e'))) w := fun w => by
    rw [show (9999 : Nat) = 9998 + 1 from rfl, run_equalIn_agg w 9998 26 _ _ hS2 hp2]
    simp only [Program.fieldsOf, Tryd.underlying26]
    go_simp
    by_cases h1 : a = a' <;> by_cases h2 : b = b' <;> by_cases h3 : c = c' <;> by_cases h4 : d = d' <;> by_cases h5 : e = e' <;> simp [h1, h2, h3, h4, h5]
  rw [show (10000 : Nat) = 9999 + 1 from rfl, run_equalIn_agg w 9999 63 _ _ hS hp]
  simp only [Program.fieldsOf, Tryd.underlying63]
  go_simp
  by_cases h1 : k = k' <;> by_cases h2 : (a, b, c, d, e) = (a', b', c', d', e') <;> by_cases h3 : v = v' <;> simp_all
end Go.Proofs.YtpcefaccoifejaaDoor
