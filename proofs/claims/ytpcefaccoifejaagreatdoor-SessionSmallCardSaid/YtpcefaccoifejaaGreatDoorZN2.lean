/-
  Features and Weights where there is no session. Conditions: as NoS says.
-/
import Derived.Test.YtpcefaccoifejaaGreatDoorZN1
namespace Go.Proofs.YtpcefaccoifejaaGreatDoor
open Go.RowKit Go.Maps
set_option linter.unusedSimpArgs false
set_option linter.unusedVariables false
set_option maxRecDepth 100000

set_option maxHeartbeats 1000000 in
theorem FeaturesN_c (v : Value) (w : World) (h : NoS w v) : Calls Tryz.prog 23 #[v] w fun e w' => e = .returned (.tuple #[.slice none 0 0, .int .i64 7]) ∧ Below w.heap.size w w' := by
  have H := Lib.hid fun W (hb : Below w.heap.size w W) => noneN_c v W (h.below hb)
  have hv : ∃ q, v = .pointer q := by
    rcases h with h | ⟨p, h, -⟩
    · exact ⟨_, h⟩
    · exact ⟨_, h⟩
  obtain ⟨q, rfl⟩ := hv
  clear h
  refine (callsIn_wide (n := 6)).1 ?_
  refine callsIn_of_wp_marks Tryz.func23 rfl trivial ?_ rfl
  simp only [Tryz.ntmps23, List.size_toArray, List.length_cons, List.length_nil, Nat.reduceAdd, Nat.reduceSub, Array.replicate_succ, Array.replicate_zero, List.push_toArray, List.append_toArray, List.nil_append, List.cons_append]
  gi_wp2_with fail
  refine ⟨trivial, ?_⟩
  refine (callsIn_wide.2 (H.out _ (by go_grown))).mono ?_
  rintro e w1 ⟨rfl, rfl⟩
  gi_wp2_with fail
  exact ⟨_, results_tmp2 Tryz.results23 _ _ _, rfl, by go_grown⟩
set_option maxHeartbeats 1000000 in
theorem WeightsN_c (v : Value) (w : World) (h : NoS w v) : Calls Tryz.prog 18 #[v] w fun e w' => e = .returned (.tuple #[.agg (rowW (fun _ => 0)), .int .i64 7]) ∧ Below w.heap.size w w' := by
  have H := Lib.hid fun W (hb : Below w.heap.size w W) => noneN_c v W (h.below hb)
  have hv : ∃ q, v = .pointer q := by
    rcases h with h | ⟨p, h, -⟩
    · exact ⟨_, h⟩
    · exact ⟨_, h⟩
  obtain ⟨q, rfl⟩ := hv
  clear h
  refine (callsIn_wide (n := 6)).1 ?_
  refine callsIn_of_wp_marks Tryz.func18 rfl trivial ?_ rfl
  simp only [Tryz.ntmps18, List.size_toArray, List.length_cons, List.length_nil, Nat.reduceAdd, Nat.reduceSub, Array.replicate_succ, Array.replicate_zero, List.push_toArray, List.append_toArray, List.nil_append, List.cons_append]
  refine wpIn_wide.2 ?_
  go_wp2_with fail
  refine (H.out _ (by go_grown)).mono ?_
  rintro e w1 ⟨rfl, rfl⟩
  go_wp2_with fail
  exact ⟨_, results_row2 Tryz.results18 _ _ w.heap.size 64 (rowW (fun _ => 0)) (0, 0) _ _ rfl rfl ((heap_alloc_new _ _).trans (congrArg (fun c => some (Obj.cells c _ (0, 0))) (by kernel_rfl))) Tryz.underlying64 rfl (by rw [rowW_size]; exact infoW), rfl, by go_grown⟩
end Go.Proofs.YtpcefaccoifejaaGreatDoor
