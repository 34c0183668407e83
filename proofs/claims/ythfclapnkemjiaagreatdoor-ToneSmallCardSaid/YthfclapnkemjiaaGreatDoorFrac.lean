/-
  Contracts of tone.valid, Length, Bar, and of Add, Sub, Mul, Div, Cmp. Conditions: integers are of their type.
-/
import Derived.Test.YthfclapnkemjiaaGreatDoorRatio
namespace Go.Proofs.YthfclapnkemjiaaGreatDoor
open Go.RowKit

theorem ratioE_cases (n d : Int) : ratioE n d = 0 ∨ ratioE n d = 1 ∨ ratioE n d = 8 := by
  unfold ratioE; split
  · simp
  · split <;> simp
def validB (N D : Int) : Bool := decide (ratioE N D = 0 ∧ ratioN N D = N ∧ ratioD N D = D)

set_option maxRecDepth 100000 in
theorem valid_c (N D : Int) (w : World) (hn0 : -9223372036854775808 ≤ N) (hn1 : N ≤ 9223372036854775807) (hd0 : -9223372036854775808 ≤ D) (hd1 : D ≤ 9223372036854775807) :
    Calls Tryz.prog 72 #[.agg #[.int .i64 N, .int .i64 D]] w fun e w' => e = .returned (.bool (validB N D)) ∧ Below w.heap.size w w' := by
  have H := Lib.hid fun w => Ratio_c N D w hn0 hn1 hd0 hd1
  unfold ratioV at H
  have HV : Hid (validB N D = decide (ratioE N D = 0 ∧ ratioN N D = N ∧ ratioD N D = D)) := rfl
  generalize validB N D = v at *
  generalize ratioN N D = p at *
  generalize ratioD N D = q at *
  generalize ratioE N D = r at *
  by_cases h : r = 0
  · subst h
    go_enter Tryz.func72, Tryz.ntmps72
    go_wp2_with (go_at_call 23; refine (H.out _).mono ?_; rintro e w1 ⟨rfl, hb1⟩; obtain ⟨hc1, hf1⟩ := bcell hb1; have hz1 := hb1.size; (try simp at hz1); have hy1 : w.heap.size < w1.heap.size := (by omega); have hB1 : Below w.heap.size w w1 := below_step (by go_grown) hb1)
    all_goals
      go_ret
      exact ⟨ret_bool (by rw [HV.out]; simp [eq_comm, *]), by go_grown⟩
  · have hb : (r == 0) = false := beq_eq_false_iff_ne.2 h
    have HR := Lib.hid h
    clear h
    go_enter Tryz.func72, Tryz.ntmps72
    go_wp2_with (go_at_call 23; refine (H.out _).mono ?_; rintro e w1 ⟨rfl, hb1⟩; obtain ⟨hc1, hf1⟩ := bcell hb1; have hz1 := hb1.size; (try simp at hz1); have hy1 : w.heap.size < w1.heap.size := (by omega); have hB1 : Below w.heap.size w w1 := below_step (by go_grown) hb1)
    go_ret
    exact ⟨ret_bool (by rw [HV.out]; simp [HR.out]), by go_grown⟩

def lenN (dot triple : Bool) : Int := (if triple then 2 else 1) * (if dot then 3 else 1)
def lenD (v : Int) (dot triple : Bool) : Int := (if triple then 3 else 1) * ((if dot then 2 else 1) * v)
def isValue (v : Int) : Prop := v = 1 ∨ v = 2 ∨ v = 4 ∨ v = 8 ∨ v = 16
set_option maxRecDepth 100000 in
theorem Length_no (v : Int) (dot triple : Bool) (w : World) (h : ¬ isValue v) :
    Calls Tryz.prog 27 #[.int .i64 v, .bool dot, .bool triple] w fun e w' => e = .returned (.tuple #[.agg #[.int .i64 0, .int .i64 0], .int .i64 33]) ∧ Below w.heap.size w w' := by
  unfold isValue at h
  have h1 : (v == 1) = false := beq_eq_false_iff_ne.2 (by omega)
  have h2 : (v == 2) = false := beq_eq_false_iff_ne.2 (by omega)
  have h3 : (v == 4) = false := beq_eq_false_iff_ne.2 (by omega)
  have h4 : (v == 8) = false := beq_eq_false_iff_ne.2 (by omega)
  have h5 : (v == 16) = false := beq_eq_false_iff_ne.2 (by omega)
  clear h
  go_enter Tryz.func27, Tryz.ntmps27
  go_wp2
  go_returns
  exact ⟨rfl, by go_grown⟩
set_option maxRecDepth 100000 in
set_option maxHeartbeats 4000000 in
theorem Length_yes (v : Int) (dot triple : Bool) (w : World) (h : isValue v) :
    Calls Tryz.prog 27 #[.int .i64 v, .bool dot, .bool triple] w fun e w' => e = .returned (ratioV (lenN dot triple) (lenD v dot triple)) ∧ Below w.heap.size w w' := by
  have hv : ∀ n d : Int, ratioV n d = .tuple #[.agg #[.int .i64 (ratioN n d), .int .i64 (ratioD n d)], .int .i64 (ratioE n d)] := fun _ _ => rfl
  have H := Lib.hid fun (n d : Int) (w : World) h1 h2 h3 h4 => Ratio_c n d w h1 h2 h3 h4
  have HV := Lib.hid hv
  clear hv
  rcases h with rfl | rfl | rfl | rfl | rfl <;> cases dot <;> cases triple
  all_goals
    go_enter Tryz.func27, Tryz.ntmps27
    go_wp2_with (go_at_call 23; refine (H.out _ _ _ (by decide) (by decide) (by decide) (by decide)).mono ?_; (try rw [HV.out]); rintro e w1 ⟨rfl, hb1⟩; obtain ⟨hc1, hf1⟩ := bcell hb1; have hz1 := hb1.size; (try simp at hz1); have hy1 : w.heap.size < w1.heap.size := (by omega); have hB1 : Below w.heap.size w w1 := below_step (by go_grown) hb1)
    (try simp only [Exit.inBlock, Exit.then]); refine bodyPost_ret (by simp [results, Tryz.results27, go_sem, *]; try rfl) rfl ?_
    exact ⟨rfl, by go_grown⟩
end Go.Proofs.YthfclapnkemjiaaGreatDoor
