/-
  A row of seventeen numbers in memory, and the contract of solve.Plain. No condition.
-/
import Derived.Test.YtpcefaccoifejaaGreatDoorK14
import Derived.Laws.Tables
namespace Go.Proofs.YtpcefaccoifejaaGreatDoor
open Go.RowKit Go.Maps
set_option linter.unusedSimpArgs false
set_option linter.unusedVariables false
set_option maxRecDepth 100000

def rowW (f : Nat → Int) : Array Value := ((List.range 17).map fun i => Value.int .i64 (f i)).toArray
theorem rowW_size (f : Nat → Int) : (rowW f).size = 17 := by simp [rowW]
theorem rowW_at (f : Nat → Int) {i : Nat} (h : i < 17) : (rowW f)[i]? = some (.int .i64 (f i)) := by
  unfold rowW
  rw [List.getElem?_toArray, List.getElem?_map, List.getElem?_range h]
  rfl
def updN (f : Nat → Int) (i : Nat) (v : Int) : Nat → Int := fun j => if j = i then v else f j
theorem rowW_ext {f g : Nat → Int} (h : ∀ i, i < 17 → f i = g i) : rowW f = rowW g := by
  unfold rowW
  congr 1
  exact List.map_congr_left fun i hi => by rw [h i (List.mem_range.1 hi)]
theorem rowW_set (f : Nat → Int) {i : Nat} (v : Int) (h : i < 17) : (rowW f).setIfInBounds i (.int .i64 v) = rowW (updN f i v) := by
  apply Array.ext_getElem?
  intro j
  rw [Array.getElem?_setIfInBounds, rowW_size]
  by_cases hj : j < 17
  · rw [rowW_at _ hj, rowW_at _ hj]
    unfold updN
    by_cases e : i = j
    · subst e; rw [if_pos rfl, if_pos h, if_pos rfl]
    · rw [if_neg e, if_neg (fun x => e x.symm)]
  · have hz : ∀ g, (rowW g)[j]? = none := fun g => Array.getElem?_eq_none (by rw [rowW_size]; omega)
    rw [hz, hz, if_neg (by omega)]
theorem rowW_one (f : Nat → Int) : (rowW f).all (·.oneCell') = true := by
  rw [Array.all_eq_true_iff_forall_mem]
  intro v hv
  unfold rowW at hv
  simp only [List.mem_toArray, List.mem_map] at hv
  obtain ⟨i, _, rfl⟩ := hv
  rfl
theorem infoW : (Tryz.prog.info? 64).map (·.size) = some 17 := by kernel_rfl
/-- block b is such a row -/
def WAt (w : World) (b : Nat) (f : Nat → Int) : Prop := w.heap[b]? = some (.cells (rowW f) 64 (0, 0))
section
variable {w w' : World} {b : Nat} {f : Nat → Int}
theorem WAt.lt (h : WAt w b f) : b < w.heap.size := (Array.getElem?_eq_some_iff.1 h).1
theorem WAt.at (h : WAt w b f) {i : Nat} (hi : i < 17) : w.cell? ⟨b, i, none⟩ = some (.int .i64 (f i)) := by rw [cell_of_row w b _ _ _ _ h, rowW_at f hi]
theorem WAt.free (h : WAt w b f) (i : Nat) : w.frozen? ⟨b, i, none⟩ = false := frozen_of_row w b i _ _ h
theorem WAt.set (h : WAt w b f) {i : Nat} (hi : i < 17) (v : Int) : WAt (w.setCell ⟨b, i, none⟩ (.int .i64 v)) b (updN f i v) := by
  have := heap_setCell_same w b i _ _ (.int .i64 v) h
  rwa [rowW_set f v hi] at this
theorem WAt.below (h : WAt w b f) (hb : Below w.heap.size w w') : WAt w' b f := (hb.block b h.lt).trans h
theorem WAt.ext {g : Nat → Int} (h : WAt w b f) (e : ∀ i, i < 17 → f i = g i) : WAt w b g := by rw [WAt, ← rowW_ext e]; exact h
end
theorem below_setRowW {w u : World} {g : Nat} {cs : Array Value} (h : Below w.heap.size w u) (hg : w.heap.size ≤ g) : Below w.heap.size w (u.setRow g cs) :=
  ⟨h.os, h.tape, h.output, by simpa using h.size, fun i hi => (setRow_other u g i cs (by omega)).trans (h.block i hi)⟩
set_option maxHeartbeats 1000000 in
theorem Plain_c (w : World) : Calls Tryz.prog 45 #[] w fun e w' => e = .returned (.agg (rowW (fun _ => 4))) ∧ Below w.heap.size w w' := by
  go_enter Tryz.func45, Tryz.ntmps45
  go_wp2
  go_loopw [3] (fun i wr => ∃ k : Nat, k ≤ 17 ∧ i = .int .i64 (k : Int) ∧ WAt wr (w.heap.size + 1) (fun j => if j < k then 4 else 0) ∧ WAt wr w.heap.size (fun _ => 0) ∧ Below w.heap.size w wr)
    (fun i wr => 17 - (intOf i).toNat)
  case atStart => exact ⟨0, by omega, rfl, (heap_alloc2_new w _ _).trans (congrArg (fun c => some (Obj.cells c _ (0, 0))) (by kernel_rfl)), (heap_alloc2_old w _ _).trans (congrArg (fun c => some (Obj.cells c _ (0, 0))) (by kernel_rfl)), by go_grown⟩
  case round =>
    obtain ⟨k, hk, rfl, hw1, hw0, hB⟩ := hrel
    have H1 := Lib.hid hw1
    have H0 := Lib.hid hw0
    have HB := Lib.hid hB
    by_cases h : k < 17
    · have c0 := hw1.at h
      have f0 := hw1.free k
      have i0 : (0 : Int) ≤ k := by omega
      have i1 : (k : Int) < 17 := by omega
      have hz1 := hw1.lt
      clear hw1 hw0 hB
      generalize (if k < k then (4 : Int) else 0) = z at c0
      go_wp2
      go_roundw
      case rel =>
        refine ⟨k + 1, by omega, by go_num, ?_, ?_, ?_⟩
        · exact (H1.out.set h 4).ext fun i hi => by unfold updN; dsimp only; (repeat' split) <;> omega
        · exact (Below.heap_setCell wr ⟨w.heap.size + 1, k, none⟩ _ w.heap.size (fun e => by dsimp only at e; omega)).trans H0.out
        · exact HB.out.setCell (p := ⟨w.heap.size + 1, k, none⟩) (by dsimp only; omega) _
      case measure => simp [intOf]; omega
    · obtain rfl : k = 17 := by omega
      have hr1 : wr.heap[w.heap.size + 1]? = some (.cells (rowW (fun _ => 4)) 64 (0, 0)) := hw1.ext (g := fun _ => 4) fun i hi => if_pos hi
      have X1 := Lib.hid hr1
      have hsz : (rowW (fun _ => 4)).size = 17 := rowW_size _
      have hone := rowW_one (fun _ => 4)
      have hi : (Tryz.prog.info? 64).map (·.size) = some (rowW (fun _ => 4)).size := by rw [hsz]; exact infoW
      have hold : (rowW (fun _ => 0)).size = (rowW (fun _ => 4)).size := by rw [rowW_size, rowW_size]
      have X3 := Lib.hid hi
      have X4 := Lib.hid hold
      have X5 := Lib.hid hone
      have X2 := Lib.hid (show wr.heap[w.heap.size]? = some (.cells (rowW (fun _ => 0)) 64 (0, 0)) from hw0)
      clear hr1 hi hold hone hsz hw1 hw0 hB H1
      generalize hrow : rowW (fun _ => 4) = row at *
      have HROW := Lib.hid hrow
      clear hrow
      generalize rowW (fun _ => 0) = old at *
      go_wp2_with (first | (refine wpList_load_row rfl 64 (.tmp 1) rfl (w.heap.size + 1) rfl 64 row (0, 0) _ X1.out Tryz.underlying64 rfl X3.out ?_) | (refine wpList_store_row rfl 64 (.tmp 0) (.tmp 9) rfl w.heap.size row rfl rfl 64 _ X2.out X3.out X4.out X5.out ?_))
      exact bodyPost_ret (results_cell_row Tryz.results45 _ _ w.heap.size 64 row (0, 0) _ rfl (setRow_heap _ _ _ _ _ _ X2.out) Tryz.underlying64 rfl X3.out) rfl ⟨by rw [HROW.out], below_setRowW HB.out (Nat.le_refl _)⟩
end Go.Proofs.YtpcefaccoifejaaGreatDoor
