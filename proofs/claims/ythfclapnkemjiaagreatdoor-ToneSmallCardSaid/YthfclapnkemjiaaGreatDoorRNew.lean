/-
  The contract of New of the reference: a state by value. Condition: integers are of their type.
-/
import Derived.Test.YthfclapnkemjiaaGreatDoorRState
import Derived.Test.YthfclapnkemjiaaGreatDoorLine
namespace Go.Proofs.YthfclapnkemjiaaGreatDoor
open Go.RowKit
set_option linter.unusedSimpArgs false
set_option linter.unusedVariables false

theorem below_setRow {w u : World} {g : Nat} {cs : Array Value} (h : Below w.heap.size w u) (hg : w.heap.size ≤ g) : Below w.heap.size w (u.setRow g cs) :=
  ⟨h.os, h.tape, h.output, by simpa using h.size, fun i hi => (setRow_other u g i cs (by omega)).trans (h.block i hi)⟩
theorem results_row2 {P : Program} {fn : Func} {p q : Tmp} {ty : TypeId} (h : fn.results = #[.cell p ty, .tmp q]) (tmps : Array Value) (w : World) (g : Nat) (t : TypeId) (cs : Array Value) (fr : Nat × Nat) (d : TypeDesc) (u : Value)
    (hp : tmps.getD p undef = .pointer (some ⟨g, 0, none⟩)) (hq : tmps.getD q undef = u) (hg : w.heap[g]? = some (.cells cs t fr))
    (hu : P.underlying ty = some d) (hd : (match d with | .struct _ | .array _ _ => true | _ => false) = true) (hi : (P.info? ty).map (·.size) = some cs.size) :
    (results fn tmps).run P w = .ok (.tuple #[.agg cs, u]) w := by
  have hp' : tmps[p]?.getD undef = .pointer (some ⟨g, 0, none⟩) := by simpa using hp
  have hq' : tmps[q]?.getD undef = u := by simpa using hq
  simp [results, h, hp', hq', asAddr, run_loadVar_row w g t ty cs fr d hg hu hd hi]
theorem zero_row (key : Int) : Tryz.zeroCells63.setIfInBounds 0 (.int .i64 key) = rowOf key (fun _ => 0) := by kernel_rfl
theorem zero_row0 : Tryz.zeroCells63 = rowOf 0 (fun _ => 0) := by kernel_rfl
theorem info_row : (Tryz.prog.info? 63).map (·.size) = some 71 := by kernel_rfl
theorem row_one (key : Int) (f : Nat → Int) : (rowOf key f).all (·.oneCell') = true := by
  rw [Array.all_eq_true_iff_forall_mem]
  intro v hv
  unfold rowOf at hv
  simp only [List.mem_toArray, List.mem_cons, List.mem_map] at hv
  rcases hv with rfl | ⟨i, _, rfl⟩ <;> rfl
set_option maxRecDepth 100000 in
set_option maxHeartbeats 2000000 in
theorem rNew_yes (key : Int) (w : World) (h1 : -4 ≤ key) (h2 : key ≤ 4) :
    Calls Tryz.prog 38 #[.int .i64 key] w fun e w' => e = .returned (.tuple #[.agg (rowOf key (fun j => keyAlt key (j : Int))), .int .i64 0]) ∧ Below w.heap.size w w' := by
  have H := Lib.hid (fun w => rIsKey_yes key w h1 h2)
  go_enter Tryz.func38, Tryz.ntmps38
  go_wp2_with fail
  refine (H.out _).mono ?_
  rintro e w' ⟨rfl, rfl⟩
  go_wp2_with (refine wpList_store_row rfl 63 (.tmp 4) (.tmp 10) rfl (w.heap.size + 1) _ rfl rfl 63 _ (heap_alloc2_new w _ _) ?c2 ?c3 ?c4 ?_)
  case c2 => rw [zero_row, rowOf_size]; exact info_row
  case c3 => rw [zero_row, zero_row0, rowOf_size, rowOf_size]
  case c4 => rw [zero_row]; exact row_one _ _
  refine calls_named fun W hW => ?_
  have hR : RSt W (w.heap.size + 1) key (fun _ => 0) := by
    rw [hW]
    unfold RSt
    rw [setRow_heap _ _ _ _ _ _ (heap_alloc2_new w _ _), zero_row]
  have hO : W.heap[w.heap.size]? = some (.cells Tryz.zeroCells63 63 (0, 0)) := by
    rw [hW, setRow_other _ _ _ _ (by omega)]
    exact heap_alloc2_old w _ _
  have hz : W.heap.size = w.heap.size + 1 + 1 := by rw [hW]; simp
  have HB : Below w.heap.size w W := by rw [hW]; exact below_setRow (by go_grown) (by omega)
  clear hW
  refine (rReset_c _ key _ W hR h1 h2).mono ?_
  rintro e w2 ⟨rfl, hR2, hg2⟩
  have hO2 : w2.heap[w.heap.size]? = some (.cells Tryz.zeroCells63 63 (0, 0)) := (hg2.block _ (by omega) (by simp)).trans hO
  have HB2 : Below w.heap.size w w2 := HB.grown hg2 (by omega) (fun k hk => by injection hk with hk; omega)
  have hr2 : w2.heap[w.heap.size + 1]? = some (.cells (rowOf key (fun j => keyAlt key (j : Int))) 63 (0, 0)) := hR2
  have hsz : (rowOf key (fun j => keyAlt key (j : Int))).size = 71 := rowOf_size _ _
  have hone := row_one key (fun j => keyAlt key (j : Int))
  clear hR hO hz HB hR2 hg2
  obtain ⟨row, hrow⟩ : ∃ r, rowOf key (fun j => keyAlt key (j : Int)) = r := ⟨_, rfl⟩
  rw [hrow] at hr2 hsz hone
  have HROW := Lib.hid hrow
  clear hrow
  have hi : (Tryz.prog.info? 63).map (·.size) = some row.size := by rw [hsz]; exact info_row
  have hold : Tryz.zeroCells63.size = row.size := by rw [hsz, zero_row0, rowOf_size]
  have X1 := Lib.hid hr2
  have X2 := Lib.hid hO2
  have X3 := Lib.hid hi
  have X4 := Lib.hid hold
  have X5 := Lib.hid hone
  have X6 := Lib.hid HB2
  clear hr2 hO2 hi hold hone HB2 hsz
  go_wp2_with (first | (refine wpList_load_row rfl 63 (.tmp 4) rfl (w.heap.size + 1) rfl 63 row (0, 0) _ X1.out Tryz.underlying63 rfl X3.out ?_) | (refine wpList_store_row rfl 63 (.tmp 2) (.tmp 12) rfl w.heap.size row rfl rfl 63 _ X2.out X3.out X4.out X5.out ?_))
  exact bodyPost_ret (v := .tuple #[.agg row, .int .i64 0]) (results_row2 Tryz.results38 _ _ w.heap.size 63 row (0, 0) _ _ rfl rfl (setRow_heap _ _ _ _ _ _ X2.out) Tryz.underlying63 rfl X3.out) rfl ⟨by rw [HROW.out], below_setRow X6.out (Nat.le_refl _)⟩
set_option maxRecDepth 100000 in
set_option maxHeartbeats 2000000 in
theorem rNew_no (key : Int) (w : World) (h : key < -4 ∨ 4 < key) :
    Calls Tryz.prog 38 #[.int .i64 key] w fun e w' => e = .returned (.tuple #[.agg (rowOf 0 (fun _ => 0)), .int .i64 31]) ∧ Below w.heap.size w w' := by
  have H := Lib.hid (fun w => rIsKey_no key w h)
  clear h
  have hsz : (rowOf 0 (fun _ => 0)).size = 71 := rowOf_size _ _
  have hone := row_one 0 (fun _ => 0)
  rw [← zero_row0] at hsz hone ⊢
  have hi : (Tryz.prog.info? 63).map (·.size) = some Tryz.zeroCells63.size := by rw [hsz]; exact info_row
  have X2 := Lib.hid (heap_alloc_new w (.cells Tryz.zeroCells63 63))
  have X3 := Lib.hid hi
  have X5 := Lib.hid hone
  clear hi hone hsz
  go_enter Tryz.func38, Tryz.ntmps38
  go_wp2_with fail
  refine (H.out _).mono ?_
  rintro e w' ⟨rfl, rfl⟩
  go_wp2_with (refine wpList_store_row rfl 63 (.tmp 2) (.tmp 8) rfl w.heap.size Tryz.zeroCells63 rfl rfl 63 _ X2.out X3.out rfl X5.out ?_)
  exact bodyPost_ret (v := .tuple #[.agg Tryz.zeroCells63, .int .i64 31]) (results_row2 Tryz.results38 _ _ w.heap.size 63 _ (0, 0) _ _ rfl rfl (setRow_heap _ _ _ _ _ _ X2.out) Tryz.underlying63 rfl X3.out) rfl ⟨rfl, below_setRow (by go_grown) (Nat.le_refl _)⟩
end Go.Proofs.YthfclapnkemjiaaGreatDoor
