/-
  Contracts of State.Hear. Conditions: integers are of their type; the map has room.
-/
import Derived.Test.YthfclapnkemjiaaGreatDoorState
import Derived.StillTailTactics
namespace Go.Proofs.YthfclapnkemjiaaGreatDoor
open Go.RowKit Go.Maps

set_option maxRecDepth 100000 in
theorem Hear_zero (sb bm n : Nat) (key step : Int) (g : Int → Option Int) (w : World) (h : St w sb bm n key g) (h1 : -4 ≤ key) (h2 : key ≤ 4) (h3 : 0 ≤ step) (h4 : step < 70) :
    Calls Tryz.prog 42 #[.pointer (some ⟨sb, 0, none⟩), .int .i64 step, .int .i64 0] w fun e w' => e = .returned (.tuple #[.int .i64 (cur key g step), .int .i64 0]) ∧ Below w.heap.size w w' := by
  have H := Lib.hid (At_c sb bm n key step g w h h1 h2 h3 h4)
  generalize cur key g step = c at *
  clear h
  go_enter Tryz.func42, Tryz.ntmps42
  go_wp2_with (go_at_call 47; refine H.out.mono ?_; rintro e w1 ⟨rfl, hb1⟩)
  go_ret2
  exact ⟨rfl, hb1⟩
set_option maxRecDepth 100000 in
theorem Hear_same (sb bm n : Nat) (key step acc : Int) (g : Int → Option Int) (w : World) (h : St w sb bm n key g) (h1 : -4 ≤ key) (h2 : key ≤ 4) (h3 : 0 ≤ step) (h4 : step < 70) (h5 : 0 < acc) (h6 : acc ≤ 3) (hc : cur key g step = means acc) :
    Calls Tryz.prog 42 #[.pointer (some ⟨sb, 0, none⟩), .int .i64 step, .int .i64 acc] w fun e w' => e = .returned (.tuple #[.int .i64 0, .int .i64 66]) ∧ Below w.heap.size w w' := by
  have H := Lib.hid (At_c sb bm n key step g w h h1 h2 h3 h4)
  rw [hc] at H
  have HM := Lib.hid fun w => meaning_c acc w (by omega) h6
  generalize means acc = c at *
  clear h hc
  go_enter Tryz.func42, Tryz.ntmps42
  go_wp2_with (first | (go_at_call 47; refine H.out.mono ?_; rintro e w1 ⟨rfl, hb1⟩) | (go_at_call 79; refine (HM.out _).mono ?_; rintro e w2 ⟨rfl, rfl⟩))
  go_ret2
  exact ⟨rfl, hb1⟩
set_option maxRecDepth 100000 in
theorem Hear_new (sb bm n : Nat) (key step acc : Int) (g : Int → Option Int) (w : World) (h : St w sb bm n key g) (h1 : -4 ≤ key) (h2 : key ≤ 4) (h3 : 0 ≤ step) (h4 : step < 70) (h5 : 0 < acc) (h6 : acc ≤ 3) (hn : n < maxLen) (hc : cur key g step ≠ means acc) :
    Calls Tryz.prog 42 #[.pointer (some ⟨sb, 0, none⟩), .int .i64 step, .int .i64 acc] w (Stored sb bm n key step (means acc) g w (.tuple #[.int .i64 (means acc), .int .i64 0])) := by
  have H := Lib.hid (At_c sb bm n key step g w h h1 h2 h3 h4)
  have HS := Lib.hid h
  have HN := Lib.hid hn
  have HM := Lib.hid fun w => meaning_c acc w (by omega) h6
  have hm1 : -1 ≤ means acc ∧ means acc ≤ 1 := by unfold means; split; omega; split <;> omega
  have hlt : (means acc == cur key g step) = false := beq_eq_false_iff_ne.2 (fun e => hc e.symm)
  generalize cur key g step = c at *
  generalize means acc = m at *
  clear h hc hn
  go_enter Tryz.func42, Tryz.ntmps42
  go_wp2_with (first | (go_at_call 47; refine H.out.mono ?_; rintro e w1 ⟨rfl, hb1⟩; have c1 := (HS.out.below hb1).c1) | (go_at_call 79; refine (HM.out _).mono ?_; rintro e w2 ⟨rfl, rfl⟩))
  refine wp_region_still_tail 7 (by kernel_rfl) (by kernel_rfl) ?_
  simp only [List.take_succ_cons, List.take_zero, List.drop_succ_cons, List.drop_zero]
  repeat still_step
  still_call ((HM.out _).mono (fun _ _ h => ⟨h.1, h.2.symm⟩))
  refine wpStill_nil ?_
  change wpList _ _ _ _ _ w1.drew
  obtain ⟨w2, hrun, hm2, hg2⟩ := (HS.out.below hb1).map.drew.store (s := step) (v := m) (WalkArith.wf_i64 (by omega)) (WalkArith.wf_i64 (by omega)) HN.out
  go_wp2_with (go_at_call 79; refine (HM.out _).mono ?_; rintro e w2 ⟨rfl, rfl⟩)
  go_ret2
  exact ⟨rfl, (HS.out.below hb1.drew).stored hm2 hg2, below_grown hb1.drew hg2⟩

set_option maxRecDepth 100000 in
theorem Hear_bad (sb bm n : Nat) (key step acc : Int) (g : Int → Option Int) (w : World) (h : St w sb bm n key g) (h1 : -4 ≤ key) (h2 : key ≤ 4) (h3 : 0 ≤ step) (h4 : step < 70) (h5 : acc < 0 ∨ 3 < acc) :
    Calls Tryz.prog 42 #[.pointer (some ⟨sb, 0, none⟩), .int .i64 step, .int .i64 acc] w fun e w' => e = .returned (.tuple #[.int .i64 0, .int .i64 66]) ∧ Below w.heap.size w w' := by
  have H := Lib.hid (At_c sb bm n key step g w h h1 h2 h3 h4)
  generalize cur key g step = c at *
  clear h
  rcases h5 with h5 | h5
  · go_enter Tryz.func42, Tryz.ntmps42
    go_wp2_with (go_at_call 47; refine H.out.mono ?_; rintro e w1 ⟨rfl, hb1⟩)
    go_ret2
    exact ⟨rfl, hb1⟩
  · have h6 : ¬ acc < 0 := by omega
    go_enter Tryz.func42, Tryz.ntmps42
    go_wp2_with (go_at_call 47; refine H.out.mono ?_; rintro e w1 ⟨rfl, hb1⟩)
    go_ret2
    exact ⟨rfl, hb1⟩
theorem Hear_step (sb bm n : Nat) (key step acc : Int) (g : Int → Option Int) (w : World) (h : St w sb bm n key g) (hs : step < 0 ∨ 70 ≤ step) :
    Calls Tryz.prog 42 #[.pointer (some ⟨sb, 0, none⟩), .int .i64 step, .int .i64 acc] w fun e w' => e = .returned (.tuple #[.int .i64 0, .int .i64 34]) ∧ w = w' := by
  have H := Lib.hid (At_step sb bm n key step g w h hs)
  clear h hs
  go_enter Tryz.func42, Tryz.ntmps42
  go_wp2_with (go_at_call 47; refine H.out.mono ?_; rintro e w1 ⟨rfl, rfl⟩)
  go_ret2
  exact ⟨rfl, rfl⟩
theorem Print_step (sb bm n : Nat) (key step alter : Int) (g : Int → Option Int) (w : World) (h : St w sb bm n key g) (hs : step < 0 ∨ 70 ≤ step) :
    Calls Tryz.prog 40 #[.pointer (some ⟨sb, 0, none⟩), .int .i64 step, .int .i64 alter] w fun e w' => e = .returned (.tuple #[.int .i64 0, .int .i64 34]) ∧ w = w' := by
  have H := Lib.hid (At_step sb bm n key step g w h hs)
  clear h hs
  go_enter Tryz.func40, Tryz.ntmps40
  go_wp2_with (go_at_call 47; refine H.out.mono ?_; rintro e w1 ⟨rfl, rfl⟩)
  go_ret2
  exact ⟨rfl, rfl⟩
theorem Print_bad (sb bm n : Nat) (key step alter : Int) (g : Int → Option Int) (w : World) (h : St w sb bm n key g) (h1 : -4 ≤ key) (h2 : key ≤ 4) (h3 : 0 ≤ step) (h4 : step < 70) (h5 : alter < -1 ∨ 1 < alter) :
    Calls Tryz.prog 40 #[.pointer (some ⟨sb, 0, none⟩), .int .i64 step, .int .i64 alter] w fun e w' => e = .returned (.tuple #[.int .i64 0, .int .i64 34]) ∧ Below w.heap.size w w' := by
  have H := Lib.hid (At_c sb bm n key step g w h h1 h2 h3 h4)
  generalize cur key g step = c at *
  clear h
  rcases h5 with h5 | h5
  · go_enter Tryz.func40, Tryz.ntmps40
    go_wp2_with (go_at_call 47; refine H.out.mono ?_; rintro e w1 ⟨rfl, hb1⟩)
    go_ret2
    exact ⟨rfl, hb1⟩
  · have h6 : ¬ alter < -1 := by omega
    go_enter Tryz.func40, Tryz.ntmps40
    go_wp2_with (go_at_call 47; refine H.out.mono ?_; rintro e w1 ⟨rfl, hb1⟩)
    go_ret2
    exact ⟨rfl, hb1⟩
end Go.Proofs.YthfclapnkemjiaaGreatDoor
