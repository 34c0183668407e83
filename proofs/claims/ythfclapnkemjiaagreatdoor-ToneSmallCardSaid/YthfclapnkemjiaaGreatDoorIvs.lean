/-
  custoslaw05.intervals and custoslaw05.reads return true: Transpose, Key, Between, Title and Read of package tone and of the reference agree. Conditions: integers are of their type, texts are no longer than any text can be.
-/
import Derived.Test.YthfclapnkemjiaaGreatDoorRef7
namespace Go.Proofs.YthfclapnkemjiaaGreatDoor
open Go.RowKit
set_option linter.unusedSimpArgs false
set_option linter.unusedVariables false

theorem Title_both (st se : Int) (h1 : i64P st) (h2 : i64P se) : ∃ (n : ByteArray) (z : Int),
    (∀ w, Calls Tryz.prog 55 #[.agg #[.int .i64 st, .int .i64 se]] w fun e w' => e = .returned (.tuple #[.string n, .int .i64 z]) ∧ Below w.heap.size w w') ∧
    (∀ w, Calls Tryz.prog 56 #[.agg #[.int .i64 st, .int .i64 se]] w fun e w' => e = .returned (.tuple #[.string n, .int .i64 z]) ∧ Below w.heap.size w w') := by
  have H := fun w => Title_c st se w h1 h2
  have H2 := fun w => rTitle_c st se w
  cases h : titleT st se with
  | none => rw [h] at H H2; exact ⟨ByteArray.empty, 8, H, H2⟩
  | some n => rw [h] at H H2; exact ⟨n, 0, H, H2⟩
theorem Read_both (s : ByteArray) (hsz : s.size ≤ maxLen) : ∃ x y z : Int,
    (∀ w, Calls Tryz.prog 57 #[.string s] w fun e w' => e = .returned (.tuple #[.agg #[.int .i64 x, .int .i64 y], .int .i64 z]) ∧ Below w.heap.size w w') ∧
    (∀ w, Calls Tryz.prog 58 #[.string s] w fun e w' => e = .returned (.tuple #[.agg #[.int .i64 x, .int .i64 y], .int .i64 z]) ∧ Below w.heap.size w w') := by
  by_cases h : ∃ st se, titleT st se = some s
  · obtain ⟨st, se, h⟩ := h
    have HY : Hid (∀ st' se', titleT st' se' = some s → st = st' ∧ se = se' ∧ (0 : Int) = 0) := fun st' se' h' => by
      have := titleT_inj h h'
      exact ⟨this.1, this.2, rfl⟩
    have HN : Hid ((∀ st se, titleT st se ≠ some s) → st = 0 ∧ se = 0 ∧ (0 : Int) = 5) := fun h' => absurd h (h' st se)
    exact ⟨st, se, 0, fun w => Read_c s st se 0 w HY HN, fun w => rRead_c s st se 0 hsz w HY HN⟩
  · have HY : Hid (∀ st' se', titleT st' se' = some s → (0 : Int) = st' ∧ (0 : Int) = se' ∧ (5 : Int) = 0) := fun st' se' h' => absurd ⟨st', se', h'⟩ h
    have HN : Hid ((∀ st se, titleT st se ≠ some s) → (0 : Int) = 0 ∧ (0 : Int) = 0 ∧ (5 : Int) = 5) := fun _ => ⟨rfl, rfl, rfl⟩
    exact ⟨0, 0, 5, fun w => Read_c s 0 0 5 w HY HN, fun w => rRead_c s 0 0 5 hsz w HY HN⟩
set_option maxRecDepth 100000 in
set_option maxHeartbeats 4000000 in
theorem reads_c (s : ByteArray) (hsz : s.size ≤ maxLen) (w : World) :
    Calls Tryz.prog 11 #[.string s] w fun e w' => e = .returned (.bool true) ∧ Below w.heap.size w w' := by
  obtain ⟨x, y, z, H1, H2⟩ := Read_both s hsz
  have J1 := Lib.hid H1
  have J2 := Lib.hid H2
  clear H1 H2
  have HB := Below.refl w.heap.size w
  go_enter Tryz.func11, Tryz.ntmps11
  go_wp2_with fail
  refine (J1.out _).mono ?_
  rintro e u1 ⟨rfl, hb1⟩
  replace HB := below_step HB hb1
  clear hb1
  go_wp2_with fail
  refine calls_named fun W1 hW1 => ?_
  have Px := Pair.made hW1
  replace HB := below_step HB (below_named hW1)
  clear hW1
  refine (J2.out _).mono ?_
  rintro e u2 ⟨rfl, hb2⟩
  replace Px := Px.next hb2
  replace HB := below_step HB hb2
  clear hb2
  obtain ⟨Px0, Px1, Px2, -, -⟩ := id Px
  go_wp2_with fail
  go_ret
  exact ⟨rfl, below_step HB ((Below.refl _ _).alloc (Nat.le_refl _) _)⟩
set_option maxRecDepth 100000 in
set_option maxHeartbeats 16000000 in
theorem intervals_c (a b c d st se key : Int) (w : World) (h1 : i64P st) (h2 : i64P se) :
    Calls Tryz.prog 10 #[.agg #[.int .i64 a, .int .i64 b], .agg #[.int .i64 c, .int .i64 d], .agg #[.int .i64 st, .int .i64 se], .int .i64 key] w fun e w' => e = .returned (.bool true) ∧ Below w.heap.size w w' := by
  have H1 := fun w => Transpose_c a b st se w h1 h2
  have H2 := fun w => rTranspose_c a b st se w
  unfold trV at H1 H2
  have H3 := fun w => Key_c key st se w h1 h2
  have H4 := fun w => rKey_c key st se w
  have H5 := fun w => Between_c a b c d w
  have H6 := fun w => rBetween_c a b c d w
  obtain ⟨n, z, H7, H8⟩ := Title_both st se h1 h2
  generalize (trOf a b st se).1 = x1 at *
  generalize (trOf a b st se).2.1 = x2 at *
  generalize (trOf a b st se).2.2 = x3 at *
  generalize keyN key st se = y1 at *
  generalize keyE key st se = y2 at *
  generalize btX a b c d = z1 at *
  generalize btY a b c d = z2 at *
  generalize btE a b c d = z3 at *
  have J1 := Lib.hid H1
  have J2 := Lib.hid H2
  have J3 := Lib.hid H3
  have J4 := Lib.hid H4
  have J5 := Lib.hid H5
  have J6 := Lib.hid H6
  have J7 := Lib.hid H7
  have J8 := Lib.hid H8
  clear h1 h2 H1 H2 H3 H4 H5 H6 H7 H8
  have HB := Below.refl w.heap.size w
  go_enter Tryz.func10, Tryz.ntmps10
  go_wp2_with fail
  refine calls_named fun W0 hW0 => ?_
  have Pp : Pair W0 (w.heap.size) a b := by rw [hW0]; exact ⟨by go_simp, by go_simp, by simp; try omega, by go_simp, by go_simp⟩
  have Pq : Pair W0 (w.heap.size + 1) c d := by rw [hW0]; exact ⟨by go_simp, by go_simp, by simp; try omega, by go_simp, by go_simp⟩
  have Pi : Pair W0 (w.heap.size + 1 + 1) st se := by rw [hW0]; exact ⟨by go_simp, by go_simp, by simp; try omega, by go_simp, by go_simp⟩
  have Pown : Pair W0 (w.heap.size + 1 + 1 + 1) st se := by rw [hW0]; exact ⟨by go_simp, by go_simp, by simp; try omega, by go_simp, by go_simp⟩
  replace HB : Below w.heap.size w W0 := by rw [hW0]; go_grown
  clear hW0
  refine (J1.out _).mono ?_
  rintro e u1 ⟨rfl, hb1⟩
  replace Pp := Pp.next hb1
  replace Pq := Pq.next hb1
  replace Pi := Pi.next hb1
  replace Pown := Pown.next hb1
  replace HB := below_step HB hb1
  clear hb1
  obtain ⟨Pp0, Pp1, Pp2, -, -⟩ := id Pp
  obtain ⟨Pown0, Pown1, Pown2, -, -⟩ := id Pown
  go_wp2_with fail
  refine calls_named fun W1 hW1 => ?_
  replace Pp := Pp.next (below_named hW1)
  replace Pq := Pq.next (below_named hW1)
  replace Pi := Pi.next (below_named hW1)
  replace Pown := Pown.next (below_named hW1)
  clear Pp0 Pp1 Pp2 Pown0 Pown1 Pown2
  have Pt := Pair.made hW1
  replace HB := below_step HB (below_named hW1)
  clear hW1
  refine (J2.out _).mono ?_
  rintro e u2 ⟨rfl, hb2⟩
  replace Pp := Pp.next hb2
  replace Pq := Pq.next hb2
  replace Pi := Pi.next hb2
  replace Pown := Pown.next hb2
  replace Pt := Pt.next hb2
  replace HB := below_step HB hb2
  clear hb2
  obtain ⟨Pi0, Pi1, Pi2, -, -⟩ := id Pi
  go_wp2_with fail
  refine calls_named fun W2 hW2 => ?_
  replace Pp := Pp.next (below_named hW2)
  replace Pq := Pq.next (below_named hW2)
  replace Pi := Pi.next (below_named hW2)
  replace Pown := Pown.next (below_named hW2)
  replace Pt := Pt.next (below_named hW2)
  clear Pi0 Pi1 Pi2
  have Prt := Pair.made hW2
  replace HB := below_step HB (below_named hW2)
  clear hW2
  refine (J3.out _).mono ?_
  rintro e u3 ⟨rfl, hb3⟩
  replace Pp := Pp.next hb3
  replace Pq := Pq.next hb3
  replace Pi := Pi.next hb3
  replace Pown := Pown.next hb3
  replace Pt := Pt.next hb3
  replace Prt := Prt.next hb3
  replace HB := below_step HB hb3
  clear hb3
  obtain ⟨Pown0, Pown1, Pown2, -, -⟩ := id Pown
  go_wp2_with fail
  refine (J4.out _).mono ?_
  rintro e u4 ⟨rfl, hb4⟩
  clear Pown0 Pown1 Pown2
  replace Pp := Pp.next hb4
  replace Pq := Pq.next hb4
  replace Pi := Pi.next hb4
  replace Pown := Pown.next hb4
  replace Pt := Pt.next hb4
  replace Prt := Prt.next hb4
  replace HB := below_step HB hb4
  clear hb4
  obtain ⟨Pp0, Pp1, Pp2, -, -⟩ := id Pp
  obtain ⟨Pq0, Pq1, Pq2, -, -⟩ := id Pq
  go_wp2_with fail
  refine (J5.out _).mono ?_
  rintro e u5 ⟨rfl, hb5⟩
  clear Pp0 Pp1 Pp2 Pq0 Pq1 Pq2
  replace Pp := Pp.next hb5
  replace Pq := Pq.next hb5
  replace Pi := Pi.next hb5
  replace Pown := Pown.next hb5
  replace Pt := Pt.next hb5
  replace Prt := Prt.next hb5
  replace HB := below_step HB hb5
  clear hb5
  obtain ⟨Pp0, Pp1, Pp2, -, -⟩ := id Pp
  obtain ⟨Pq0, Pq1, Pq2, -, -⟩ := id Pq
  go_wp2_with fail
  refine calls_named fun W5 hW5 => ?_
  replace Pp := Pp.next (below_named hW5)
  replace Pq := Pq.next (below_named hW5)
  replace Pi := Pi.next (below_named hW5)
  replace Pown := Pown.next (below_named hW5)
  replace Pt := Pt.next (below_named hW5)
  replace Prt := Prt.next (below_named hW5)
  clear Pp0 Pp1 Pp2 Pq0 Pq1 Pq2
  have Pu := Pair.made hW5
  replace HB := below_step HB (below_named hW5)
  clear hW5
  refine (J6.out _).mono ?_
  rintro e u6 ⟨rfl, hb6⟩
  replace Pp := Pp.next hb6
  replace Pq := Pq.next hb6
  replace Pi := Pi.next hb6
  replace Pown := Pown.next hb6
  replace Pt := Pt.next hb6
  replace Prt := Prt.next hb6
  replace Pu := Pu.next hb6
  replace HB := below_step HB hb6
  clear hb6
  obtain ⟨Pi0, Pi1, Pi2, -, -⟩ := id Pi
  go_wp2_with fail
  refine calls_named fun W6 hW6 => ?_
  replace Pp := Pp.next (below_named hW6)
  replace Pq := Pq.next (below_named hW6)
  replace Pi := Pi.next (below_named hW6)
  replace Pown := Pown.next (below_named hW6)
  replace Pt := Pt.next (below_named hW6)
  replace Prt := Prt.next (below_named hW6)
  replace Pu := Pu.next (below_named hW6)
  clear Pi0 Pi1 Pi2
  have Pv := Pair.made hW6
  replace HB := below_step HB (below_named hW6)
  clear hW6
  refine (J7.out _).mono ?_
  rintro e u7 ⟨rfl, hb7⟩
  replace Pp := Pp.next hb7
  replace Pq := Pq.next hb7
  replace Pi := Pi.next hb7
  replace Pown := Pown.next hb7
  replace Pt := Pt.next hb7
  replace Prt := Prt.next hb7
  replace Pu := Pu.next hb7
  replace Pv := Pv.next hb7
  replace HB := below_step HB hb7
  clear hb7
  obtain ⟨Pown0, Pown1, Pown2, -, -⟩ := id Pown
  go_wp2_with fail
  refine (J8.out _).mono ?_
  rintro e u8 ⟨rfl, hb8⟩
  clear Pown0 Pown1 Pown2
  replace Pp := Pp.next hb8
  replace Pq := Pq.next hb8
  replace Pi := Pi.next hb8
  replace Pown := Pown.next hb8
  replace Pt := Pt.next hb8
  replace Prt := Prt.next hb8
  replace Pu := Pu.next hb8
  replace Pv := Pv.next hb8
  replace HB := below_step HB hb8
  clear hb8
  obtain ⟨Pt0, Pt1, Pt2, -, -⟩ := id Pt
  obtain ⟨Prt0, Prt1, Prt2, -, -⟩ := id Prt
  obtain ⟨Pu0, Pu1, Pu2, -, -⟩ := id Pu
  obtain ⟨Pv0, Pv1, Pv2, -, -⟩ := id Pv
  go_wp2_with fail
  go_ret
  exact ⟨rfl, HB⟩
end Go.Proofs.YthfclapnkemjiaaGreatDoor
