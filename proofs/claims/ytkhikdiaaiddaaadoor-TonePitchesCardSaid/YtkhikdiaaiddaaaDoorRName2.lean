/-
  The contract of Name of the reference; Name of both packages together. Conditions: none but the types.
-/
import Derived.Test.YtkhikdiaaiddaaaDoorParse1
namespace Go.Proofs.YtkhikdiaaiddaaaDoor
open Go.RowKit
set_option linter.unusedSimpArgs false
set_option linter.unusedVariables false

theorem rName_no (s a : Int) (w : World) (h : ¬ goodP s a) :
    Calls Tryd.prog 33 #[.agg #[.int .i64 s, .int .i64 a]] w fun e w' => e = .returned (.tuple #[.string ByteArray.empty, .int .i64 34]) ∧ Below w.heap.size w w' := by
  have H := Lib.hid fun w => rGood_no s a w h
  clear h
  go_enter Tryd.func33, Tryd.ntmps33
  go_wp2_with (go_at_call 74; refine (H.out _).mono ?_; rintro e w1 ⟨rfl, hb1⟩; obtain ⟨hc1, hf1⟩ := bcell hb1; have hz1 := hb1.size; (try simp at hz1); have hy1 : w.heap.size < w1.heap.size := (by omega); have hB1 : Below w.heap.size w w1 := below_step (by go_grown) hb1)
  go_ret2
  exact ⟨rfl, by go_grown⟩
set_option maxRecDepth 100000 in
set_option maxHeartbeats 8000000 in
theorem rName_yes (s a : Int) (w : World) (h : goodP s a) :
    Calls Tryd.prog 33 #[.agg #[.int .i64 s, .int .i64 a]] w fun e w' => e = .returned (.tuple #[.string (nameB s a), .int .i64 0]) ∧ Below w.heap.size w w' := by
  have H := Lib.hid fun w => rGood_yes s a w h
  obtain ⟨h1, h2, h3, h4⟩ := h
  obtain ⟨q, hq⟩ : ∃ q : Nat, s / 7 = q := ⟨(s / 7).toNat, by omega⟩
  have HD := fun w => rDigits1 (s / 7) w (by omega) (by omega)
  rw [hq, Int.toNat_natCast] at HD
  have HD := Lib.hid HD
  have hX := decL_len q
  have HF : Hid (∀ m : Nat, s % 7 = m → nameB s a = ⟨(letL m ++ accL a ++ decL q).toArray⟩) := by
    intro m hm
    unfold nameB nameL
    rw [hm, hq, Int.toNat_natCast, Int.toNat_natCast]
  have add2 : ∀ (x y : UInt8) w, (Op.stringOp .add ⟨#[x]⟩ ⟨#[y]⟩).run Tryd.prog w = .ok (.string ⟨#[x, y]⟩) w := fun x y w => add_lists [x] [y] (by simp) (by simp) w
  have addq1 : ∀ (x : UInt8) w, (Op.stringOp .add ⟨#[x]⟩ (dec q)).run Tryd.prog w = .ok (.string ⟨([x] ++ decL q).toArray⟩) w := fun x w => add_lists [x] (decL q) (by simp) (by omega) w
  have addq2 : ∀ (x y : UInt8) w, (Op.stringOp .add ⟨#[x, y]⟩ (dec q)).run Tryd.prog w = .ok (.string ⟨([x, y] ++ decL q).toArray⟩) w := fun x y w => add_lists [x, y] (decL q) (by simp) (by omega) w
  have A1 := Lib.hid add2
  have A2 := Lib.hid addq1
  have A3 := Lib.hid addq2
  have t2 : s.tdiv 7 = (q : Int) := by rw [← hq]; exact Int.tdiv_eq_ediv_of_nonneg h1
  clear add2 addq1 addq2 hX
  rcases (by omega : s % 7 = 0 ∨ s % 7 = 1 ∨ s % 7 = 2 ∨ s % 7 = 3 ∨ s % 7 = 4 ∨ s % 7 = 5 ∨ s % 7 = 6) with hm | hm | hm | hm | hm | hm | hm <;> rcases (by omega : a = -1 ∨ a = 0 ∨ a = 1) with rfl | rfl | rfl
  all_goals
    have HN := Lib.hid (HF.out _ hm)
    clear HF h3 h4
    have add2 := A1.out
    have addq1 := A2.out
    have addq2 := A3.out
    go_enter Tryd.func33, Tryd.ntmps33
    go_wp2_with fail
    refine (H.out _).mono ?_
    rintro e w1 ⟨rfl, hb1⟩; obtain ⟨hc1, hf1⟩ := bcell hb1; have hz1 := hb1.size; (try simp at hz1); have hy1 : w.heap.size < w1.heap.size := (by omega); have hB1 : Below w.heap.size w w1 := below_step (by go_grown) hb1
    go_wp2_with fail
    refine (HD.out _).mono ?_
    rintro e w2 ⟨rfl, hb2⟩; obtain ⟨hc2, hf2⟩ := bcell hb2; have hz2 := hb2.size; (try simp at hz2); have hy2 : w.heap.size < w2.heap.size := (by omega); have hB2 : Below w.heap.size w w2 := below_step (by go_grown) hb2
    go_wp2_with fail
    go_ret2
    exact ⟨by rw [HN.out]; rfl, by go_grown⟩
theorem rName_c (s a : Int) (w : World) : Calls Tryd.prog 33 #[.agg #[.int .i64 s, .int .i64 a]] w fun e w' => e = .returned (.tuple #[.string (nameV s a), .int .i64 (nameE s a)]) ∧ Below w.heap.size w w' := by
  by_cases h : 0 ≤ s ∧ s < 70 ∧ -1 ≤ a ∧ a ≤ 1
  · unfold nameV nameE; rw [if_pos h, if_pos h]; exact rName_yes s a w h
  · unfold nameV nameE; rw [if_neg h, if_neg h]; exact rName_no s a w h
end Go.Proofs.YtkhikdiaaiddaaaDoor
