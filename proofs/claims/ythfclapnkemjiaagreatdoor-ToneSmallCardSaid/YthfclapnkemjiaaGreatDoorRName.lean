/-
  Contracts of Semitone, Digits (numbers from 0 to 99) and Name of the reference. Conditions: integers are of their type, and that range.
-/
import Derived.Test.YthfclapnkemjiaaGreatDoorRef4
import Derived.Test.YthfclapnkemjiaaGreatDoorName
namespace Go.Proofs.YthfclapnkemjiaaGreatDoor
open Go.RowKit
set_option linter.unusedSimpArgs false
set_option linter.unusedVariables false

theorem rSemitone_no (s a : Int) (w : World) (h : ¬ goodP s a) :
    Calls Tryz.prog 87 #[.agg #[.int .i64 s, .int .i64 a]] w fun e w' => e = .returned (.tuple #[.int .i64 0, .int .i64 34]) ∧ Below w.heap.size w w' := by
  have H := Lib.hid fun w => rGood_no s a w h
  clear h
  go_enter Tryz.func87, Tryz.ntmps87
  go_wp2_with (go_at_call 75; refine (H.out _).mono ?_; rintro e w1 ⟨rfl, hb1⟩; obtain ⟨hc1, hf1⟩ := bcell hb1; have hz1 := hb1.size; (try simp at hz1); have hy1 : w.heap.size < w1.heap.size := (by omega); have hB1 : Below w.heap.size w w1 := below_step (by go_grown) hb1)
  go_ret2
  exact ⟨rfl, by go_grown⟩
set_option maxRecDepth 100000 in
theorem rSemitone_yes (s a : Int) (w : World) (h : goodP s a) :
    Calls Tryz.prog 87 #[.agg #[.int .i64 s, .int .i64 a]] w fun e w' => e = .returned (.tuple #[.int .i64 (nat7 s + a), .int .i64 0]) ∧ Below w.heap.size w w' := by
  have H := Lib.hid fun w => rGood_yes s a w h
  obtain ⟨h1, h2, h3, h4⟩ := h
  have HN := Lib.hid fun w => rNatural_c s w (by omega) h1
  have hb := nat7_bd s h1 (by omega)
  generalize nat7 s = n at *
  go_enter Tryz.func87, Tryz.ntmps87
  go_wp2_with fail
  refine (H.out _).mono ?_
  rintro e w1 ⟨rfl, hb1⟩; obtain ⟨hc1, hf1⟩ := bcell hb1; have hz1 := hb1.size; (try simp at hz1); have hy1 : w.heap.size < w1.heap.size := (by omega); have hB1 : Below w.heap.size w w1 := below_step (by go_grown) hb1
  go_wp2_with fail
  have k0 : w1.cell? ⟨w.heap.size, 0, none⟩ = some (.int .i64 s) := by go_simp
  have k1 : w1.cell? ⟨w.heap.size, 1, none⟩ = some (.int .i64 a) := by go_simp
  clear hc1 hf1 hb1 hz1
  go_quiet ((go_at_call 92; exact calls_drewN (HN.out _)))
  go_wp2_with fail
  go_ret2
  exact ⟨rfl, below_drewN' hB1 _⟩
theorem Semitone_both (s a : Int) : ∃ x y : Int, (∀ w, Calls Tryz.prog 84 #[.agg #[.int .i64 s, .int .i64 a]] w fun e w' => e = .returned (.tuple #[.int .i64 x, .int .i64 y]) ∧ Below w.heap.size w w') ∧
    (∀ w, Calls Tryz.prog 87 #[.agg #[.int .i64 s, .int .i64 a]] w fun e w' => e = .returned (.tuple #[.int .i64 x, .int .i64 y]) ∧ Below w.heap.size w w') := by
  rcases Classical.em (goodP s a) with h | h
  · exact ⟨_, _, fun w => Semitone_yes s a w h, fun w => rSemitone_yes s a w h⟩
  · exact ⟨_, _, fun w => Semitone_no s a w h, fun w => rSemitone_no s a w h⟩

/-- a new slice of one byte as a text -/
theorem conv1 (d : Int) (w : World) : (convert 121 9 (.slice (some ⟨w.heap.size, 0, none⟩) 1 1)).run Tryz.prog (w.alloc (.cells #[.int .u8 d] 5)) = .ok (.string ⟨#[UInt8.ofNat d.toNat]⟩) (w.alloc (.cells #[.int .u8 d] 5)) :=
  run_convert_bytes_arg (P := Tryz.prog) _ 121 5 Tryz.underlying121 Tryz.underlying5 w.heap.size 0 1 1 [d] rfl (fun i hi => by
    obtain rfl : i = 0 := by omega
    simp) 9 Tryz.underlying9
set_option maxRecDepth 100000 in
theorem rDigits1 (n : Int) (w : World) (h0 : 0 ≤ n) (h1 : n < 10) :
    Calls Tryz.prog 93 #[.int .i64 n] w fun e w' => e = .returned (.string (dec n.toNat)) ∧ Below w.heap.size w w' := by
  rcases (by omega : n = 0 ∨ n = 1 ∨ n = 2 ∨ n = 3 ∨ n = 4 ∨ n = 5 ∨ n = 6 ∨ n = 7 ∨ n = 8 ∨ n = 9) with rfl | rfl | rfl | rfl | rfl | rfl | rfl | rfl | rfl | rfl
  all_goals
    clear h0 h1
    have hcv := fun d => conv1 d w
    go_enter Tryz.func93, Tryz.ntmps93
    go_wp2
    go_ret
    exact ⟨rfl, by go_grown⟩
theorem dec_two (q d : Nat) (hq1 : 1 ≤ q) (hq : q < 10) (hd : d < 10) : (⟨(decL q ++ [48 + d.toUInt8]).toArray⟩ : ByteArray) = dec (10 * q + d) := by
  unfold dec decL
  rw [if_pos hq, if_neg (by omega), show (10 * q + d) / 10 = q by omega, show (10 * q + d) % 10 = d by omega]
  rfl
set_option maxRecDepth 100000 in
set_option maxHeartbeats 2000000 in
theorem rDigits2 (n : Int) (w : World) (h0 : 10 ≤ n) (h1 : n < 100) :
    Calls Tryz.prog 93 #[.int .i64 n] w fun e w' => e = .returned (.string (dec n.toNat)) ∧ Below w.heap.size w w' := by
  obtain ⟨q, hq⟩ : ∃ q : Nat, n / 10 = q := ⟨(n / 10).toNat, by omega⟩
  have HD := fun w => rDigits1 (n / 10) w (by omega) (by omega)
  rw [hq, Int.toNat_natCast] at HD
  have HD := Lib.hid HD
  have t2 : n.tdiv 10 = (q : Int) := by rw [← hq]; exact Int.tdiv_eq_ediv_of_nonneg (by omega)
  have hql := decL_len q
  have add1 : ∀ d : UInt8, ∀ w, (Op.stringOp .add (dec q) ⟨#[d]⟩).run Tryz.prog w = .ok (.string ⟨(decL q ++ [d]).toArray⟩) w := fun d w => add_lists (decL q) [d] (by omega) (by simp) w
  have ADD := Lib.hid add1
  clear add1
  have hqz : (q : Int) ≤ 9 := by omega
  rcases (by omega : n % 10 = 0 ∨ n % 10 = 1 ∨ n % 10 = 2 ∨ n % 10 = 3 ∨ n % 10 = 4 ∨ n % 10 = 5 ∨ n % 10 = 6 ∨ n % 10 = 7 ∨ n % 10 = 8 ∨ n % 10 = 9) with hd | hd | hd | hd | hd | hd | hd | hd | hd | hd
  all_goals
    have HE := Lib.hid (dec_two q (n % 10).toNat (by omega) (by omega) (by omega))
    rw [show 10 * q + (n % 10).toNat = n.toNat by omega] at HE
    rw [← HE.out]
    rw [hd] at HE ⊢
    have ha := ADD.out
    clear HE
    have hcv := fun d => conv1 d w
    go_enter Tryz.func93, Tryz.ntmps93
    go_wp2_with (go_at_call 93; refine (HD.out _).mono ?_; rintro e w1 ⟨rfl, hb1⟩; obtain ⟨hc1, hf1⟩ := bcell hb1; have hz1 := hb1.size; (try simp at hz1); have hy1 : w.heap.size < w1.heap.size := (by omega); have hB1 : Below w.heap.size w w1 := below_step (by go_grown) hb1)
    go_ret
    exact ⟨rfl, by go_grown⟩
theorem rDigits_c (n : Int) (w : World) (h0 : 0 ≤ n) (h1 : n < 100) :
    Calls Tryz.prog 93 #[.int .i64 n] w fun e w' => e = .returned (.string (dec n.toNat)) ∧ Below w.heap.size w w' := by
  by_cases h : n < 10
  · exact rDigits1 n w h0 h
  · exact rDigits2 n w (by omega) h1
end Go.Proofs.YthfclapnkemjiaaGreatDoor
