/-
  Contracts of Good, Staff, IsKey, Alter, says, Sounding, Natural and Semitone of the reference, and of tone.Staff and tone.Sounding. Conditions: integers are of their type.
-/
import Derived.Test.YthfclapnkemjiaaGreatDoorRLen
import Derived.Test.YthfclapnkemjiaaGreatDoorAlt
namespace Go.Proofs.YthfclapnkemjiaaGreatDoor
open Go.RowKit
set_option linter.unusedSimpArgs false
set_option linter.unusedVariables false

set_option maxRecDepth 100000 in
theorem rGood_yes (s a : Int) (w : World) (h : goodP s a) :
    Calls Tryz.prog 75 #[.agg #[.int .i64 s, .int .i64 a]] w fun e w' => e = .returned (.bool true) ∧ Below w.heap.size w w' := by
  obtain ⟨h1, h2, h3, h4⟩ := h
  rcases (by omega : a = -1 ∨ a = 0 ∨ a = 1) with rfl | rfl | rfl
  all_goals
    clear h3 h4
    go_enter Tryz.func75, Tryz.ntmps75
    go_wp2
    go_ret
    exact ⟨rfl, by go_grown⟩
set_option maxRecDepth 100000 in
theorem rGood_no (s a : Int) (w : World) (h : ¬ goodP s a) :
    Calls Tryz.prog 75 #[.agg #[.int .i64 s, .int .i64 a]] w fun e w' => e = .returned (.bool false) ∧ Below w.heap.size w w' := by
  unfold goodP at h
  by_cases h1 : 0 ≤ s
  · by_cases h2 : s ≤ 69
    · have e1 : (a == -1) = false := beq_eq_false_iff_ne.2 (by omega)
      have e2 : (a == 0) = false := beq_eq_false_iff_ne.2 (by omega)
      have e3 : (a == 1) = false := beq_eq_false_iff_ne.2 (by omega)
      clear h
      go_enter Tryz.func75, Tryz.ntmps75
      go_wp2
      go_ret
      exact ⟨rfl, by go_grown⟩
    · clear h
      go_enter Tryz.func75, Tryz.ntmps75
      go_wp2
      go_ret
      exact ⟨rfl, by go_grown⟩
  · clear h
    go_enter Tryz.func75, Tryz.ntmps75
    go_wp2
    go_ret
    exact ⟨rfl, by go_grown⟩

theorem rIsKey_yes (k : Int) (w : World) (h1 : -4 ≤ k) (h2 : k ≤ 4) :
    Calls Tryz.prog 78 #[.int .i64 k] w fun e w' => e = .returned (.bool true) ∧ w = w' := by
  go_enter Tryz.func78, Tryz.ntmps78
  go_wp2
  go_ret
  exact ⟨rfl, rfl⟩
theorem rIsKey_no (k : Int) (w : World) (h : k < -4 ∨ 4 < k) :
    Calls Tryz.prog 78 #[.int .i64 k] w fun e w' => e = .returned (.bool false) ∧ w = w' := by
  rcases h with h | h
  · go_enter Tryz.func78, Tryz.ntmps78
    go_wp2
    go_ret
    exact ⟨rfl, rfl⟩
  · have h' : -4 ≤ k := by omega
    go_enter Tryz.func78, Tryz.ntmps78
    go_wp2
    go_ret
    exact ⟨ret_bool (by simp; omega), rfl⟩

theorem alt_none {key step : Int} (h1 : ∀ j : Nat, (j : Int) < key → fif j ≠ step % 7) (h2 : ∀ j : Nat, (j : Int) < -key → fif (6 - j) ≠ step % 7) : keyAlt key step = 0 := by
  obtain ⟨k, hk, he⟩ := at_fif (step % 7) (by omega) (by omega)
  unfold keyAlt
  rw [fif_at k _ hk he]
  by_cases a : (k : Int) < key
  · exact absurd he (h1 k a)
  · rw [if_neg a]
    by_cases b : 6 - (k : Int) < -key
    · have := h2 (6 - k) (by omega)
      rw [show 6 - (6 - k) = k by omega] at this
      exact absurd he this
    · rw [if_neg b]
theorem rAlter_nokey (key step : Int) (w : World) (h : key < -4 ∨ 4 < key) :
    Calls Tryz.prog 34 #[.int .i64 key, .int .i64 step] w fun e w' => e = .returned (.tuple #[.int .i64 0, .int .i64 31]) ∧ w = w' := by
  have H := Lib.hid (rIsKey_no key w h)
  clear h
  go_enter Tryz.func34, Tryz.ntmps34
  go_wp2_with (go_at_call 78; refine H.out.mono ?_; rintro e w' ⟨rfl, rfl⟩)
  go_ret2
  exact ⟨rfl, rfl⟩
theorem rAlter_nostep (key step : Int) (w : World) (h1 : -4 ≤ key) (h2 : key ≤ 4) (h : step < 0 ∨ 70 ≤ step) :
    Calls Tryz.prog 34 #[.int .i64 key, .int .i64 step] w fun e w' => e = .returned (.tuple #[.int .i64 0, .int .i64 34]) ∧ w = w' := by
  have H := Lib.hid (rIsKey_yes key w h1 h2)
  rcases h with h | h
  · go_enter Tryz.func34, Tryz.ntmps34
    go_wp2_with (go_at_call 78; refine H.out.mono ?_; rintro e w' ⟨rfl, rfl⟩)
    go_ret2
    exact ⟨rfl, rfl⟩
  · have h' : 0 ≤ step := by omega
    go_enter Tryz.func34, Tryz.ntmps34
    go_wp2_with (go_at_call 78; refine H.out.mono ?_; rintro e w' ⟨rfl, rfl⟩)
    go_ret2
    exact ⟨rfl, rfl⟩

/-- says -/
theorem rsays_c (a : Int) (w : World) :
    Calls Tryz.prog 80 #[.int .i64 a] w fun e w' => e = .returned (.int .i64 (means a)) ∧ w = w' := by
  by_cases h1 : a = 1
  · subst h1
    go_enter Tryz.func80, Tryz.ntmps80
    go_wp2
    go_ret
    exact ⟨rfl, rfl⟩
  · by_cases h2 : a = 2
    · subst h2
      go_enter Tryz.func80, Tryz.ntmps80
      go_wp2
      go_ret
      exact ⟨rfl, rfl⟩
    · have e : means a = 0 := by unfold means; rw [if_neg h1, if_neg h2]
      rw [e]
      have e1 : (a == 1) = false := beq_eq_false_iff_ne.2 h1
      have e2 : (a == 2) = false := beq_eq_false_iff_ne.2 h2
      clear e h1 h2
      go_enter Tryz.func80, Tryz.ntmps80
      go_wp2
      go_ret
      exact ⟨rfl, rfl⟩

/-- Staff -/
theorem Staff_no (c s a x e0 : Int) (w : World) (hB : ∀ w, Calls Tryz.prog 29 #[.int .i64 c] w fun e w' => e = .returned (.tuple #[.int .i64 x, .int .i64 e0]) ∧ w = w') (he : (e0 == 0) = false) :
    Calls Tryz.prog 31 #[.int .i64 c, .agg #[.int .i64 s, .int .i64 a]] w fun e w' => e = .returned (.tuple #[.int .i64 0, .int .i64 e0]) ∧ Below w.heap.size w w' := by
  have HB := Lib.hid hB
  clear hB
  go_enter Tryz.func31, Tryz.ntmps31
  go_wp2_with (go_at_call 29; refine (HB.out _).mono ?_; rintro e w' ⟨rfl, rfl⟩)
  go_ret2
  exact ⟨rfl, by go_grown⟩
theorem rStaff_no (c s a x e0 : Int) (w : World) (hB : ∀ w, Calls Tryz.prog 30 #[.int .i64 c] w fun e w' => e = .returned (.tuple #[.int .i64 x, .int .i64 e0]) ∧ w = w') (he : (e0 == 0) = false) :
    Calls Tryz.prog 32 #[.int .i64 c, .agg #[.int .i64 s, .int .i64 a]] w fun e w' => e = .returned (.tuple #[.int .i64 0, .int .i64 e0]) ∧ Below w.heap.size w w' := by
  have HB := Lib.hid hB
  clear hB
  go_enter Tryz.func32, Tryz.ntmps32
  go_wp2_with (go_at_call 30; refine (HB.out _).mono ?_; rintro e w' ⟨rfl, rfl⟩)
  go_ret2
  exact ⟨rfl, by go_grown⟩
theorem Staff_bad (c s a : Int) (w : World) (h1 : 1 ≤ c) (h2 : c ≤ 3) (h : ¬ goodP s a) :
    Calls Tryz.prog 31 #[.int .i64 c, .agg #[.int .i64 s, .int .i64 a]] w fun e w' => e = .returned (.tuple #[.int .i64 0, .int .i64 34]) ∧ Below w.heap.size w w' := by
  have HB := Lib.hid fun w => Base_yes c w h1 h2
  have HG := Lib.hid fun w => good_no s a w h
  clear h
  go_enter Tryz.func31, Tryz.ntmps31
  go_wp2_with (first | (go_at_call 29; refine (HB.out _).mono ?_; rintro e w' ⟨rfl, rfl⟩) | (go_at_call 74; refine (HG.out _).mono ?_; rintro e w1 ⟨rfl, hb1⟩; obtain ⟨hc1, hf1⟩ := bcell hb1; have hz1 := hb1.size; (try simp at hz1); have hy1 : w.heap.size < w1.heap.size := (by omega); have hB1 : Below w.heap.size w w1 := below_step (by go_grown) hb1))
  go_ret2
  exact ⟨rfl, by go_grown⟩
theorem Staff_yes (c s a : Int) (w : World) (h1 : 1 ≤ c) (h2 : c ≤ 3) (h : goodP s a) :
    Calls Tryz.prog 31 #[.int .i64 c, .agg #[.int .i64 s, .int .i64 a]] w fun e w' => e = .returned (.tuple #[.int .i64 (s - (36 - 6 * c)), .int .i64 0]) ∧ Below w.heap.size w w' := by
  have HB := Lib.hid fun w => Base_yes c w h1 h2
  have HG := Lib.hid fun w => good_yes s a w h
  obtain ⟨g1, g2, g3, g4⟩ := h
  go_enter Tryz.func31, Tryz.ntmps31
  go_wp2_with (first | (go_at_call 29; refine (HB.out _).mono ?_; rintro e w' ⟨rfl, rfl⟩) | (go_at_call 74; refine (HG.out _).mono ?_; rintro e w1 ⟨rfl, hb1⟩; obtain ⟨hc1, hf1⟩ := bcell hb1; have hz1 := hb1.size; (try simp at hz1); have hy1 : w.heap.size < w1.heap.size := (by omega); have hB1 : Below w.heap.size w w1 := below_step (by go_grown) hb1))
  go_ret2
  exact ⟨rfl, by go_grown⟩
theorem rStaff_bad (c s a : Int) (w : World) (h1 : 1 ≤ c) (h2 : c ≤ 3) (h : ¬ goodP s a) :
    Calls Tryz.prog 32 #[.int .i64 c, .agg #[.int .i64 s, .int .i64 a]] w fun e w' => e = .returned (.tuple #[.int .i64 0, .int .i64 34]) ∧ Below w.heap.size w w' := by
  have HB := Lib.hid fun w => rBase_yes c w h1 h2
  have HG := Lib.hid fun w => rGood_no s a w h
  clear h
  go_enter Tryz.func32, Tryz.ntmps32
  go_wp2_with (first | (go_at_call 30; refine (HB.out _).mono ?_; rintro e w' ⟨rfl, rfl⟩) | (go_at_call 75; refine (HG.out _).mono ?_; rintro e w1 ⟨rfl, hb1⟩; obtain ⟨hc1, hf1⟩ := bcell hb1; have hz1 := hb1.size; (try simp at hz1); have hy1 : w.heap.size < w1.heap.size := (by omega); have hB1 : Below w.heap.size w w1 := below_step (by go_grown) hb1))
  go_ret2
  exact ⟨rfl, by go_grown⟩
theorem rStaff_yes (c s a : Int) (w : World) (h1 : 1 ≤ c) (h2 : c ≤ 3) (h : goodP s a) :
    Calls Tryz.prog 32 #[.int .i64 c, .agg #[.int .i64 s, .int .i64 a]] w fun e w' => e = .returned (.tuple #[.int .i64 (s - (36 - 6 * c)), .int .i64 0]) ∧ Below w.heap.size w w' := by
  have HB := Lib.hid fun w => rBase_yes c w h1 h2
  have HG := Lib.hid fun w => rGood_yes s a w h
  obtain ⟨g1, g2, g3, g4⟩ := h
  go_enter Tryz.func32, Tryz.ntmps32
  go_wp2_with (first | (go_at_call 30; refine (HB.out _).mono ?_; rintro e w' ⟨rfl, rfl⟩) | (go_at_call 75; refine (HG.out _).mono ?_; rintro e w1 ⟨rfl, hb1⟩; obtain ⟨hc1, hf1⟩ := bcell hb1; have hz1 := hb1.size; (try simp at hz1); have hy1 : w.heap.size < w1.heap.size := (by omega); have hB1 : Below w.heap.size w w1 := below_step (by go_grown) hb1))
  go_ret2
  exact ⟨rfl, by go_grown⟩
/-- both give the same two numbers -/
theorem Staff_both (c s a : Int) : ∃ x y : Int, (∀ w, Calls Tryz.prog 31 #[.int .i64 c, .agg #[.int .i64 s, .int .i64 a]] w fun e w' => e = .returned (.tuple #[.int .i64 x, .int .i64 y]) ∧ Below w.heap.size w w') ∧
    (∀ w, Calls Tryz.prog 32 #[.int .i64 c, .agg #[.int .i64 s, .int .i64 a]] w fun e w' => e = .returned (.tuple #[.int .i64 x, .int .i64 y]) ∧ Below w.heap.size w w') := by
  by_cases h : 1 ≤ c ∧ c ≤ 3
  · rcases Classical.em (goodP s a) with hg | hg
    · exact ⟨_, _, fun w => Staff_yes c s a w h.1 h.2 hg, fun w => rStaff_yes c s a w h.1 h.2 hg⟩
    · exact ⟨_, _, fun w => Staff_bad c s a w h.1 h.2 hg, fun w => rStaff_bad c s a w h.1 h.2 hg⟩
  · exact ⟨0, 30, fun w => Staff_no c s a 0 30 w (fun w => Base_no c w (by omega)) rfl, fun w => rStaff_no c s a 0 30 w (fun w => rBase_no c w (by omega)) rfl⟩

/-- Natural: the sum of the steps is the semitone of the letter in its octave -/
theorem nat7_step (s : Int) (h0 : 0 ≤ s) (h1 : s ≤ 100000) : nat7 (s + 1) = nat7 s + (if s % 7 = 2 ∨ s % 7 = 6 then 1 else 2) := by
  unfold nat7
  rcases (by omega : s % 7 = 0 ∨ s % 7 = 1 ∨ s % 7 = 2 ∨ s % 7 = 3 ∨ s % 7 = 4 ∨ s % 7 = 5 ∨ s % 7 = 6) with h | h | h | h | h | h | h
  · rw [h, show (s + 1) % 7 = 1 by omega, show (s + 1) / 7 = s / 7 by omega]; show s / 7 * 12 + 2 = s / 7 * 12 + 0 + (if (0 : Int) = 2 ∨ (0 : Int) = 6 then 1 else 2); simp
  · rw [h, show (s + 1) % 7 = 2 by omega, show (s + 1) / 7 = s / 7 by omega]; show s / 7 * 12 + 4 = s / 7 * 12 + 2 + (if (1 : Int) = 2 ∨ (1 : Int) = 6 then 1 else 2); simp; omega
  · rw [h, show (s + 1) % 7 = 3 by omega, show (s + 1) / 7 = s / 7 by omega]; show s / 7 * 12 + 5 = s / 7 * 12 + 4 + (if (2 : Int) = 2 ∨ (2 : Int) = 6 then 1 else 2); simp; omega
  · rw [h, show (s + 1) % 7 = 4 by omega, show (s + 1) / 7 = s / 7 by omega]; show s / 7 * 12 + 7 = s / 7 * 12 + 5 + (if (3 : Int) = 2 ∨ (3 : Int) = 6 then 1 else 2); simp; omega
  · rw [h, show (s + 1) % 7 = 5 by omega, show (s + 1) / 7 = s / 7 by omega]; show s / 7 * 12 + 9 = s / 7 * 12 + 7 + (if (4 : Int) = 2 ∨ (4 : Int) = 6 then 1 else 2); simp; omega
  · rw [h, show (s + 1) % 7 = 6 by omega, show (s + 1) / 7 = s / 7 by omega]; show s / 7 * 12 + 11 = s / 7 * 12 + 9 + (if (5 : Int) = 2 ∨ (5 : Int) = 6 then 1 else 2); simp; omega
  · rw [h, show (s + 1) % 7 = 0 by omega, show (s + 1) / 7 = s / 7 + 1 by omega]; show (s / 7 + 1) * 12 + 0 = s / 7 * 12 + 11 + (if (6 : Int) = 2 ∨ (6 : Int) = 6 then 1 else 2); simp; omega
theorem rNatural_c (s : Int) (w : World) (h1 : s ≤ 1000) (h0 : 0 ≤ s) :
    Calls Tryz.prog 92 #[.int .i64 s] w fun e w' => e = .returned (.int .i64 (nat7 s)) ∧ w = w' := by
  go_enter Tryz.func92, Tryz.ntmps92
  go_wp2_with fail
  go_loop [3, 4] (fun n i => ∃ k : Nat, (k : Int) ≤ s ∧ i = .int .i64 k ∧ n = .int .i64 (nat7 k)) (fun _ i => s.toNat - (intOf i).toNat)
  case atStart => exact ⟨0, by omega, rfl, rfl⟩
  case round =>
    obtain ⟨k, hk, rfl, rfl⟩ := hrel
    have hbd := nat7_bd k (by omega) (by omega)
    have hst := nat7_step k (by omega) (by omega)
    generalize hm : nat7 (k : Int) = m at *
    have HM := Lib.hid hm
    clear hm
    by_cases hlt : (k : Int) < s
    · by_cases h2 : (k : Int) % 7 = 2
      · rw [if_pos (.inl h2)] at hst
        have e2 : ((k : Int) % 7 == 2) = true := by rw [h2]; rfl
        clear h2
        go_wp2_with fail
        go_round
        case rel => exact ⟨k + 1, by omega, by go_num, by rw [show ((k + 1 : Nat) : Int) = (k : Int) + 1 by omega, hst]⟩
        case measure => simp [intOf]; omega
      · have e2 : ((k : Int) % 7 == 2) = false := beq_eq_false_iff_ne.2 h2
        by_cases h6 : (k : Int) % 7 = 6
        · rw [if_pos (.inr h6)] at hst
          have e6 : ((k : Int) % 7 == 6) = true := by rw [h6]; rfl
          clear h2 h6
          go_wp2_with fail
          go_round
          case rel => exact ⟨k + 1, by omega, by go_num, by rw [show ((k + 1 : Nat) : Int) = (k : Int) + 1 by omega, hst]⟩
          case measure => simp [intOf]; omega
        · rw [if_neg (by omega)] at hst
          have e6 : ((k : Int) % 7 == 6) = false := beq_eq_false_iff_ne.2 h6
          clear h2 h6
          go_wp2_with fail
          go_round
          case rel => exact ⟨k + 1, by omega, by go_num, by rw [show ((k + 1 : Nat) : Int) = (k : Int) + 1 by omega, hst]⟩
          case measure => simp [intOf]; omega
    · obtain rfl : (k : Int) = s := by omega
      go_wp2_with fail
      go_ret
      exact ⟨ret_int HM.out.symm, rfl⟩
end Go.Proofs.YthfclapnkemjiaaGreatDoor
