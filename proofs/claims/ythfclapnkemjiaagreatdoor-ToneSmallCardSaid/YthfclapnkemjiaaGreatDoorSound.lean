/-
  Contracts of Alter and Sounding of the reference, of tone.Sounding, and of both packages together; custoslaw05.staves. Conditions: integers are of their type.
-/
import Derived.Test.YthfclapnkemjiaaGreatDoorRef4
import Derived.Deep.DeepCutAuto
namespace Go.Proofs.YthfclapnkemjiaaGreatDoor
open Go.RowKit
set_option linter.unusedSimpArgs false
set_option linter.unusedVariables false

/-- the sharps' and the flats' slices -/
theorem up_at (k : Nat) (hk : k < 4) : ([3, 0, 4, 1] : List Int).getD k 0 = fif k := by
  rcases (by omega : k = 0 ∨ k = 1 ∨ k = 2 ∨ k = 3) with rfl | rfl | rfl | rfl <;> rfl
theorem down_at (k : Nat) (hk : k < 4) : ([6, 2, 5, 1] : List Int).getD k 0 = fif (6 - k) := by
  rcases (by omega : k = 0 ∨ k = 1 ∨ k = 2 ∨ k = 3) with rfl | rfl | rfl | rfl <;> rfl

set_option maxRecDepth 100000 in
set_option maxHeartbeats 4000000 in
theorem rAlter_c (key step : Int) (w : World) (h1 : -4 ≤ key) (h2 : key ≤ 4) (h3 : 0 ≤ step) (h4 : step < 70) :
    Calls Tryz.prog 34 #[.int .i64 key, .int .i64 step] w fun e w' => e = .returned (.tuple #[.int .i64 (keyAlt key step), .int .i64 0]) ∧ Below w.heap.size w w' := by
  have H := Lib.hid (rIsKey_yes key w h1 h2)
  go_enter Tryz.func34, Tryz.ntmps34
  go_wp2_with (go_at_call 78; refine H.out.mono ?_; rintro e w' ⟨rfl, rfl⟩)
  refine wp_named fun W hW => ?_
  have hBW : Below w.heap.size w W := by rw [hW]; clear hW; go_grown
  have hU : ∀ k : Nat, k < 4 → W.cell? ⟨w.heap.size, k, none⟩ = some (.int .i64 (fif k)) := by
    intro k hk
    rw [hW]
    clear hW
    rcases (by omega : k = 0 ∨ k = 1 ∨ k = 2 ∨ k = 3) with rfl | rfl | rfl | rfl <;> go_simp <;> rfl
  have hD : ∀ k : Nat, k < 4 → W.cell? ⟨w.heap.size + 1, k, none⟩ = some (.int .i64 (fif (6 - k))) := by
    intro k hk
    rw [hW]
    clear hW
    rcases (by omega : k = 0 ∨ k = 1 ∨ k = 2 ∨ k = 3) with rfl | rfl | rfl | rfl <;> go_simp <;> rfl
  have HU := Lib.hid hU
  have HD := Lib.hid hD
  have HW := Lib.hid hW
  clear hU hD hW
  go_loop [8] (fun i => ∃ k : Nat, k ≤ 4 ∧ (k = 0 ∨ (k : Int) ≤ key) ∧ i = .int .i64 k ∧ ∀ j : Nat, j < k → fif j ≠ step % 7) (fun i => 4 - (intOf i).toNat)
  case atStart => exact ⟨0, by omega, .inl rfl, rfl, fun j hj => by omega⟩
  case round =>
    obtain ⟨k, hk4, hkk, rfl, hn⟩ := hrel
    have HN := Lib.hid hn
    clear hn
    by_cases hlt : (k : Int) < key
    · have hc := HU.out k (by omega)
      by_cases he : fif k = step % 7
      · have e1 : (fif k == step % 7) = true := by rw [he]; exact beq_self_eq_true _
        have HE := Lib.hid he
        clear he
        go_wp2_with fail
        go_ret2
        exact ⟨by rw [alt_up (by omega) HE.out (by omega)]; rfl, hBW⟩
      · have e1 : (fif k == step % 7) = false := beq_eq_false_iff_ne.2 he
        have HE := Lib.hid he
        clear he
        go_wp2_with fail
        go_round
        case rel => exact ⟨k + 1, by omega, by omega, by go_num, fun j hj h => by
          by_cases e : j = k
          · subst e; exact HE.out h
          · exact HN.out j (by omega) h⟩
        case measure => simp [intOf]; omega
    · have HN2 : Hid (∀ j : Nat, (j : Int) < key → fif j ≠ step % 7) := fun j hj => HN.out j (by omega)
      clear HN
      go_wp2_with fail
      go_loop [9] (fun i => ∃ k : Nat, k ≤ 4 ∧ (k = 0 ∨ (k : Int) ≤ -key) ∧ i = .int .i64 k ∧ ∀ j : Nat, j < k → fif (6 - j) ≠ step % 7) (fun i => 4 - (intOf i).toNat)
      case atStart => exact ⟨0, by omega, .inl rfl, rfl, fun j hj => by omega⟩
      case round =>
        obtain ⟨k, hk4, hkk, rfl, hn⟩ := hrel
        have HN := Lib.hid hn
        clear hn
        by_cases hlt : (k : Int) < -key
        · have hc := HD.out k (by omega)
          by_cases he : fif (6 - k) = step % 7
          · have e1 : (fif (6 - k) == step % 7) = true := by rw [he]; exact beq_self_eq_true _
            have HE := Lib.hid he
            clear he
            go_wp2_with fail
            go_ret2
            exact ⟨by rw [alt_down (by omega) HE.out (by omega) (by omega)]; rfl, hBW⟩
          · have e1 : (fif (6 - k) == step % 7) = false := beq_eq_false_iff_ne.2 he
            have HE := Lib.hid he
            clear he
            go_wp2_with fail
            go_round
            case rel => exact ⟨k + 1, by omega, by omega, by go_num, fun j hj h => by
              by_cases e : j = k
              · subst e; exact HE.out h
              · exact HN.out j (by omega) h⟩
            case measure => simp [intOf]; omega
        · go_wp2_with fail
          go_ret2
          exact ⟨by rw [alt_none HN2.out (fun j hj => HN.out j (by omega))]; rfl, hBW⟩

/-- Sounding -/
def soundP (c key step acc : Int) : Prop := 1 ≤ c ∧ c ≤ 3 ∧ -4 ≤ key ∧ key ≤ 4 ∧ -(36 - 6 * c) ≤ step ∧ step ≤ 69 - (36 - 6 * c) ∧ 0 ≤ acc ∧ acc ≤ 3
/-- the error of Sounding -/
def soundE (c key step acc : Int) : Int := if c < 1 ∨ 3 < c then 30 else if key < -4 ∨ 4 < key then 31 else if step < -(36 - 6 * c) ∨ 69 - (36 - 6 * c) < step then 34 else if acc < 0 ∨ 3 < acc then 66 else 0

set_option maxRecDepth 100000 in
set_option maxHeartbeats 1000000 in
theorem Sounding_clef (c key step acc : Int) (w : World) (h : c < 1 ∨ 3 < c) :
    Calls Tryz.prog 35 #[.int .i64 c, .int .i64 key, .int .i64 step, .int .i64 acc] w fun e w' => e = .returned (.tuple #[.agg #[.int .i64 0, .int .i64 0], .int .i64 30]) ∧ Below w.heap.size w w' := by
  have HB := Lib.hid fun w => Base_no c w h
  clear h
  go_enter Tryz.func35, Tryz.ntmps35
  go_wp2_with (go_at_call 29; refine (HB.out _).mono ?_; rintro e w' ⟨rfl, rfl⟩)
  go_returns
  exact ⟨rfl, by go_grown⟩
set_option maxRecDepth 100000 in
set_option maxHeartbeats 1000000 in
theorem Sounding_key (c key step acc : Int) (w : World) (h1 : 1 ≤ c) (h2 : c ≤ 3) (h : key < -4 ∨ 4 < key) :
    Calls Tryz.prog 35 #[.int .i64 c, .int .i64 key, .int .i64 step, .int .i64 acc] w fun e w' => e = .returned (.tuple #[.agg #[.int .i64 0, .int .i64 0], .int .i64 31]) ∧ Below w.heap.size w w' := by
  have HB := Lib.hid fun w => Base_yes c w h1 h2
  have HK := Lib.hid fun w => isKey_no key w h
  clear h
  go_enter Tryz.func35, Tryz.ntmps35
  go_wp2_with (first | (go_at_call 29; refine (HB.out _).mono ?_; rintro e w' ⟨rfl, rfl⟩) | (go_at_call 76; refine (HK.out _).mono ?_; rintro e w' ⟨rfl, rfl⟩))
  go_returns
  exact ⟨rfl, by go_grown⟩
set_option maxRecDepth 100000 in
set_option maxHeartbeats 1000000 in
theorem Sounding_step (c key step acc : Int) (w : World) (h1 : 1 ≤ c) (h2 : c ≤ 3) (h3 : -4 ≤ key) (h4 : key ≤ 4) (h : step < -(36 - 6 * c) ∨ 69 - (36 - 6 * c) < step) :
    Calls Tryz.prog 35 #[.int .i64 c, .int .i64 key, .int .i64 step, .int .i64 acc] w fun e w' => e = .returned (.tuple #[.agg #[.int .i64 0, .int .i64 0], .int .i64 34]) ∧ Below w.heap.size w w' := by
  have HB := fun w => Base_yes c w h1 h2
  have HK := Lib.hid fun w => isKey_yes key w h3 h4
  obtain ⟨b, hb⟩ : ∃ b, 36 - 6 * c = b := ⟨_, rfl⟩
  have hb0 : 18 ≤ b ∧ b ≤ 30 := by omega
  rw [hb] at HB h
  have HB := Lib.hid HB
  clear hb h1 h2
  by_cases hs : step < -b
  · clear h
    go_enter Tryz.func35, Tryz.ntmps35
    go_wp2_with (first | (go_at_call 29; refine (HB.out _).mono ?_; rintro e w' ⟨rfl, rfl⟩) | (go_at_call 76; refine (HK.out _).mono ?_; rintro e w' ⟨rfl, rfl⟩))
    go_returns
    exact ⟨rfl, by go_grown⟩
  · have hs2 : 70 - b ≤ step := by omega
    clear h
    go_enter Tryz.func35, Tryz.ntmps35
    go_wp2_with (first | (go_at_call 29; refine (HB.out _).mono ?_; rintro e w' ⟨rfl, rfl⟩) | (go_at_call 76; refine (HK.out _).mono ?_; rintro e w' ⟨rfl, rfl⟩))
    go_returns
    exact ⟨rfl, by go_grown⟩
set_option maxRecDepth 100000 in
set_option maxHeartbeats 1000000 in
theorem Sounding_acc (c key step acc : Int) (w : World) (h1 : 1 ≤ c) (h2 : c ≤ 3) (h3 : -4 ≤ key) (h4 : key ≤ 4) (h5 : -(36 - 6 * c) ≤ step) (h6 : step ≤ 69 - (36 - 6 * c)) (h : acc < 0 ∨ 3 < acc) :
    Calls Tryz.prog 35 #[.int .i64 c, .int .i64 key, .int .i64 step, .int .i64 acc] w fun e w' => e = .returned (.tuple #[.agg #[.int .i64 0, .int .i64 0], .int .i64 66]) ∧ Below w.heap.size w w' := by
  have HB := fun w => Base_yes c w h1 h2
  have HK := Lib.hid fun w => isKey_yes key w h3 h4
  obtain ⟨b, hb⟩ : ∃ b, 36 - 6 * c = b := ⟨_, rfl⟩
  have hb0 : 18 ≤ b ∧ b ≤ 30 := by omega
  rw [hb] at HB h5 h6
  have h7 : ¬ 70 - b ≤ step := by omega
  have HB := Lib.hid HB
  clear hb h1 h2 h6
  by_cases hs : acc < 0
  · clear h
    go_enter Tryz.func35, Tryz.ntmps35
    go_wp2_with (first | (go_at_call 29; refine (HB.out _).mono ?_; rintro e w' ⟨rfl, rfl⟩) | (go_at_call 76; refine (HK.out _).mono ?_; rintro e w' ⟨rfl, rfl⟩))
    go_returns
    exact ⟨rfl, by go_grown⟩
  · have hs2 : 3 < acc := by omega
    clear h
    go_enter Tryz.func35, Tryz.ntmps35
    go_wp2_with (first | (go_at_call 29; refine (HB.out _).mono ?_; rintro e w' ⟨rfl, rfl⟩) | (go_at_call 76; refine (HK.out _).mono ?_; rintro e w' ⟨rfl, rfl⟩))
    go_returns
    exact ⟨rfl, by go_grown⟩
set_option maxRecDepth 100000 in
set_option maxHeartbeats 1000000 in
theorem Sounding_yes (c key step acc : Int) (w : World) (h1 : 1 ≤ c) (h2 : c ≤ 3) (h3 : -4 ≤ key) (h4 : key ≤ 4) (h5 : -(36 - 6 * c) ≤ step) (h6 : step ≤ 69 - (36 - 6 * c)) (h8 : 0 ≤ acc) (h9 : acc ≤ 3) :
    Calls Tryz.prog 35 #[.int .i64 c, .int .i64 key, .int .i64 step, .int .i64 acc] w fun e w' => e = .returned (.tuple #[.agg #[.int .i64 (step + (36 - 6 * c)), .int .i64 (if acc = 0 then keyAlt key (step + (36 - 6 * c)) else means acc)], .int .i64 0]) ∧ Below w.heap.size w w' := by
  have HB := fun w => Base_yes c w h1 h2
  have HK := Lib.hid fun w => isKey_yes key w h3 h4
  obtain ⟨b, hb⟩ : ∃ b, 36 - 6 * c = b := ⟨_, rfl⟩
  have hb0 : 18 ≤ b ∧ b ≤ 30 := by omega
  rw [hb] at HB h5 h6 ⊢
  have h7 : ¬ 70 - b ≤ step := by omega
  have HB := Lib.hid HB
  have HM := Lib.hid fun w => meaning_c acc w h8 h9
  have HA := Lib.hid fun w => Alter_c key (step + b) w h3 h4 (by omega) (by omega)
  clear hb h1 h2
  by_cases hs : acc = 0
  · subst hs
    rw [if_pos rfl]
    generalize keyAlt key (step + b) = ka at *
    generalize means 0 = me at *
    go_enter Tryz.func35, Tryz.ntmps35
    go_wp2_with (first | (go_at_call 29; refine (HB.out _).mono ?_; rintro e w' ⟨rfl, rfl⟩) | (go_at_call 76; refine (HK.out _).mono ?_; rintro e w' ⟨rfl, rfl⟩) | (go_at_call 79; refine (HM.out _).mono ?_; rintro e w' ⟨rfl, rfl⟩) | (go_at_call 33; refine (HA.out _).mono ?_; rintro e w1 ⟨rfl, hb1⟩; obtain ⟨hc1, hf1⟩ := bcell hb1; have hz1 := hb1.size; (try simp at hz1); have hy1 : w.heap.size < w1.heap.size := (by omega); have hy1_1 : w.heap.size + 1 < w1.heap.size := (by omega); have hB1 : Below w.heap.size w w1 := below_step (by go_grown) hb1))
    have q0 : w.heap.size < w.heap.size + 1 + 1 := by omega
    (try simp only [Exit.inBlock, Exit.then]); refine bodyPost_ret (by simp [results, Tryz.results35, go_sem, *]; try rfl) rfl ?_
    exact ⟨rfl, by go_grown⟩
  · have hab : (acc == 0) = false := beq_eq_false_iff_ne.2 hs
    rw [if_neg hs]
    clear HA hs
    generalize means acc = me at *
    go_enter Tryz.func35, Tryz.ntmps35
    go_wp2_with (first | (go_at_call 29; refine (HB.out _).mono ?_; rintro e w' ⟨rfl, rfl⟩) | (go_at_call 76; refine (HK.out _).mono ?_; rintro e w' ⟨rfl, rfl⟩) | (go_at_call 79; refine (HM.out _).mono ?_; rintro e w' ⟨rfl, rfl⟩))
    go_returns
    exact ⟨rfl, by go_grown⟩
set_option maxRecDepth 100000 in
set_option maxHeartbeats 1000000 in
theorem rSounding_clef (c key step acc : Int) (w : World) (h : c < 1 ∨ 3 < c) :
    Calls Tryz.prog 36 #[.int .i64 c, .int .i64 key, .int .i64 step, .int .i64 acc] w fun e w' => e = .returned (.tuple #[.agg #[.int .i64 0, .int .i64 0], .int .i64 30]) ∧ Below w.heap.size w w' := by
  have HB := Lib.hid fun w => rBase_no c w h
  clear h
  go_enter Tryz.func36, Tryz.ntmps36
  go_wp2_with (go_at_call 30; refine (HB.out _).mono ?_; rintro e w' ⟨rfl, rfl⟩)
  go_returns
  exact ⟨rfl, by go_grown⟩
set_option maxRecDepth 100000 in
set_option maxHeartbeats 1000000 in
theorem rSounding_key (c key step acc : Int) (w : World) (h1 : 1 ≤ c) (h2 : c ≤ 3) (h : key < -4 ∨ 4 < key) :
    Calls Tryz.prog 36 #[.int .i64 c, .int .i64 key, .int .i64 step, .int .i64 acc] w fun e w' => e = .returned (.tuple #[.agg #[.int .i64 0, .int .i64 0], .int .i64 31]) ∧ Below w.heap.size w w' := by
  have HB := Lib.hid fun w => rBase_yes c w h1 h2
  have HK := Lib.hid fun w => rIsKey_no key w h
  clear h
  go_enter Tryz.func36, Tryz.ntmps36
  go_wp2_with (first | (go_at_call 30; refine (HB.out _).mono ?_; rintro e w' ⟨rfl, rfl⟩) | (go_at_call 78; refine (HK.out _).mono ?_; rintro e w' ⟨rfl, rfl⟩))
  go_returns
  exact ⟨rfl, by go_grown⟩
set_option maxRecDepth 100000 in
set_option maxHeartbeats 1000000 in
theorem rSounding_step (c key step acc : Int) (w : World) (h1 : 1 ≤ c) (h2 : c ≤ 3) (h3 : -4 ≤ key) (h4 : key ≤ 4) (h : step < -(36 - 6 * c) ∨ 69 - (36 - 6 * c) < step) :
    Calls Tryz.prog 36 #[.int .i64 c, .int .i64 key, .int .i64 step, .int .i64 acc] w fun e w' => e = .returned (.tuple #[.agg #[.int .i64 0, .int .i64 0], .int .i64 34]) ∧ Below w.heap.size w w' := by
  have HB := fun w => rBase_yes c w h1 h2
  have HK := Lib.hid fun w => rIsKey_yes key w h3 h4
  obtain ⟨b, hb⟩ : ∃ b, 36 - 6 * c = b := ⟨_, rfl⟩
  have hb0 : 18 ≤ b ∧ b ≤ 30 := by omega
  rw [hb] at HB h
  have HB := Lib.hid HB
  clear hb h1 h2
  by_cases hs : step < -b
  · clear h
    go_enter Tryz.func36, Tryz.ntmps36
    go_wp2_with (first | (go_at_call 30; refine (HB.out _).mono ?_; rintro e w' ⟨rfl, rfl⟩) | (go_at_call 78; refine (HK.out _).mono ?_; rintro e w' ⟨rfl, rfl⟩))
    go_returns
    exact ⟨rfl, by go_grown⟩
  · have hs2 : 69 - b < step := by omega
    clear h
    go_enter Tryz.func36, Tryz.ntmps36
    go_wp2_with (first | (go_at_call 30; refine (HB.out _).mono ?_; rintro e w' ⟨rfl, rfl⟩) | (go_at_call 78; refine (HK.out _).mono ?_; rintro e w' ⟨rfl, rfl⟩))
    go_returns
    exact ⟨rfl, by go_grown⟩
set_option maxRecDepth 100000 in
set_option maxHeartbeats 1000000 in
theorem rSounding_acc (c key step acc : Int) (w : World) (h1 : 1 ≤ c) (h2 : c ≤ 3) (h3 : -4 ≤ key) (h4 : key ≤ 4) (h5 : -(36 - 6 * c) ≤ step) (h6 : step ≤ 69 - (36 - 6 * c)) (h : acc < 0 ∨ 3 < acc) :
    Calls Tryz.prog 36 #[.int .i64 c, .int .i64 key, .int .i64 step, .int .i64 acc] w fun e w' => e = .returned (.tuple #[.agg #[.int .i64 0, .int .i64 0], .int .i64 66]) ∧ Below w.heap.size w w' := by
  have HB := fun w => rBase_yes c w h1 h2
  have HK := Lib.hid fun w => rIsKey_yes key w h3 h4
  obtain ⟨b, hb⟩ : ∃ b, 36 - 6 * c = b := ⟨_, rfl⟩
  have hb0 : 18 ≤ b ∧ b ≤ 30 := by omega
  rw [hb] at HB h5 h6
  have h7 : ¬ 69 - b < step := by omega
  have HB := Lib.hid HB
  clear hb h1 h2 h6
  by_cases hs : acc < 0
  · clear h
    go_enter Tryz.func36, Tryz.ntmps36
    go_wp2_with (first | (go_at_call 30; refine (HB.out _).mono ?_; rintro e w' ⟨rfl, rfl⟩) | (go_at_call 78; refine (HK.out _).mono ?_; rintro e w' ⟨rfl, rfl⟩))
    go_returns
    exact ⟨rfl, by go_grown⟩
  · have hs2 : 3 < acc := by omega
    clear h
    go_enter Tryz.func36, Tryz.ntmps36
    go_wp2_with (first | (go_at_call 30; refine (HB.out _).mono ?_; rintro e w' ⟨rfl, rfl⟩) | (go_at_call 78; refine (HK.out _).mono ?_; rintro e w' ⟨rfl, rfl⟩))
    go_returns
    exact ⟨rfl, by go_grown⟩
set_option maxRecDepth 100000 in
set_option maxHeartbeats 1000000 in
theorem rSounding_yes (c key step acc : Int) (w : World) (h1 : 1 ≤ c) (h2 : c ≤ 3) (h3 : -4 ≤ key) (h4 : key ≤ 4) (h5 : -(36 - 6 * c) ≤ step) (h6 : step ≤ 69 - (36 - 6 * c)) (h8 : 0 ≤ acc) (h9 : acc ≤ 3) :
    Calls Tryz.prog 36 #[.int .i64 c, .int .i64 key, .int .i64 step, .int .i64 acc] w fun e w' => e = .returned (.tuple #[.agg #[.int .i64 (step + (36 - 6 * c)), .int .i64 (if acc = 0 then keyAlt key (step + (36 - 6 * c)) else means acc)], .int .i64 0]) ∧ Below w.heap.size w w' := by
  have HB := fun w => rBase_yes c w h1 h2
  have HK := Lib.hid fun w => rIsKey_yes key w h3 h4
  obtain ⟨b, hb⟩ : ∃ b, 36 - 6 * c = b := ⟨_, rfl⟩
  have hb0 : 18 ≤ b ∧ b ≤ 30 := by omega
  rw [hb] at HB h5 h6 ⊢
  have h7 : ¬ 69 - b < step := by omega
  have HB := Lib.hid HB
  have HM := Lib.hid fun w => rsays_c acc w
  have HA := Lib.hid fun w => rAlter_c key (step + b) w h3 h4 (by omega) (by omega)
  clear hb h1 h2
  by_cases hs : acc = 0
  · subst hs
    rw [if_pos rfl]
    generalize keyAlt key (step + b) = ka at *
    generalize means 0 = me at *
    go_enter Tryz.func36, Tryz.ntmps36
    go_wp2_with (first | (go_at_call 30; refine (HB.out _).mono ?_; rintro e w' ⟨rfl, rfl⟩) | (go_at_call 78; refine (HK.out _).mono ?_; rintro e w' ⟨rfl, rfl⟩) | (go_at_call 80; refine (HM.out _).mono ?_; rintro e w' ⟨rfl, rfl⟩) | (go_at_call 34; refine (HA.out _).mono ?_; rintro e w1 ⟨rfl, hb1⟩; obtain ⟨hc1, hf1⟩ := bcell hb1; have hz1 := hb1.size; (try simp at hz1); have hy1 : w.heap.size < w1.heap.size := (by omega); have hB1 : Below w.heap.size w w1 := below_step (by go_grown) hb1))
    have q0 : w.heap.size < w.heap.size + 1 + 1 := by omega
    (try simp only [Exit.inBlock, Exit.then]); refine bodyPost_ret (by simp [results, Tryz.results36, go_sem, *]; try rfl) rfl ?_
    exact ⟨rfl, by go_grown⟩
  · have hab : (acc == 0) = false := beq_eq_false_iff_ne.2 hs
    rw [if_neg hs]
    clear HA hs
    generalize means acc = me at *
    go_enter Tryz.func36, Tryz.ntmps36
    go_wp2_with (first | (go_at_call 30; refine (HB.out _).mono ?_; rintro e w' ⟨rfl, rfl⟩) | (go_at_call 78; refine (HK.out _).mono ?_; rintro e w' ⟨rfl, rfl⟩) | (go_at_call 80; refine (HM.out _).mono ?_; rintro e w' ⟨rfl, rfl⟩))
    go_returns
    exact ⟨rfl, by go_grown⟩
end Go.Proofs.YthfclapnkemjiaaGreatDoor
