/-
  Contracts of tone.Alter, signature.alter and State.none. Conditions: integers are of their type.
-/
import Derived.Test.YthfclapnkemjiaaGreatDoorLeaf
namespace Go.Proofs.YthfclapnkemjiaaGreatDoor
open Go.RowKit

def fif (k : Nat) : Int := ([3, 0, 4, 1, 5, 2, 6] : List Int).getD k 0
/-- the place of a letter in the order of the fifths -/
def fifAt (m : Int) : Int := ([1, 3, 5, 0, 2, 4, 6] : List Int).getD m.toNat 0
/-- the alteration of a Step in a key -/
def keyAlt (key step : Int) : Int := if fifAt (step % 7) < key then 1 else if 6 - fifAt (step % 7) < -key then -1 else 0
theorem fif_at (k : Nat) (m : Int) (hk : k < 7) (h : fif k = m) : fifAt m = k := by
  subst h
  rcases (by omega : k = 0 ∨ k = 1 ∨ k = 2 ∨ k = 3 ∨ k = 4 ∨ k = 5 ∨ k = 6) with rfl | rfl | rfl | rfl | rfl | rfl | rfl <;> rfl
theorem at_fif (m : Int) (h0 : 0 ≤ m) (h1 : m < 7) : ∃ k : Nat, k < 7 ∧ fif k = m := by
  rcases (by omega : m = 0 ∨ m = 1 ∨ m = 2 ∨ m = 3 ∨ m = 4 ∨ m = 5 ∨ m = 6) with rfl | rfl | rfl | rfl | rfl | rfl | rfl
  · exact ⟨1, by omega, rfl⟩
  · exact ⟨3, by omega, rfl⟩
  · exact ⟨5, by omega, rfl⟩
  · exact ⟨0, by omega, rfl⟩
  · exact ⟨2, by omega, rfl⟩
  · exact ⟨4, by omega, rfl⟩
  · exact ⟨6, by omega, rfl⟩
theorem keyAlt_bd (key step : Int) : -1 ≤ keyAlt key step ∧ keyAlt key step ≤ 1 := by
  unfold keyAlt; split
  · omega
  · split <;> omega
/-- no round before the k-th has answered -/
def altNot (key step : Int) (k : Nat) : Prop := ∀ j : Nat, j < k → fif j = step % 7 → ¬ (j : Int) < key ∧ ¬ 6 - (j : Int) < -key
theorem altNot_zero (key step : Int) : altNot key step 0 := fun _ h => by omega
theorem altNot_succ {key step : Int} {k : Nat} (h : altNot key step k) (hk : fif k = step % 7 → ¬ (k : Int) < key ∧ ¬ 6 - (k : Int) < -key) : altNot key step (k + 1) := fun j hj he => by
  by_cases e : j = k
  · subst e; exact hk he
  · exact h j (by omega) he
theorem altNot_end {key step : Int} (h : altNot key step 7) : keyAlt key step = 0 := by
  obtain ⟨k, hk, he⟩ := at_fif (step % 7) (by omega) (by omega)
  have := h k hk he
  unfold keyAlt
  rw [fif_at k _ hk he, if_neg this.1, if_neg this.2]
theorem alt_up {key step : Int} {k : Nat} (hk : k < 7) (he : fif k = step % 7) (h : (k : Int) < key) : keyAlt key step = 1 := by
  unfold keyAlt; rw [fif_at k _ hk he, if_pos h]
theorem alt_down {key step : Int} {k : Nat} (hk : k < 7) (he : fif k = step % 7) (h : ¬ (k : Int) < key) (h' : 6 - (k : Int) < -key) : keyAlt key step = -1 := by
  unfold keyAlt; rw [fif_at k _ hk he, if_neg h, if_pos h']

theorem Alter_nokey (key step : Int) (w : World) (h : key < -4 ∨ 4 < key) :
    Calls Tryz.prog 33 #[.int .i64 key, .int .i64 step] w fun e w' => e = .returned (.tuple #[.int .i64 0, .int .i64 31]) ∧ w = w' := by
  have H := Lib.hid (isKey_no key w h)
  clear h
  go_enter Tryz.func33, Tryz.ntmps33
  go_wp2_with (go_at_call 76; refine H.out.mono ?_; rintro e w' ⟨rfl, rfl⟩)
  go_ret2
  exact ⟨rfl, rfl⟩
theorem Alter_nostep (key step : Int) (w : World) (h1 : -4 ≤ key) (h2 : key ≤ 4) (h : step < 0 ∨ 70 ≤ step) :
    Calls Tryz.prog 33 #[.int .i64 key, .int .i64 step] w fun e w' => e = .returned (.tuple #[.int .i64 0, .int .i64 34]) ∧ w = w' := by
  have H := Lib.hid (isKey_yes key w h1 h2)
  rcases h with h | h
  · go_enter Tryz.func33, Tryz.ntmps33
    go_wp2_with (go_at_call 76; refine H.out.mono ?_; rintro e w' ⟨rfl, rfl⟩)
    go_ret2
    exact ⟨rfl, rfl⟩
  · have h' : 0 ≤ step := by omega
    go_enter Tryz.func33, Tryz.ntmps33
    go_wp2_with (go_at_call 76; refine H.out.mono ?_; rintro e w' ⟨rfl, rfl⟩)
    go_ret2
    exact ⟨rfl, rfl⟩
set_option maxHeartbeats 400000 in
theorem Alter_c (key step : Int) (w : World) (h1 : -4 ≤ key) (h2 : key ≤ 4) (h3 : 0 ≤ step) (h4 : step < 70) :
    Calls Tryz.prog 33 #[.int .i64 key, .int .i64 step] w fun e w' => e = .returned (.tuple #[.int .i64 (keyAlt key step), .int .i64 0]) ∧ Below w.heap.size w w' := by
  have H := Lib.hid (isKey_yes key w h1 h2)
  go_enter Tryz.func33, Tryz.ntmps33
  go_wp2_with (first | (go_at_call 76; refine H.out.mono ?_; rintro e w' ⟨rfl, rfl⟩) | (go_at_call 77; refine (fifths_c _).mono ?_; rintro e w1 ⟨rfl, hb1⟩))
  go_loop [20] (fun i => ∃ k : Nat, k ≤ 7 ∧ i = .int .i64 k ∧ altNot key step k) (fun i => 7 - (intOf i).toNat)
  case atStart => exact ⟨0, by omega, rfl, altNot_zero _ _⟩
  case round =>
    obtain ⟨k, hk, rfl, hn⟩ := hrel
    by_cases hlt : k < 7
    · have hi := idx7 3 0 4 1 5 2 6 k hlt
      have hf : ([3, 0, 4, 1, 5, 2, 6] : List Int).getD k 0 = fif k := rfl
      rw [hf] at hi
      clear hf
      by_cases he : fif k = step % 7
      · have e1 : fif k ≤ step % 7 := by omega
        have e2 : step % 7 ≤ fif k := by omega
        have HE := Lib.hid he
        clear he
        by_cases hu : (k : Int) < key
        · go_wp2_with fail
          go_ret2
          exact ⟨by rw [alt_up hlt HE.out (by omega)]; rfl, hb1⟩
        · by_cases hd : 6 - (k : Int) < -key
          · go_wp2_with fail
            go_ret2
            exact ⟨by rw [alt_down hlt HE.out (by omega) (by omega)]; rfl, hb1⟩
          · go_wp2_with fail
            go_round
            case rel => exact ⟨k + 1, by omega, by go_num, altNot_succ hn (fun _ => ⟨by omega, by omega⟩)⟩
            case measure => simp [intOf]; omega
      · have e1 : fif k < step % 7 ∨ step % 7 < fif k := by omega
        have HE := Lib.hid he
        clear he
        rcases e1 with e1 | e1
        all_goals
          go_wp2_with fail
          go_round
          case rel => exact ⟨k + 1, by omega, by go_num, altNot_succ hn (fun h => absurd h HE.out)⟩
          case measure => simp [intOf]; omega
    · obtain rfl : k = 7 := by omega
      go_wp2_with fail
      go_ret2
      exact ⟨by rw [altNot_end hn]; rfl, hb1⟩

/-- signature.alter -/
theorem alter_c (key step : Int) (w : World) (h1 : -4 ≤ key) (h2 : key ≤ 4) (h3 : 0 ≤ step) (h4 : step < 70) :
    Calls Tryz.prog 82 #[.agg #[.int .i64 key], .int .i64 step] w fun e w' => e = .returned (.int .i64 (keyAlt key step)) ∧ Below w.heap.size w w' := by
  go_enter Tryz.func82, Tryz.ntmps82
  go_wp2_with (go_at_call 33; refine (Alter_c key step _ h1 h2 h3 h4).mono ?_; rintro e w1 ⟨rfl, hb1⟩)
  go_ret
  exact ⟨rfl, ((Below.refl _ _).alloc (Nat.le_refl _) _).trans (hb1.mono (by simp))⟩
end Go.Proofs.YthfclapnkemjiaaGreatDoor
