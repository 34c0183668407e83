/-
  Contracts of the small functions of package tone: for every argument they return what is written here and leave the world alone, or make new blocks alone. Conditions: integers are of their type.
-/
import Derived.Test.YthfclapnkemjiaaGreatDoorChecked
import Derived.WalkKit
import Derived.ProofKit
import Derived.OpenShut
import Derived.Handy
import Derived.BigQuiet
import Derived.Deep.QuietTactic
import Derived.Deep.RegionHeld3
import Derived.WalkSpells
import Derived.WalkLawsBesides
import Derived.Outline
import Derived.Lib.Hide
namespace Go.Proofs.YthfclapnkemjiaaGreatDoor
open Go.RowKit

theorem bcell {W w1 : World} (hb : Below W.heap.size W w1) : (∀ b o, b < W.heap.size → w1.cell? ⟨b, o, none⟩ = W.cell? ⟨b, o, none⟩) ∧ (∀ b o, b < W.heap.size → w1.frozen? ⟨b, o, none⟩ = W.frozen? ⟨b, o, none⟩) :=
  ⟨fun b o h => hb.cell (p := ⟨b, o, none⟩) h, fun b o h => hb.frozen (p := ⟨b, o, none⟩) h⟩
theorem below_step {w W w1 : World} (h : Below w.heap.size w W) (hb : Below W.heap.size W w1) : Below w.heap.size w w1 := h.trans (hb.mono h.size)
/-- a number is of type int -/
def i64P (x : Int) : Prop := -9223372036854775808 ≤ x ∧ x ≤ 9223372036854775807
theorem ret_int {k : IntKind} {a b : Int} (h : a = b) : Ending.returned (.int k a) = .returned (.int k b) := by rw [h]
theorem ret_bool {a b : Bool} (h : a = b) : Ending.returned (.bool a) = .returned (.bool b) := by rw [h]

/-- an element of an array of three, four or seven integers that is held by value -/
theorem idx3 (x0 x1 x2 : Int) (k : Nat) (hk : k < 3) (w : World) :
    (Instr.index 106 (.agg #[.int .i64 x0, .int .i64 x1, .int .i64 x2]) (.int .i64 (k : Int))).run Tryz.prog w = .ok (.int .i64 ([x0, x1, x2].getD k 0)) w := by
  rcases (by omega : k = 0 ∨ k = 1 ∨ k = 2) with rfl | rfl | rfl <;> (clear hk; kernel_rfl)
theorem idx4 (x0 x1 x2 x3 : Int) (k : Nat) (hk : k < 4) (w : World) :
    (Instr.index 119 (.agg #[.int .i64 x0, .int .i64 x1, .int .i64 x2, .int .i64 x3]) (.int .i64 (k : Int))).run Tryz.prog w = .ok (.int .i64 ([x0, x1, x2, x3].getD k 0)) w := by
  rcases (by omega : k = 0 ∨ k = 1 ∨ k = 2 ∨ k = 3) with rfl | rfl | rfl | rfl <;> (clear hk; kernel_rfl)
theorem idx7 (x0 x1 x2 x3 x4 x5 x6 : Int) (k : Nat) (hk : k < 7) (w : World) :
    (Instr.index 97 (.agg #[.int .i64 x0, .int .i64 x1, .int .i64 x2, .int .i64 x3, .int .i64 x4, .int .i64 x5, .int .i64 x6]) (.int .i64 (k : Int))).run Tryz.prog w = .ok (.int .i64 ([x0, x1, x2, x3, x4, x5, x6].getD k 0)) w := by
  rcases (by omega : k = 0 ∨ k = 1 ∨ k = 2 ∨ k = 3 ∨ k = 4 ∨ k = 5 ∨ k = 6) with rfl | rfl | rfl | rfl | rfl | rfl | rfl <;> (clear hk; kernel_rfl)

/-- tone.isKey -/
theorem isKey_yes (k : Int) (w : World) (h1 : -4 ≤ k) (h2 : k ≤ 4) :
    Calls Tryz.prog 76 #[.int .i64 k] w fun e w' => e = .returned (.bool true) ∧ w = w' := by
  go_enter Tryz.func76, Tryz.ntmps76
  go_wp2
  go_ret
  exact ⟨rfl, rfl⟩
theorem isKey_no (k : Int) (w : World) (h : k < -4 ∨ 4 < k) :
    Calls Tryz.prog 76 #[.int .i64 k] w fun e w' => e = .returned (.bool false) ∧ w = w' := by
  rcases h with h | h
  · go_enter Tryz.func76, Tryz.ntmps76
    go_wp2
    go_ret
    exact ⟨rfl, rfl⟩
  · have h' : -4 ≤ k := by omega
    go_enter Tryz.func76, Tryz.ntmps76
    go_wp2
    go_ret
    exact ⟨ret_bool (by simp; omega), rfl⟩

/-- tone.meaning -/
def means (a : Int) : Int := if a = 1 then 1 else if a = 2 then -1 else 0
theorem means_at (k : Nat) (hk : k < 4) : means (k : Int) = [0, 1, -1, 0].getD k 0 := by
  match k, hk with
  | 0, _ => rfl
  | 1, _ => rfl
  | 2, _ => rfl
  | 3, _ => rfl
theorem meaning_c (a : Int) (w : World) (h0 : 0 ≤ a) (h3 : a ≤ 3) :
    Calls Tryz.prog 79 #[.int .i64 a] w fun e w' => e = .returned (.int .i64 (means a)) ∧ w = w' := by
  obtain ⟨k, rfl⟩ := Int.eq_ofNat_of_zero_le h0
  have hi := idx4 0 1 (-1) 0 k (by omega)
  rw [means_at k (by omega)]
  clear h0 h3
  generalize hv : ([0, 1, -1, 0] : List Int).getD k 0 = v at *
  have HV := Lib.hid hv
  clear hv
  go_enter Tryz.func79, Tryz.ntmps79
  go_wp2
  go_ret
  exact ⟨rfl, rfl⟩

/-- tone.size -/
theorem size_c (n : Int) (w : World) (h0 : -9223372036854775808 ≤ n) (h1 : n ≤ 9223372036854775807) :
    Calls Tryz.prog 69 #[.int .i64 n] w fun e w' => e = .returned (.int .u64 (n.natAbs : Int)) ∧ w = w' := by
  by_cases h : n < 0
  · go_enter Tryz.func69, Tryz.ntmps69
    go_wp2
    go_ret
    exact ⟨ret_int (by omega), rfl⟩
  · go_enter Tryz.func69, Tryz.ntmps69
    go_wp2
    go_ret
    exact ⟨ret_int (by omega), rfl⟩

/-- tone.good -/
def goodP (s a : Int) : Prop := 0 ≤ s ∧ s < 70 ∧ -1 ≤ a ∧ a ≤ 1
theorem good_yes (s a : Int) (w : World) (h : goodP s a) :
    Calls Tryz.prog 74 #[.agg #[.int .i64 s, .int .i64 a]] w fun e w' => e = .returned (.bool true) ∧ Below w.heap.size w w' := by
  obtain ⟨h1, h2, h3, h4⟩ := h
  go_enter Tryz.func74, Tryz.ntmps74
  go_wp2
  go_ret
  exact ⟨rfl, by go_grown⟩
theorem good_no (s a : Int) (w : World) (h : ¬ goodP s a) :
    Calls Tryz.prog 74 #[.agg #[.int .i64 s, .int .i64 a]] w fun e w' => e = .returned (.bool false) ∧ Below w.heap.size w w' := by
  unfold goodP at h
  by_cases h1 : 0 ≤ s
  · by_cases h2 : s < 70
    · by_cases h3 : -1 ≤ a
      · have h4 : ¬ a ≤ 1 := by omega
        clear h
        go_enter Tryz.func74, Tryz.ntmps74
        go_wp2
        go_ret
        exact ⟨rfl, by go_grown⟩
      · clear h
        go_enter Tryz.func74, Tryz.ntmps74
        go_wp2
        go_ret
        exact ⟨rfl, by go_grown⟩
    · clear h
      go_enter Tryz.func74, Tryz.ntmps74
      go_wp2
      go_ret
      exact ⟨rfl, by go_grown⟩
  · clear h
    go_enter Tryz.func74, Tryz.ntmps74
    go_wp2
    go_ret
    exact ⟨rfl, by go_grown⟩

/-- tone.fifths, tone.scale -/
theorem fifths_c (w : World) :
    Calls Tryz.prog 77 #[] w fun e w' => e = .returned (.agg #[.int .i64 3, .int .i64 0, .int .i64 4, .int .i64 1, .int .i64 5, .int .i64 2, .int .i64 6]) ∧ Below w.heap.size w w' := by
  go_enter Tryz.func77, Tryz.ntmps77
  go_wp2
  go_returns
  exact ⟨rfl, by go_grown⟩
theorem scale_c (w : World) :
    Calls Tryz.prog 98 #[] w fun e w' => e = .returned (.agg #[.int .i64 0, .int .i64 2, .int .i64 4, .int .i64 5, .int .i64 7, .int .i64 9, .int .i64 11]) ∧ Below w.heap.size w w' := by
  go_enter Tryz.func98, Tryz.ntmps98
  go_wp2
  go_returns
  exact ⟨rfl, by go_grown⟩

/-- tone.natural: the semitone of a Step. -/
def nat7 (s : Int) : Int := s / 7 * 12 + ([0, 2, 4, 5, 7, 9, 11] : List Int).getD (s % 7).toNat 0
theorem nat7_bd (s : Int) (h0 : 0 ≤ s) (h1 : s ≤ 100000) : 0 ≤ nat7 s ∧ nat7 s ≤ 200000 := by
  unfold nat7
  have h : (s % 7).toNat < 7 := by omega
  have : ∀ k, k < 7 → 0 ≤ ([0, 2, 4, 5, 7, 9, 11] : List Int).getD k 0 ∧ ([0, 2, 4, 5, 7, 9, 11] : List Int).getD k 0 ≤ 11 := by decide
  have := this _ h
  omega
theorem natural_c (s : Int) (w : World) (h0 : 0 ≤ s) (h1 : s ≤ 100000) :
    Calls Tryz.prog 85 #[.int .i64 s] w fun e w' => e = .returned (.int .i64 (nat7 s)) ∧ Below w.heap.size w w' := by
  have hb := nat7_bd s h0 h1
  have hm : (s % 7).toNat < 7 := by omega
  have hi := idx7 0 2 4 5 7 9 11 (s % 7).toNat hm
  have e : (((s % 7).toNat : Nat) : Int) = s % 7 := by omega
  rw [e] at hi
  clear e
  have hN : nat7 s = s / 7 * 12 + ([0, 2, 4, 5, 7, 9, 11] : List Int).getD (s % 7).toNat 0 := rfl
  generalize hv : ([0, 2, 4, 5, 7, 9, 11] : List Int).getD (s % 7).toNat 0 = v at *
  rw [hN] at hb ⊢
  clear hv hN
  go_enter Tryz.func85, Tryz.ntmps85
  go_wp2_with (go_at_call 98; go_call scale_c as e w' ⟨rfl, hb1⟩)
  go_ret
  exact ⟨rfl, hb1⟩
end Go.Proofs.YthfclapnkemjiaaGreatDoor
