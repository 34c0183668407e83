/-
  The contract of strconv.Itoa at numbers from 0 to 99. Condition: that range.
-/
import Derived.Test.YtpcefaccoifejaaGreatDoorK15
namespace Go.Proofs.YtpcefaccoifejaaGreatDoor
open Go.RowKit

def decL (n : Nat) : List UInt8 := if n < 10 then [48 + n.toUInt8] else [48 + (n / 10).toUInt8, 48 + (n % 10).toUInt8]
/-- a number below 100 in decimal digits -/
def dec (n : Nat) : ByteArray := ⟨(decL n).toArray⟩
set_option maxRecDepth 100000 in
theorem small_c (n : Int) (w : World) (h0 : 0 ≤ n) (h1 : n < 100) :
    Calls Tryz.prog 94 #[.int .i64 n] w fun e w' => e = .returned (.string (dec n.toNat)) ∧ w = w' := by
  obtain ⟨k, rfl⟩ := Int.eq_ofNat_of_zero_le h0
  rw [Int.toNat_natCast]
  by_cases h : k < 10
  · go_enter Tryz.func94, Tryz.ntmps94
    go_wp2
    go_ret
    refine ⟨congrArg (fun s => Ending.returned (Value.string s)) ?_, rfl⟩
    refine (?_ : ∀ j, j < 10 → ByteArray.extract _ j (j + 1) = dec j) k h
    decide +kernel
  · go_enter Tryz.func94, Tryz.ntmps94
    go_wp2
    go_ret
    refine ⟨congrArg (fun s => Ending.returned (Value.string s)) ?_, rfl⟩
    refine (?_ : ∀ j, j < 100 → ¬ j < 10 → ByteArray.extract _ (j * 2) (j * 2 + 2) = dec j) k (by omega) h
    decide +kernel
theorem FormatInt_c (n : Int) (w : World) (h0 : 0 ≤ n) (h1 : n < 100) :
    Calls Tryz.prog 83 #[.int .i64 n, .int .i64 10] w fun e w' => e = .returned (.string (dec n.toNat)) ∧ w = w' := by
  have H := Lib.hid fun w => small_c n w h0 h1
  generalize dec n.toNat = s at *
  go_enter Tryz.func83, Tryz.ntmps83
  go_wp2_with (go_at_call 94; refine (H.out _).mono ?_; rintro e w' ⟨rfl, rfl⟩)
  go_ret
  exact ⟨rfl, rfl⟩
theorem Itoa_i (n : Int) (w : World) (h0 : 0 ≤ n) (h1 : n < 100) :
    Calls Tryz.prog 77 #[.int .i64 n] w fun e w' => e = .returned (.string (dec n.toNat)) ∧ w = w' := by
  have H := Lib.hid fun w => FormatInt_c n w h0 h1
  generalize dec n.toNat = s at *
  go_enter Tryz.func77, Tryz.ntmps77
  go_wp2_with (go_at_call 83; refine (H.out _).mono ?_; rintro e w' ⟨rfl, rfl⟩)
  go_ret
  exact ⟨rfl, rfl⟩
theorem Itoa_c (n : Int) (w : World) (h0 : 0 ≤ n) (h1 : n < 100) :
    Calls Tryz.prog 55 #[.int .i64 n] w fun e w' => e = .returned (.string (dec n.toNat)) ∧ w = w' := by
  have H := Lib.hid fun w => Itoa_i n w h0 h1
  generalize dec n.toNat = s at *
  go_enter Tryz.func55, Tryz.ntmps55
  go_wp2_with (go_at_call 77; refine (H.out _).mono ?_; rintro e w' ⟨rfl, rfl⟩)
  go_ret
  exact ⟨rfl, rfl⟩
end Go.Proofs.YtpcefaccoifejaaGreatDoor
