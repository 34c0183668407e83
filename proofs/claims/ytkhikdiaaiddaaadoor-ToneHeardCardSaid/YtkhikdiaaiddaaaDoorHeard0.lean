/-
  The walk of custoslaw05.ToneHeard where no note is given. Condition: the key is an int8.
-/
import Derived.Test.YtkhikdiaaiddaaaDoorHeard
namespace Go.Proofs.YtkhikdiaaiddaaaDoor
open Go.RowKit Go.Maps
set_option linter.unusedSimpArgs false
set_option linter.unusedVariables false

set_option maxRecDepth 100000 in
set_option maxHeartbeats 8000000 in
theorem Heard_nil (kk : Int) (w : World) (h1 : -128 ≤ kk) (h2 : kk ≤ 127) :
    Calls Tryd.prog 3 #[.int .i8 kk, .slice none 0 0] w fun e w' => e = .returned (.bool true) ∧ Below w.heap.size w w' := by
  obtain ⟨hk1, hk2⟩ := tmod5 kk
  obtain ⟨key, hkey⟩ : ∃ key, kk.tmod 5 = key := ⟨_, rfl⟩
  rw [hkey] at hk1 hk2
  have HN := Lib.hid fun w => New_yes key w hk1 hk2
  go_enter Tryd.func3, Tryd.ntmps3
  go_wp2_with fail
  refine (HN.out _).mono ?_
  rintro e wa ⟨rfl, hsa, hba⟩
  go_wp2_with fail
  refine (HN.out _).mono ?_
  rintro e wb ⟨rfl, hsb, hbb⟩
  have hB0 : Below w.heap.size w wb := hba.trans (hbb.mono hba.size)
  clear hsa hsb
  go_wp2_with fail
  go_loopw [52] (fun i wr => i = .int .i64 0 ∧ wr = wb) (fun i _ => 0)
  case atStart => exact ⟨rfl, rfl⟩
  case round =>
    obtain ⟨rfl, rfl⟩ := hrel
    go_wp2_with fail
    refine (awake_c _).mono ?_
    rintro e w8 ⟨rfl, hb8⟩
    go_wp2_with fail
    go_ret
    exact ⟨rfl, hB0.trans (hb8.mono hB0.size)⟩
set_option maxRecDepth 100000 in
set_option maxHeartbeats 8000000 in
theorem Heard_empty (kk : Int) (a : Addr) (cap : Nat) (w : World) (h1 : -128 ≤ kk) (h2 : kk ≤ 127) :
    Calls Tryd.prog 3 #[.int .i8 kk, .slice (some a) 0 cap] w fun e w' => e = .returned (.bool true) ∧ Below w.heap.size w w' := by
  obtain ⟨hk1, hk2⟩ := tmod5 kk
  obtain ⟨key, hkey⟩ : ∃ key, kk.tmod 5 = key := ⟨_, rfl⟩
  rw [hkey] at hk1 hk2
  have HN := Lib.hid fun w => New_yes key w hk1 hk2
  go_enter Tryd.func3, Tryd.ntmps3
  go_wp2_with fail
  refine (HN.out _).mono ?_
  rintro e wa ⟨rfl, hsa, hba⟩
  go_wp2_with fail
  refine (HN.out _).mono ?_
  rintro e wb ⟨rfl, hsb, hbb⟩
  have hB0 : Below w.heap.size w wb := hba.trans (hbb.mono hba.size)
  clear hsa hsb
  go_wp2_with fail
  go_loopw [52] (fun i wr => i = .int .i64 0 ∧ wr = wb) (fun i _ => 0)
  case atStart => exact ⟨rfl, rfl⟩
  case round =>
    obtain ⟨rfl, rfl⟩ := hrel
    go_wp2_with fail
    refine (awake_c _).mono ?_
    rintro e w8 ⟨rfl, hb8⟩
    go_wp2_with fail
    go_ret
    exact ⟨rfl, hB0.trans (hb8.mono hB0.size)⟩
end Go.Proofs.YtkhikdiaaiddaaaDoor
