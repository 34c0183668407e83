/-
  The walk of custoslaw05.TonePitches. Condition: the text is no longer than any text can be.
-/
import Derived.Test.YtkhikdiaaiddaaaDoorParse3
import Derived.Test.YtkhikdiaaiddaaaDoorRName2
import Derived.Test.YtkhikdiaaiddaaaDoorLine
import Derived.Test.YtkhikdiaaiddaaaDoorAwake
namespace Go.Proofs.YtkhikdiaaiddaaaDoor
open Go.RowKit
set_option linter.unusedSimpArgs false
set_option linter.unusedVariables false

set_option maxRecDepth 100000 in
set_option maxHeartbeats 8000000 in
theorem Pitches_walk (a b : Int) (s : ByteArray) (w : World) (hsz : s.size ≤ maxLen) :
    Calls Tryd.prog 7 #[.agg #[.int .i64 a, .int .i64 b], .string s] w fun e w' => e = .returned (.bool true) ∧ Below w.heap.size w w' := by
  obtain ⟨x1, x2, H1, H2⟩ := Semitone_both a b
  have H3 := fun w => Name_c a b w
  have H4 := fun w => rName_c a b w
  obtain ⟨y1, y2, y3, H5, H6⟩ := Parse_both s hsz
  generalize nameV a b = n at *
  generalize nameE a b = m at *
  have J1 := Lib.hid H1
  have J2 := Lib.hid H2
  have J3 := Lib.hid H3
  have J4 := Lib.hid H4
  have J5 := Lib.hid H5
  have J6 := Lib.hid H6
  clear H1 H2 H3 H4 H5 H6
  have HB := Below.refl w.heap.size w
  go_enter Tryd.func7, Tryd.ntmps7
  go_wp2_with fail
  refine calls_named fun W0 hW0 => ?_
  have Pp := Pair.made hW0
  replace HB := below_step HB (below_named hW0)
  clear hW0
  refine (J1.out _).mono ?_
  rintro e u1 ⟨rfl, hb1⟩
  replace Pp := Pp.next hb1
  replace HB := below_step HB hb1
  clear hb1
  obtain ⟨Pp0, Pp1, Pp2, -, -⟩ := id Pp
  go_wp2_with fail
  refine (J2.out _).mono ?_
  rintro e u2 ⟨rfl, hb2⟩
  clear Pp0 Pp1 Pp2
  replace Pp := Pp.next hb2
  replace HB := below_step HB hb2
  clear hb2
  obtain ⟨Pp0, Pp1, Pp2, -, -⟩ := id Pp
  go_wp2_with fail
  refine (J3.out _).mono ?_
  rintro e u3 ⟨rfl, hb3⟩
  clear Pp0 Pp1 Pp2
  replace Pp := Pp.next hb3
  replace HB := below_step HB hb3
  clear hb3
  obtain ⟨Pp0, Pp1, Pp2, -, -⟩ := id Pp
  go_wp2_with fail
  refine (J4.out _).mono ?_
  rintro e u4 ⟨rfl, hb4⟩
  clear Pp0 Pp1 Pp2
  replace Pp := Pp.next hb4
  replace HB := below_step HB hb4
  clear hb4
  go_wp2_with fail
  refine (J5.out _).mono ?_
  rintro e u5 ⟨rfl, hb5⟩
  replace Pp := Pp.next hb5
  replace HB := below_step HB hb5
  clear hb5
  go_wp2_with fail
  refine calls_named fun W5 hW5 => ?_
  replace Pp := Pp.next (below_named hW5)
  have Pq := Pair.made hW5
  replace HB := below_step HB (below_named hW5)
  clear hW5
  refine (J6.out _).mono ?_
  rintro e u6 ⟨rfl, hb6⟩
  replace Pp := Pp.next hb6
  replace Pq := Pq.next hb6
  replace HB := below_step HB hb6
  clear hb6
  obtain ⟨Pq0, Pq1, Pq2, -, -⟩ := id Pq
  go_wp2_with fail
  refine (awake_c _).mono ?_
  rintro e z ⟨rfl, hbz⟩
  go_wp2_with fail
  go_ret
  exact ⟨rfl, below_step (below_step HB ((Below.refl _ _).alloc (Nat.le_refl _) _)) hbz⟩
end Go.Proofs.YtkhikdiaaiddaaaDoor
