/-
  What the methods of a session give where there is none: a nil pointer, or the zero value. Conditions: as NoS says.
-/
import Derived.Test.YtpcefaccoifejaaGreatDoorK18
import Derived.Test.YtpcefaccoifejaaGreatDoorKC
namespace Go.Proofs.YtpcefaccoifejaaGreatDoor
open Go.RowKit Go.Maps
set_option linter.unusedSimpArgs false
set_option linter.unusedVariables false
set_option maxRecDepth 100000

/-- no session: a nil pointer, or one to a zero value -/
def NoS (w : World) (v : Value) : Prop := v = .pointer none ∨ ∃ p, v = .pointer (some ⟨p, 0, none⟩) ∧ w.heap[p]? = some (.cells #[.slice none 0 0, .slice none 0 0, .map none] 77 (0, 0))
theorem NoS.below {w w' : World} {v : Value} (h : NoS w v) (hb : Below w.heap.size w w') : NoS w' v := by
  rcases h with h | ⟨p, h, hp⟩
  · exact .inl h
  · exact .inr ⟨p, h, (hb.block p (Array.getElem?_eq_some_iff.1 hp).1).trans hp⟩
theorem noneN_c (v : Value) (w : World) (h : NoS w v) : Calls Tryz.prog 40 #[v] w fun e w' => e = .returned (.bool true) ∧ w = w' := by
  rcases h with rfl | ⟨p, rfl, hp⟩
  · go_enter Tryz.func40, Tryz.ntmps40
    go_wp2
    go_ret
    exact ⟨rfl, rfl⟩
  · have c2 : w.cell? ⟨p, 2, none⟩ = some (.map none) := by rw [cell_of_row _ _ _ _ _ _ hp]; rfl
    have hm := run_eql_map_nil (P := Tryz.prog) w _ _ _ none Tryz.underlying75
    clear hp
    go_enter Tryz.func40, Tryz.ntmps40
    go_wp2
    go_ret
    exact ⟨rfl, rfl⟩
theorem LogN_c (v : Value) (w : World) (h : NoS w v) : Calls Tryz.prog 20 #[v] w fun e w' => e = .returned (.tuple #[.slice none 0 0, .int .i64 7]) ∧ Below w.heap.size w w' := by
  have H := Lib.hid (noneN_c v w h)
  clear h
  go_enter Tryz.func20, Tryz.ntmps20
  go_wp2_with fail
  refine H.out.mono ?_
  rintro e w2 ⟨rfl, rfl⟩
  go_wp2
  go_ret2
  exact ⟨rfl, by go_grown⟩
theorem ValueN_c (v : Value) (a b c d e : Int) (w : World) (h : NoS w v) : Calls Tryz.prog 22 #[v, .agg #[.int .i64 a, .int .i64 b, .int .i64 c, .int .i64 d, .int .i64 e]] w fun e w' => e = .returned (.tuple #[.int .i64 0, .int .i64 7]) ∧ Below w.heap.size w w' := by
  have H := Lib.hid fun W (hb : Below w.heap.size w W) => noneN_c v W (h.below hb)
  clear h
  go_enter Tryz.func22, Tryz.ntmps22
  go_wp2_with fail
  refine (H.out _ (by go_grown)).mono ?_
  rintro e w2 ⟨rfl, rfl⟩
  go_wp2
  go_ret2
  exact ⟨rfl, by go_grown⟩
theorem ReplayN_c (v : Value) (u : Value) (w : World) (h : NoS w v) : Calls Tryz.prog 24 #[v, u] w fun e w' => e = .returned (.tuple #[.pointer none, .slice none 0 0, .int .i64 7]) ∧ Below w.heap.size w w' := by
  have H := Lib.hid fun W (hb : Below w.heap.size w W) => noneN_c v W (h.below hb)
  clear h
  go_enter Tryz.func24, Tryz.ntmps24
  go_wp2_with fail
  refine (H.out _ (by go_grown)).mono ?_
  rintro e w2 ⟨rfl, rfl⟩
  go_wp2
  go_ret3
  exact ⟨rfl, by go_grown⟩
theorem MergeN_c (v : Value) (u : Value) (w : World) (h : NoS w v) : Calls Tryz.prog 21 #[v, u] w fun e w' => e = .returned (.tuple #[.pointer none, .slice none 0 0, .int .i64 7]) ∧ Below w.heap.size w w' := by
  have H := Lib.hid fun W (hb : Below w.heap.size w W) => noneN_c v W (h.below hb)
  clear h
  go_enter Tryz.func21, Tryz.ntmps21
  go_wp2_with fail
  refine (H.out _ (by go_grown)).mono ?_
  rintro e w2 ⟨rfl, rfl⟩
  go_wp2
  go_ret3
  exact ⟨rfl, by go_grown⟩
set_option maxHeartbeats 4000000 in
theorem MergeN2_c (lo p m flo fhi : Nat) (va vf : Value) (fs : List Ft) (acts : List Ac) (v : Value) (w : World) (hs : SesAt w lo p m flo fhi va vf fs acts) (h : NoS w v) : Calls Tryz.prog 21 #[.pointer (some ⟨p, 0, none⟩), v] w fun e w' => e = .returned (.tuple #[.pointer none, .slice none 0 0, .int .i64 7]) ∧ Below w.heap.size w w' := by
  have H := Lib.hid fun W (hb : Below w.heap.size w W) => noneN_c v W (h.below hb)
  have HN := Lib.hid fun W (hb : Below w.heap.size w W) => none_c lo p m flo fhi va vf fs acts W (hs.below hb)
  clear h hs
  go_enter Tryz.func21, Tryz.ntmps21
  go_wp2_with fail
  refine (HN.out _ (by go_grown)).mono ?_
  rintro e w2 ⟨rfl, rfl⟩
  go_wp2_with fail
  refine (H.out _ (by go_grown)).mono ?_
  rintro e w2 ⟨rfl, rfl⟩
  go_wp2
  go_ret3
  exact ⟨rfl, by go_grown⟩
theorem CopyN_c (v : Value) (w : World) (h : NoS w v) : Calls Tryz.prog 25 #[v] w fun e w' => e = .returned (.pointer none) ∧ Below w.heap.size w w' := by
  have H := Lib.hid fun W (hb : Below w.heap.size w W) => noneN_c v W (h.below hb)
  clear h
  go_enter Tryz.func25, Tryz.ntmps25
  go_wp2_with fail
  refine (H.out _ (by go_grown)).mono ?_
  rintro e w2 ⟨rfl, rfl⟩
  go_wp2
  go_ret
  exact ⟨rfl, by go_grown⟩
theorem UndoN_c (v : Value) (w : World) (h : NoS w v) : Calls Tryz.prog 26 #[v] w fun e w' => e = .returned (.int .i64 7) ∧ Below w.heap.size w w' := by
  have H := Lib.hid fun W (hb : Below w.heap.size w W) => noneN_c v W (h.below hb)
  clear h
  go_enter Tryz.func26, Tryz.ntmps26
  go_wp2_with fail
  refine (H.out _ (by go_grown)).mono ?_
  rintro e w2 ⟨rfl, rfl⟩
  go_wp2
  go_ret
  exact ⟨rfl, by go_grown⟩
theorem DoN_c (v : Value) (k a b c d e x : Int) (w : World) (h : NoS w v) : Calls Tryz.prog 15 #[v, .agg #[.int .i64 k, .int .i64 a, .int .i64 b, .int .i64 c, .int .i64 d, .int .i64 e, .int .i64 x]] w fun e w' => e = .returned (.int .i64 7) ∧ Below w.heap.size w w' := by
  have H := Lib.hid fun W (hb : Below w.heap.size w W) => noneN_c v W (h.below hb)
  clear h
  go_enter Tryz.func15, Tryz.ntmps15
  go_wp2_with fail
  refine (H.out _ (by go_grown)).mono ?_
  rintro e w2 ⟨rfl, rfl⟩
  go_wp2
  go_ret
  exact ⟨rfl, by go_grown⟩
end Go.Proofs.YtpcefaccoifejaaGreatDoor
