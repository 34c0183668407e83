/-
  The contract of State.Copy of package tone. Conditions: the object is a state, its map has room.
-/
import Derived.Test.YthfclapnkemjiaaGreatDoorHear
import Derived.Test.YthfclapnkemjiaaGreatDoorLine
import Derived.Maps.RangeWalk
import Derived.Maps.Ext
namespace Go.Proofs.YthfclapnkemjiaaGreatDoor
open Go.RowKit Go.Maps
set_option linter.unusedSimpArgs false
set_option linter.unusedVariables false

theorem lawInt : Keyed Tryz.prog 3 := int_keyed Tryz.underlying3
/-- a new state that holds what the old one does -/
def Copied (w : World) (n : Nat) (key : Int) (g : Int → Option Int) (e : Ending) (w' : World) : Prop :=
  ∃ sb bm, e = .returned (.pointer (some ⟨sb, 0, none⟩)) ∧ w.heap.size ≤ bm ∧ w.heap.size ≤ sb ∧ St w' sb bm n key g ∧ Below w.heap.size w w'
set_option maxRecDepth 100000 in
set_option maxHeartbeats 2000000 in
theorem Copy_c (sb bm n : Nat) (key : Int) (g : Int → Option Int) (w : World) (h : St w sb bm n key g) (h1 : -4 ≤ key) (h2 : key ≤ 4) (hn : n ≤ 1000) :
    Calls Tryz.prog 46 #[.pointer (some ⟨sb, 0, none⟩)] w (Copied w n key g) := by
  have H := Lib.hid (none_no sb bm n key g w h)
  have HN := Lib.hid fun w => New_yes key w h1 h2
  have HS := Lib.hid h
  have c0 := h.c0
  have c1 := h.c1
  obtain ⟨D0, hown, hr⟩ := h.map
  have HR := Lib.hid hr
  have hlt := h.lt
  clear h hr
  go_enter Tryz.func46, Tryz.ntmps46
  go_wp2_with fail
  refine H.out.mono ?_
  rintro e w' ⟨rfl, rfl⟩
  go_wp2_with fail
  refine (HN.out _).mono ?_
  rintro e w1 ⟨rfl, hS1, hb1⟩
  have hown1 := hown.kept (grown_of_below hb1 none) (by simp)
  have d1 := (HS.out.below hb1).c1
  have HS1 := Lib.hid hS1
  have hbm := hown.lt
  have hz1 := hb1.size
  clear c0 c1 hS1
  go_wp2_with (at_range; refine wpList_range_own _ rfl _ 102 rfl 3 3 lawInt Tryz.underlying102 _ bm n _ rfl hown1 ?_; intro w0 hrg0 hg0 hs0)
  go_frame
  have hSz := HS1.out.lt
  have hM1 := HS1.out.map
  have hle := hown.size_le
  go_loopw [5] (fun _ wr => ∃ (left : Lit → Bool) (cnt : Nat) (Dout : DataW Unit), wr.ranges Tryz.prog 3 (plainElem Tryz.prog 3) bm w1.heap.size n D0 left cnt ∧ cnt ≤ Maps.size D0 ∧
      wr.ownsMap Tryz.prog 3 (plainElem Tryz.prog 3) w.heap.size (Maps.size D0 - cnt) Dout ∧ Agree Dout D0 left ∧ wr.heap[w.heap.size + 1]? = some (.cells #[.int .i64 key, .map (some w.heap.size)] 104 (0, 0)) ∧ Below w.heap.size w wr)
    (fun _ wr => wr.rangeLeft bm w1.heap.size)
  case atStart =>
    refine ⟨_, _, .map [], hrg0, Nat.le_refl _, ?_, agree_start D0, (hg0.block _ hSz (by simp)).trans HS1.out.cells, hb1.grown hg0 hb1.size (fun j hj => by cases hj)⟩
    obtain ⟨DM, hDM, hrM⟩ := hM1
    have hz0 : DM = .map [] := by
      obtain ⟨es, clock, hb, F, hs, hD⟩ := hDM
      have : es = #[] := Array.eq_empty_of_size_eq_zero (by omega)
      subst this
      exact hD
    rw [← hz0]
    exact (hDM.kept hg0 (by simp)).mono (Nat.zero_le _)
  case round =>
    obtain ⟨left, cnt, Dout, hrg, hcs, hout, hA, hcell, hnx⟩ := hrel
    go_wp2_with (at_next; refine wpList_next_ranges_ii _ rfl _ rfl 3 3 .i64 .i64 lawInt Tryz.underlying3 Tryz.underlying3 bm w1.heap.size n _ _ _ rfl hrg ?_ ?_)
    · intro hc0 hl0
      go_wp2
      go_ret
      subst hc0
      have e := agree_end hA hl0 (hout.canon lawInt) (hown.canon lawInt)
      subst e
      exact ⟨w.heap.size + 1, w.heap.size, rfl, Nat.le_refl _, by omega, ⟨hcell, ⟨_, hout.mono (by omega), HR.out⟩⟩, hnx⟩
    · intro x c w2 cnt1 hwx hwc hlx hat hrg1 hlt1 hg1 hs1 hen
      have hout1 := hout.kept hg1 (by simp; omega)
      have hlt2 : w.heap.size + 1 < wr.heap.size := (Array.getElem?_eq_some_iff.1 hcell).1
      have hcell1 := (hg1.block _ hlt2 (by simp; omega)).trans hcell
      have hc1 : w2.cell? ⟨w.heap.size + 1, 1, none⟩ = some (.map (some w.heap.size)) := by rw [cell_of_row w2 _ _ _ _ _ hcell1]; rfl
      have HC1 := Lib.hid hcell1
      have HE := Lib.hid hcell
      clear hcell1 hcell d1
      go_wp2_with (at_mapUpdate; refine wpList_mapUpdate_own _ rfl _ _ _ 102 rfl 3 3 lawInt Tryz.underlying102 _ w.heap.size _ _ rfl hout1 (by unfold maxLen; omega) _ _ _ rfl rfl (keyOf_int_mk Tryz.underlying3 hwx) _ [] (plainElem_int Tryz.underlying3 hwc) ?_; intro w3 hout2 hg2; go_frame)
      have hrg2 := hrg1.kept hg2 (fun e => by have := Option.some.inj e; omega) (fun e => by have := Option.some.inj e; omega)
      go_roundw
      case rel =>
        exact ⟨_, cnt1, _, hrg2, by omega, hout2.mono (by omega), agree_step hA hout.isMap trivial hat, (hg2.block _ (by omega) (by simp)).trans HC1.out,
          (hnx.grown hg1 hnx.size (fun j hj => by cases hj; omega)).grown hg2 (by have := hnx.size; omega) (fun j hj => by cases hj; exact Nat.le_refl _)⟩
      case measure => rw [hrg2.left_eq, hrg.left_eq]; exact hlt1
end Go.Proofs.YthfclapnkemjiaaGreatDoor
