/-
  Contracts of tone.New and of the methods Reset, At, Print, Hear of State. Conditions: integers are of their type; the map has room.
-/
import Derived.Test.YthfclapnkemjiaaGreatDoorIntMap
namespace Go.Proofs.YthfclapnkemjiaaGreatDoor
open Go.RowKit Go.Maps

theorem none_no (sb bm n : Nat) (key : Int) (g : Int → Option Int) (w : World) (h : St w sb bm n key g) :
    Calls Tryz.prog 81 #[.pointer (some ⟨sb, 0, none⟩)] w fun e w' => e = .returned (.bool false) ∧ w = w' := by
  have c1 := h.c1
  have hm := run_eql_map_nil (P := Tryz.prog) w _ _ _ (some bm) Tryz.underlying102
  clear h
  go_enter Tryz.func81, Tryz.ntmps81
  go_wp2
  go_ret
  exact ⟨rfl, rfl⟩

theorem New_no (key : Int) (w : World) (h : key < -4 ∨ 4 < key) :
    Calls Tryz.prog 37 #[.int .i64 key] w fun e w' => e = .returned (.tuple #[.pointer none, .int .i64 31]) ∧ w = w' := by
  have H := Lib.hid (isKey_no key w h)
  clear h
  go_enter Tryz.func37, Tryz.ntmps37
  go_wp2_with (go_at_call 76; refine H.out.mono ?_; rintro e w' ⟨rfl, rfl⟩)
  go_ret2
  exact ⟨rfl, rfl⟩
def Made (w : World) (key : Int) (e : Ending) (w' : World) : Prop :=
  e = .returned (.tuple #[.pointer (some ⟨w.heap.size + 1, 0, none⟩), .int .i64 0]) ∧ St w' (w.heap.size + 1) w.heap.size 0 key (fun _ => none) ∧ Below w.heap.size w w'
theorem New_yes (key : Int) (w : World) (h1 : -4 ≤ key) (h2 : key ≤ 4) :
    Calls Tryz.prog 37 #[.int .i64 key] w (Made w key) := by
  have H := Lib.hid (isKey_yes key w h1 h2)
  have hmm := @run_makeMap Tryz.prog
  go_enter Tryz.func37, Tryz.ntmps37
  go_wp2_with (go_at_call 76; refine H.out.mono ?_; rintro e w' ⟨rfl, rfl⟩)
  go_ret2
  refine ⟨rfl, ⟨?_, ?_⟩, by go_grown⟩
  · have e := (MapKept.heap_alloc (w.alloc (.map #[] 0)) (.cells #[.int .i64 key, .map (some w.heap.size)] 104)).1
    rwa [World.size_alloc] at e
  · exact (IntMap.made w).below (by go_grown)

theorem Reset_c (sb bm n : Nat) (key : Int) (g : Int → Option Int) (w : World) (h : St w sb bm n key g) :
    Calls Tryz.prog 44 #[.pointer (some ⟨sb, 0, none⟩)] w fun e w' => e = .returned (.int .i64 0) ∧ St w' sb bm 0 key (fun _ => none) ∧ w.grownBy w' (some bm) := by
  have H := Lib.hid (none_no sb bm n key g w h)
  have c1 := h.c1
  obtain ⟨w1, hcl, hm1, hg1⟩ := h.map.cleared
  have HS := Lib.hid h
  clear h
  go_enter Tryz.func44, Tryz.ntmps44
  go_wp2_with (go_at_call 81; refine H.out.mono ?_; rintro e w' ⟨rfl, rfl⟩)
  go_ret
  exact ⟨rfl, ⟨(hg1.block sb HS.out.lt (by have := HS.out.ne; simpa using this)).trans HS.out.cells, hm1⟩, hg1⟩

theorem At_step (sb bm n : Nat) (key step : Int) (g : Int → Option Int) (w : World) (h : St w sb bm n key g) (hs : step < 0 ∨ 70 ≤ step) :
    Calls Tryz.prog 47 #[.pointer (some ⟨sb, 0, none⟩), .int .i64 step] w fun e w' => e = .returned (.tuple #[.int .i64 0, .int .i64 34]) ∧ w = w' := by
  have H := Lib.hid (none_no sb bm n key g w h)
  clear h
  rcases hs with hs | hs
  · go_enter Tryz.func47, Tryz.ntmps47
    go_wp2_with (go_at_call 81; refine H.out.mono ?_; rintro e w' ⟨rfl, rfl⟩)
    go_ret2
    exact ⟨rfl, rfl⟩
  · have h' : 0 ≤ step := by omega
    go_enter Tryz.func47, Tryz.ntmps47
    go_wp2_with (go_at_call 81; refine H.out.mono ?_; rintro e w' ⟨rfl, rfl⟩)
    go_ret2
    exact ⟨rfl, rfl⟩
set_option maxRecDepth 100000 in
theorem At_c (sb bm n : Nat) (key step : Int) (g : Int → Option Int) (w : World) (h : St w sb bm n key g) (h1 : -4 ≤ key) (h2 : key ≤ 4) (h3 : 0 ≤ step) (h4 : step < 70) :
    Calls Tryz.prog 47 #[.pointer (some ⟨sb, 0, none⟩), .int .i64 step] w fun e w' => e = .returned (.tuple #[.int .i64 (cur key g step), .int .i64 0]) ∧ Below w.heap.size w w' := by
  have H := Lib.hid (none_no sb bm n key g w h)
  have c0 := h.c0
  have c1 := h.c1
  have hl := h.map.look (s := step) (WalkArith.wf_i64 (by omega))
  have HC : Hid (cur key g step = (g step).getD (keyAlt key step)) := rfl
  clear h
  cases hg : g step with
  | none =>
    rw [hg] at hl HC
    clear hg
    go_enter Tryz.func47, Tryz.ntmps47
    go_wp2_with (first | (go_at_call 81; refine H.out.mono ?_; rintro e w' ⟨rfl, rfl⟩) | (go_at_call 82; refine (alter_c key step _ h1 h2 h3 h4).mono ?_; rintro e w1 ⟨rfl, hb1⟩))
    go_ret2
    exact ⟨by rw [HC.out]; rfl, hb1⟩
  | some v =>
    rw [hg] at hl HC
    clear hg
    go_enter Tryz.func47, Tryz.ntmps47
    go_wp2_with (go_at_call 81; refine H.out.mono ?_; rintro e w' ⟨rfl, rfl⟩)
    go_ret2
    exact ⟨by rw [HC.out]; rfl, Below.refl _ _⟩

/-- the accidental that is printed for an alteration -/
def accOf (a : Int) : Int := ([2, 3, 1] : List Int).getD (a + 1).toNat 0
theorem accOf_cases (a : Int) (h1 : -1 ≤ a) (h2 : a ≤ 1) : (a = -1 ∧ accOf a = 2) ∨ (a = 0 ∧ accOf a = 3) ∨ (a = 1 ∧ accOf a = 1) := by
  rcases (by omega : a = -1 ∨ a = 0 ∨ a = 1) with rfl | rfl | rfl
  · exact .inl ⟨rfl, rfl⟩
  · exact .inr (.inl ⟨rfl, rfl⟩)
  · exact .inr (.inr ⟨rfl, rfl⟩)
theorem means_accOf (a : Int) (h1 : -1 ≤ a) (h2 : a ≤ 1) : means (accOf a) = a := by
  rcases accOf_cases a h1 h2 with ⟨h, e⟩ | ⟨h, e⟩ | ⟨h, e⟩ <;> rw [e, h] <;> rfl

set_option maxRecDepth 100000 in
theorem Print_same (sb bm n : Nat) (key step alter : Int) (g : Int → Option Int) (w : World) (h : St w sb bm n key g) (h1 : -4 ≤ key) (h2 : key ≤ 4) (h3 : 0 ≤ step) (h4 : step < 70) (h5 : -1 ≤ alter) (h6 : alter ≤ 1) (hc : cur key g step = alter) :
    Calls Tryz.prog 40 #[.pointer (some ⟨sb, 0, none⟩), .int .i64 step, .int .i64 alter] w fun e w' => e = .returned (.tuple #[.int .i64 0, .int .i64 0]) ∧ Below w.heap.size w w' := by
  have H := Lib.hid (At_c sb bm n key step g w h h1 h2 h3 h4)
  rw [hc] at H
  clear h hc
  go_enter Tryz.func40, Tryz.ntmps40
  go_wp2_with (go_at_call 47; refine H.out.mono ?_; rintro e w1 ⟨rfl, hb1⟩)
  go_ret2
  exact ⟨rfl, hb1⟩
def Stored (sb bm n : Nat) (key step alter : Int) (g : Int → Option Int) (w : World) (v : Value) (e : Ending) (w' : World) : Prop :=
  e = .returned v ∧ St w' sb bm (n + 1) key (upd g step alter) ∧ w.grownBy w' (some bm)
theorem below_grown {a b c : World} {row : Option Nat} (h : Below a.heap.size a b) (k : b.grownBy c row) : a.grownBy c row :=
  ⟨k.os.trans h.os, k.tape.trans h.tape, k.output.trans h.output, Nat.le_trans h.size k.size, fun i hi hn => (k.block i (Nat.lt_of_lt_of_le hi h.size) hn).trans (h.block i hi)⟩
theorem grown_below {a b c : World} {row : Option Nat} (h : a.grownBy b row) (k : Below b.heap.size b c) : a.grownBy c row :=
  ⟨k.os.trans h.os, k.tape.trans h.tape, k.output.trans h.output, Nat.le_trans h.size k.size, fun i hi hn => (k.block i (Nat.lt_of_lt_of_le hi h.size)).trans (h.block i hi hn)⟩
theorem grown_grown {a b c : World} {row : Option Nat} (h : a.grownBy b row) (k : b.grownBy c row) : a.grownBy c row :=
  ⟨k.os.trans h.os, k.tape.trans h.tape, k.output.trans h.output, Nat.le_trans h.size k.size, fun i hi hn => (k.block i (Nat.lt_of_lt_of_le hi h.size) hn).trans (h.block i hi hn)⟩
theorem St.stored {sb bm n m : Nat} {key : Int} {g f : Int → Option Int} {w w' : World} (h : St w sb bm n key g) (hm : IntMap w' bm m f) (hg : w.grownBy w' (some bm)) : St w' sb bm m key f :=
  ⟨(hg.block sb h.lt (by have := h.ne; simpa using this)).trans h.cells, hm⟩
set_option maxRecDepth 100000 in
theorem Print_new (sb bm n : Nat) (key step alter : Int) (g : Int → Option Int) (w : World) (h : St w sb bm n key g) (h1 : -4 ≤ key) (h2 : key ≤ 4) (h3 : 0 ≤ step) (h4 : step < 70) (h5 : -1 ≤ alter) (h6 : alter ≤ 1) (hn : n < maxLen) (hc : cur key g step ≠ alter) :
    Calls Tryz.prog 40 #[.pointer (some ⟨sb, 0, none⟩), .int .i64 step, .int .i64 alter] w (Stored sb bm n key step alter g w (.tuple #[.int .i64 (accOf alter), .int .i64 0])) := by
  have H := Lib.hid (At_c sb bm n key step g w h h1 h2 h3 h4)
  have HS := Lib.hid h
  have HN := Lib.hid hn
  have hi := idx3 2 3 1 (alter + 1).toNat (by omega)
  have e : (((alter + 1).toNat : Nat) : Int) = alter + 1 := by omega
  rw [e] at hi
  have ha : ([2, 3, 1] : List Int).getD (alter + 1).toNat 0 = accOf alter := rfl
  rw [ha] at hi
  have hlt : cur key g step < alter ∨ alter < cur key g step := by omega
  generalize cur key g step = c at *
  clear h hc e ha hn
  rcases hlt with hlt | hlt
  all_goals
    go_enter Tryz.func40, Tryz.ntmps40
    go_wp2_with (go_at_call 47; refine H.out.mono ?_; rintro e w1 ⟨rfl, hb1⟩; have c1 := (HS.out.below hb1).c1; obtain ⟨w2, hrun, hm2, hg2⟩ := (HS.out.below hb1).map.store (s := step) (v := alter) (WalkArith.wf_i64 (by omega)) (WalkArith.wf_i64 (by omega)) HN.out)
    go_ret2
    exact ⟨rfl, (HS.out.below hb1).stored hm2 hg2, below_grown hb1 hg2⟩
end Go.Proofs.YthfclapnkemjiaaGreatDoor
