/-
  The object State of the reference: a block of seventy-one integers; contracts of its methods and of New. Conditions: integers are of their type.
-/
import Derived.Test.YthfclapnkemjiaaGreatDoorRef4
import Derived.Test.YthfclapnkemjiaaGreatDoorSound
import Derived.Test.YthfclapnkemjiaaGreatDoorState
import Derived.Laws.Tables
namespace Go.Proofs.YthfclapnkemjiaaGreatDoor
open Go.RowKit
set_option linter.unusedSimpArgs false
set_option linter.unusedVariables false

def rowOf (key : Int) (f : Nat → Int) : Array Value := (Value.int .i64 key :: (List.range 70).map fun i => Value.int .i64 (f i)).toArray
/-- block b is a state of the reference -/
def RSt (w : World) (b : Nat) (key : Int) (f : Nat → Int) : Prop := w.heap[b]? = some (.cells (rowOf key f) 63 (0, 0))
theorem rowOf_size (key : Int) (f : Nat → Int) : (rowOf key f).size = 71 := by simp [rowOf]
theorem rowOf_at (key : Int) (f : Nat → Int) {i : Nat} (h : i < 70) : (rowOf key f)[1 + i]? = some (.int .i64 (f i)) := by
  unfold rowOf
  rw [Nat.add_comm, List.getElem?_toArray, List.getElem?_cons_succ, List.getElem?_map, List.getElem?_range h]
  rfl
def updN (f : Nat → Int) (i : Nat) (v : Int) : Nat → Int := fun j => if j = i then v else f j
theorem rowOf_set (key : Int) (f : Nat → Int) {i : Nat} (v : Int) (h : i < 70) : (rowOf key f).setIfInBounds (1 + i) (.int .i64 v) = rowOf key (updN f i v) := by
  apply Array.ext_getElem?
  intro j
  rw [Array.getElem?_setIfInBounds, rowOf_size]
  rcases Nat.eq_zero_or_pos j with rfl | hj
  · rw [if_neg (by omega)]; rfl
  · obtain ⟨k, rfl⟩ : ∃ k, j = 1 + k := ⟨j - 1, by omega⟩
    by_cases hk : k < 70
    · rw [rowOf_at key (updN f i v) hk, rowOf_at key f hk]
      unfold updN
      by_cases e : k = i
      · subst e; rw [if_pos rfl, if_pos rfl, if_pos (by omega)]
      · rw [if_neg (by omega), if_neg e]
    · have hz : ∀ g, (rowOf key g)[1 + k]? = none := fun g => Array.getElem?_eq_none (by rw [rowOf_size]; omega)
      rw [hz, hz, if_neg (by omega)]
section
variable {w w' : World} {b : Nat} {key : Int} {f : Nat → Int}
theorem RSt.lt (h : RSt w b key f) : b < w.heap.size := (Array.getElem?_eq_some_iff.1 h).1
theorem RSt.c0 (h : RSt w b key f) : w.cell? ⟨b, 0, none⟩ = some (.int .i64 key) := by
  rw [cell_of_row w b 0 _ _ _ h]; rfl
theorem RSt.at (h : RSt w b key f) {i : Nat} (hi : i < 70) : w.cell? ⟨b, 1 + i, none⟩ = some (.int .i64 (f i)) := by
  rw [cell_of_row w b _ _ _ _ h, rowOf_at key f hi]
theorem RSt.free (h : RSt w b key f) (i : Nat) : w.frozen? ⟨b, i, none⟩ = false := by
  have h' : w.heap[b]? = some (.cells (rowOf key f) 63 (0, 0)) := h
  simp [World.frozen?, h']
theorem RSt.set (h : RSt w b key f) {i : Nat} (hi : i < 70) (v : Int) : RSt (w.setCell ⟨b, 1 + i, none⟩ (.int .i64 v)) b key (updN f i v) := by
  rw [setCell_eq_setRow w b (1 + i) _ _ _ _ h, rowOf_set key f v hi]
  exact setRow_heap w b _ _ _ _ h
theorem RSt.kept (h : RSt w b key f) {row : Option Nat} (hg : w.grownBy w' row) (hne : some b ≠ row) : RSt w' b key f := (hg.block b h.lt hne).trans h
theorem RSt.below (h : RSt w b key f) (hb : Below w.heap.size w w') : RSt w' b key f := h.kept (grown_of_below hb none) (by simp)
end
theorem grown_set (w : World) (a : Addr) (v : Value) : w.grownBy (w.setCell a v) (some a.block) :=
  ⟨rfl, rfl, rfl, by simp [World.setCell], fun i hi hn => Below.heap_setCell w a v i (fun e => hn (by rw [e]))⟩

theorem rAt_no (b : Nat) (step : Int) (w : World) (h : step < 0 ∨ 70 ≤ step) :
    Calls Tryz.prog 48 #[.pointer (some ⟨b, 0, none⟩), .int .i64 step] w fun e w' => e = .returned (.tuple #[.int .i64 0, .int .i64 34]) ∧ w = w' := by
  rcases h with h | h
  · go_enter Tryz.func48, Tryz.ntmps48
    go_wp2
    go_ret2
    exact ⟨rfl, rfl⟩
  · have h1 : ¬ step < 0 := by omega
    have h2 : 69 < step := by omega
    go_enter Tryz.func48, Tryz.ntmps48
    go_wp2
    go_ret2
    exact ⟨rfl, rfl⟩
theorem rAt_yes (b : Nat) (key : Int) (f : Nat → Int) (k : Nat) (w : World) (h : RSt w b key f) (hk : k < 70) :
    Calls Tryz.prog 48 #[.pointer (some ⟨b, 0, none⟩), .int .i64 (k : Int)] w fun e w' => e = .returned (.tuple #[.int .i64 (f k), .int .i64 0]) ∧ w = w' := by
  have c := h.at hk
  clear h
  go_enter Tryz.func48, Tryz.ntmps48
  go_wp2
  go_ret2
  exact ⟨rfl, rfl⟩

theorem rPrint_bad (b : Nat) (step alter : Int) (w : World) (h : step < 0 ∨ 70 ≤ step ∨ alter < -1 ∨ 1 < alter) :
    Calls Tryz.prog 41 #[.pointer (some ⟨b, 0, none⟩), .int .i64 step, .int .i64 alter] w fun e w' => e = .returned (.tuple #[.int .i64 0, .int .i64 34]) ∧ w = w' := by
  have h' : step < 0 ∨ (¬ step < 0 ∧ 69 < step) ∨ (¬ step < 0 ∧ ¬ 69 < step ∧ alter < -1) ∨ (¬ step < 0 ∧ ¬ 69 < step ∧ ¬ alter < -1 ∧ 1 < alter) := by omega
  clear h
  rcases h' with h | ⟨h, h1⟩ | ⟨h, h1, h2⟩ | ⟨h, h1, h2, h3⟩
  all_goals
    go_enter Tryz.func41, Tryz.ntmps41
    go_wp2
    go_ret2
    exact ⟨rfl, rfl⟩
theorem rPrint_same (b : Nat) (key alter : Int) (f : Nat → Int) (k : Nat) (w : World) (h : RSt w b key f) (hk : k < 70) (h5 : -1 ≤ alter) (h6 : alter ≤ 1) (hc : f k = alter) :
    Calls Tryz.prog 41 #[.pointer (some ⟨b, 0, none⟩), .int .i64 (k : Int), .int .i64 alter] w fun e w' => e = .returned (.tuple #[.int .i64 0, .int .i64 0]) ∧ w = w' := by
  have c := h.at hk
  rw [hc] at c
  clear h hc
  go_enter Tryz.func41, Tryz.ntmps41
  go_wp2
  go_ret2
  exact ⟨rfl, rfl⟩
def RStored (b : Nat) (key : Int) (k : Nat) (v : Int) (f : Nat → Int) (w : World) (r : Value) (e : Ending) (w' : World) : Prop :=
  e = .returned r ∧ RSt w' b key (updN f k v) ∧ w.grownBy w' (some b)
theorem rPrint_new (b : Nat) (key alter : Int) (f : Nat → Int) (k : Nat) (w : World) (h : RSt w b key f) (hk : k < 70) (h5 : -1 ≤ alter) (h6 : alter ≤ 1) (hc : f k ≠ alter) :
    Calls Tryz.prog 41 #[.pointer (some ⟨b, 0, none⟩), .int .i64 (k : Int), .int .i64 alter] w (RStored b key k alter f w (.tuple #[.int .i64 (accOf alter), .int .i64 0])) := by
  have c := h.at hk
  have z := h.free (1 + k)
  have HS := Lib.hid h
  have hb : (f k == alter) = false := beq_eq_false_iff_ne.2 hc
  clear h hc
  generalize hfk : f k = v at *
  clear hfk
  rcases (by omega : alter = -1 ∨ alter = 0 ∨ alter = 1) with rfl | rfl | rfl
  all_goals
    clear h5 h6
    go_enter Tryz.func41, Tryz.ntmps41
    go_wp2
    go_ret2
    exact ⟨rfl, HS.out.set hk _, grown_set w _ _⟩

theorem rHear_step (b : Nat) (step acc : Int) (w : World) (h : step < 0 ∨ 70 ≤ step) :
    Calls Tryz.prog 43 #[.pointer (some ⟨b, 0, none⟩), .int .i64 step, .int .i64 acc] w fun e w' => e = .returned (.tuple #[.int .i64 0, .int .i64 34]) ∧ w = w' := by
  have h' : step < 0 ∨ (¬ step < 0 ∧ 69 < step) := by omega
  clear h
  rcases h' with h | ⟨h, h1⟩
  all_goals
    go_enter Tryz.func43, Tryz.ntmps43
    go_wp2
    go_ret2
    exact ⟨rfl, rfl⟩
theorem rHear_acc (b : Nat) (step acc : Int) (w : World) (h0 : 0 ≤ step) (h1 : step < 70) (h : acc < 0 ∨ 3 < acc) :
    Calls Tryz.prog 43 #[.pointer (some ⟨b, 0, none⟩), .int .i64 step, .int .i64 acc] w fun e w' => e = .returned (.tuple #[.int .i64 0, .int .i64 66]) ∧ w = w' := by
  have h' : acc < 0 ∨ (¬ acc < 0 ∧ 3 < acc) := by omega
  clear h
  rcases h' with h | ⟨h, h2⟩
  all_goals
    go_enter Tryz.func43, Tryz.ntmps43
    go_wp2
    go_ret2
    exact ⟨rfl, rfl⟩
theorem rHear_zero (b : Nat) (key : Int) (f : Nat → Int) (k : Nat) (w : World) (h : RSt w b key f) (hk : k < 70) :
    Calls Tryz.prog 43 #[.pointer (some ⟨b, 0, none⟩), .int .i64 (k : Int), .int .i64 0] w fun e w' => e = .returned (.tuple #[.int .i64 (f k), .int .i64 0]) ∧ w = w' := by
  have c := h.at hk
  clear h
  go_enter Tryz.func43, Tryz.ntmps43
  go_wp2
  go_ret2
  exact ⟨rfl, rfl⟩
set_option maxRecDepth 100000 in
theorem rHear_same (b : Nat) (key acc : Int) (f : Nat → Int) (k : Nat) (w : World) (h : RSt w b key f) (hk : k < 70) (h5 : 1 ≤ acc) (h6 : acc ≤ 3) (hc : means acc = f k) :
    Calls Tryz.prog 43 #[.pointer (some ⟨b, 0, none⟩), .int .i64 (k : Int), .int .i64 acc] w fun e w' => e = .returned (.tuple #[.int .i64 0, .int .i64 66]) ∧ Below w.heap.size w w' := by
  have c := h.at hk
  have HM := Lib.hid fun w => rsays_c acc w
  rw [hc] at HM
  have ha : (acc == 0) = false := beq_eq_false_iff_ne.2 (by omega)
  clear h hc
  generalize f k = v at *
  go_enter Tryz.func43, Tryz.ntmps43
  go_wp2_with fail
  go_quiet ((go_at_call 80; exact calls_drewN (HM.out _)))
  go_wp2_with fail
  go_ret2
  exact ⟨rfl, below_drewN' (Below.refl _ _) _⟩
/-- what is kept of block b while its cell is written -/
abbrev Rk (W : World) (b : Nat) (key : Int) (k : Nat) (w' : World) : Prop := w'.cell? ⟨b, 0, none⟩ = some (.int .i64 key) ∧ (w'.cell? ⟨b, 1 + k, none⟩).isSome = true ∧ w'.frozen? ⟨b, 1 + k, none⟩ = false ∧ W.grownBy w' (some b)
theorem Rk_of {W w' : World} {b k : Nat} {key : Int} {f : Nat → Int} (h : RSt w' b key f) (hk : k < 70) (hg : W.grownBy w' (some b)) : Rk W b key k w' :=
  ⟨h.c0, by rw [h.at hk]; rfl, h.free _, hg⟩
theorem Rk_drew {W w' : World} {b k : Nat} {key : Int} (h : Rk W b key k w') : Rk W b key k w'.drew := ⟨h.1, h.2.1, h.2.2.1, ⟨h.2.2.2.os, h.2.2.2.tape, h.2.2.2.output, h.2.2.2.size, h.2.2.2.block⟩⟩
theorem Rk_set {W w' : World} {b k : Nat} {key : Int} (h : Rk W b key k w') (v : Value) : Rk W b key k (w'.setCell ⟨b, 1 + k, none⟩ v) := by
  obtain ⟨u, hu⟩ := Option.isSome_iff_exists.1 h.2.1
  exact ⟨(World.cell?_setCell_other _ _ _ _ (by simp)).trans h.1, by rw [World.cell?_setCell_same _ _ _ hu]; rfl, (World.frozen?_setCell _ _ _ _).trans h.2.2.1, grown_grown h.2.2.2 (grown_set w' ⟨b, 1 + k, none⟩ v)⟩
theorem Rk_call {W w' w1 : World} {b k : Nat} {key : Int} (h : Rk W b key k w') (hb : b < W.heap.size) (hc : Below w'.heap.size w' w1) : Rk W b key k w1 := by
  have hlt : b < w'.heap.size := Nat.lt_of_lt_of_le hb h.2.2.2.size
  exact ⟨(hc.cell (p := ⟨b, 0, none⟩) hlt).trans h.1, by rw [hc.cell (p := ⟨b, 1 + k, none⟩) hlt]; exact h.2.1, (hc.frozen (p := ⟨b, 1 + k, none⟩) hlt).trans h.2.2.1, grown_below h.2.2.2 hc⟩
set_option maxRecDepth 100000 in
set_option maxHeartbeats 1000000 in
theorem rHear_new (b : Nat) (key acc : Int) (f : Nat → Int) (k : Nat) (w : World) (h : RSt w b key f) (hk : k < 70) (h5 : 1 ≤ acc) (h6 : acc ≤ 3) (hc : means acc ≠ f k) :
    Calls Tryz.prog 43 #[.pointer (some ⟨b, 0, none⟩), .int .i64 (k : Int), .int .i64 acc] w (RStored b key k (means acc) f w (.tuple #[.int .i64 (means acc), .int .i64 0])) := by
  have c := h.at hk
  have HS := Lib.hid h
  have HM := Lib.hid fun w => rsays_c acc w
  have ha : (acc == 0) = false := beq_eq_false_iff_ne.2 (by omega)
  have hb : (f k == means acc) = false := beq_eq_false_iff_ne.2 (Ne.symm hc)
  clear h hc
  generalize hfk : f k = v at *
  generalize means acc = m at *
  clear hfk
  go_enter Tryz.func43, Tryz.ntmps43
  go_wp2_with fail
  go_quiet ((go_at_call 80; exact calls_drewN (HM.out _)))
  go_wp2_with fail
  refine wp_named fun W hW => ?_
  have hR : RSt W b key f := by rw [hW]; exact HS.out
  have hg : w.grownBy W (some b) := by rw [hW]; exact ⟨rfl, rfl, rfl, Nat.le_refl _, fun _ _ _ => rfl⟩
  have HK : Hid (Rk w b key k W) := Rk_of hR hk hg
  have hRH := Lib.hid hR
  obtain ⟨k0, k1, k2, k3⟩ := HK.out
  have cW := hR.at hk
  have zW := hR.free (1 + k)
  have i0 : (0 : Int) ≤ (k : Int) := by omega
  have i1 : (k : Int) < 70 := by omega
  clear hW hR c k1 k2
  go_region_held3 (fun w' => Rk w b key k w') (first | assumption | exact Rk_drew HK.out | exact Rk_set (by assumption) _) ((go_at_call 80; refine (HM.out _).mono ?_; rintro e w3 ⟨rfl, rfl⟩))
  all_goals
    have hH := (by assumption : Rk w b key k _)
    have hG := Lib.hid hH.2.2.2
    clear hH k0 k3 hg HK
    go_wp2_with fail
    go_ret2
    exact ⟨rfl, hRH.out.set hk _, hG.out⟩

theorem RSt_next {W W' w1 : World} {b : Nat} {key : Int} {g : Nat → Int} (hb : Below W'.heap.size W' w1) (h : RSt W b key g) (e : W'.heap = W.heap) : RSt w1 b key g :=
  RSt.below (w := W') (by unfold RSt at *; rw [e]; exact h) hb
/-- Reset -/
def resetF (key : Int) (f : Nat → Int) (k : Nat) : Nat → Int := fun j => if j < k then keyAlt key (j : Int) else f j
theorem resetF_succ (key : Int) (f : Nat → Int) (k : Nat) : updN (resetF key f k) k (keyAlt key (k : Int)) = resetF key f (k + 1) := by
  funext j
  unfold updN resetF
  by_cases h : j = k
  · subst h; rw [if_pos rfl, if_pos (by omega)]
  · rw [if_neg h]
    by_cases h2 : j < k
    · rw [if_pos h2, if_pos (by omega)]
    · rw [if_neg h2, if_neg (by omega)]
theorem rowOf_congr {key : Int} {f g : Nat → Int} (h : ∀ j, j < 70 → f j = g j) : rowOf key f = rowOf key g := by
  unfold rowOf
  congr 2
  apply List.map_congr_left
  intro j hj
  rw [h j (List.mem_range.1 hj)]
theorem RSt.congr {w : World} {b : Nat} {key : Int} {f g : Nat → Int} (h : RSt w b key f) (hf : ∀ j, j < 70 → f j = g j) : RSt w b key g := by
  unfold RSt at *
  rw [← rowOf_congr hf]; exact h
set_option maxRecDepth 100000 in
set_option maxHeartbeats 2000000 in
theorem rReset_c (b : Nat) (key : Int) (f : Nat → Int) (w : World) (h : RSt w b key f) (h1 : -4 ≤ key) (h2 : key ≤ 4) :
    Calls Tryz.prog 45 #[.pointer (some ⟨b, 0, none⟩)] w fun e w' => e = .returned (.tuple #[]) ∧ RSt w' b key (fun j => keyAlt key (j : Int)) ∧ w.grownBy w' (some b) := by
  have HS := Lib.hid h
  clear h
  go_enter Tryz.func45, Tryz.ntmps45
  go_wp2_with fail
  go_loopw [2] (fun i wr => ∃ k : Nat, k ≤ 70 ∧ i = .int .i64 k ∧ Hid (RSt wr b key (resetF key f k)) ∧ Hid (w.grownBy wr (some b))) (fun i _ => 70 - (intOf i).toNat)
  case atStart => exact ⟨0, by omega, rfl, by unfold resetF; exact HS.out.congr (fun j _ => by rw [if_neg (by omega)]), ⟨rfl, rfl, rfl, Nat.le_refl _, fun _ _ _ => rfl⟩⟩
  case round =>
    obtain ⟨k, hk, rfl, HR, HG⟩ := hrel
    by_cases hlt : k < 70
    · have i0 : (0 : Int) ≤ (k : Int) := by omega
      have i1 : (k : Int) < 70 := by omega
      have HC := Lib.hid fun w => rAlter_c key (k : Int) w h1 h2 i0 i1
      have HK : Hid (Rk w b key k wr) := Rk_of HR.out hlt HG.out
      have HL := Lib.hid HR.out.lt
      have k0 := HR.out.c0
      have cW := HR.out.at hlt
      have zW := HR.out.free (1 + k)
      go_wp2_with fail
      go_region_held3 (fun w' => Rk wr b key k w') (first | assumption | exact Rk_drew (Rk_of HR.out hlt ⟨rfl, rfl, rfl, Nat.le_refl _, fun _ _ _ => rfl⟩) | exact Rk_call (by assumption) HL.out (by assumption) | exact Rk_set (by assumption) _) ((go_at_call 34; refine (HC.out _).mono ?_; rintro e w3 ⟨rfl, hb3⟩; have hR3 : Hid (RSt w3 b key (resetF key f k)) := RSt_next hb3 HR.out rfl; have c3 := RSt.at hR3.out hlt; have z3 := RSt.free hR3.out (1 + k)))
      all_goals
        have hG2 := Lib.hid (grown_grown HG.out (by assumption : Rk wr b key k _).2.2.2)
        have hR4 : Hid (RSt (w3.setCell ⟨b, 1 + k, none⟩ (.int .i64 (keyAlt key (k : Int)))) b key (resetF key f (k + 1))) := by rw [← resetF_succ]; exact hR3.out.set hlt _
        clear hR3 c3 z3 hb3 k0 cW zW HK HL HR HG HC
        go_wp2_with fail
        go_roundw
        case rel => exact ⟨k + 1, by omega, by go_num, hR4, hG2⟩
        case measure => simp [intOf]; omega
    · obtain rfl : k = 70 := by omega
      go_wp2_with fail
      go_end0
      exact ⟨rfl, HR.out.congr (fun j hj => by unfold resetF; rw [if_pos hj]), HG.out⟩
end Go.Proofs.YthfclapnkemjiaaGreatDoor
